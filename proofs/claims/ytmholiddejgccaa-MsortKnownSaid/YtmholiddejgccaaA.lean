/- Merging, sorting, inversions: plain laws on lists. They speak of no program. -/
namespace Go.Proofs.Ytmholiddejgccaa

structure SWO {α : Type} (lt : α → α → Bool) : Prop where
  irr : ∀ x, lt x x = false
  trans : ∀ x y z, lt x y = true → lt y z = true → lt x z = true
  neg : ∀ x y z, lt x y = false → lt y z = false → lt x z = false
theorem SWO.asymm {α : Type} {lt : α → α → Bool} (h : SWO lt) {x y : α} (hxy : lt x y = true) : lt y x = false := by
  cases e : lt y x
  · rfl
  · have := h.trans x y x hxy e; rw [h.irr] at this; cases this

section
variable {α : Type} (lt : α → α → Bool)
def mrg : List α → List α → List α
  | [], b => b
  | x :: a, [] => x :: a
  | x :: a, y :: b => if lt y x then y :: mrg (x :: a) b else x :: mrg a (y :: b)
termination_by a b => a.length + b.length
def mprs : List α → List α → Nat
  | [], _ => 0
  | _ :: _, [] => 0
  | x :: a, y :: b => if lt y x then (a.length + 1) + mprs (x :: a) b else mprs a (y :: b)
termination_by a b => a.length + b.length
def arr (l : List α) : List α :=
  if l.length < 2 then l else mrg lt (arr (l.take (l.length / 2))) (arr (l.drop (l.length / 2)))
termination_by l.length
decreasing_by all_goals (simp; omega)
def arrN (l : List α) : Nat :=
  if l.length < 2 then 0 else arrN (l.take (l.length / 2)) + arrN (l.drop (l.length / 2)) + mprs lt (arr lt (l.take (l.length / 2))) (arr lt (l.drop (l.length / 2)))
termination_by l.length
decreasing_by all_goals (simp; omega)
def inv : List α → Nat
  | [] => 0
  | x :: l => l.countP (fun y => lt y x) + inv l
def crs : List α → List α → Nat
  | [], _ => 0
  | x :: a, b => b.countP (fun y => lt y x) + crs a b
/-- In order. -/
def Srt (l : List α) : Prop := l.Pairwise fun x y => lt y x = false
end

variable {α : Type} {lt : α → α → Bool}
theorem mrg_nil (b : List α) : mrg lt [] b = b := by unfold mrg; rfl
theorem mrg_nil' (a : List α) : mrg lt a [] = a := by cases a <;> simp [mrg]
theorem mrg_yes {x y : α} {a b : List α} (h : lt y x = true) : mrg lt (x :: a) (y :: b) = y :: mrg lt (x :: a) b := by rw [mrg]; simp [h]
theorem mrg_no {x y : α} {a b : List α} (h : lt y x = false) : mrg lt (x :: a) (y :: b) = x :: mrg lt a (y :: b) := by rw [mrg]; simp [h]
theorem mprs_nil (b : List α) : mprs lt [] b = 0 := by unfold mprs; rfl
theorem mprs_nil' (a : List α) : mprs lt a [] = 0 := by cases a <;> simp [mprs]
theorem mprs_yes {x y : α} {a b : List α} (h : lt y x = true) : mprs lt (x :: a) (y :: b) = (a.length + 1) + mprs lt (x :: a) b := by rw [mprs]; simp [h]
theorem mprs_no {x y : α} {a b : List α} (h : lt y x = false) : mprs lt (x :: a) (y :: b) = mprs lt a (y :: b) := by rw [mprs]; simp [h]
/-- Induction along a merge. -/
theorem mrg_ind {P : List α → List α → Prop} (h0 : ∀ b, P [] b) (h1 : ∀ a, P a []) (h2 : ∀ x a y b, lt y x = true → P (x :: a) b → P (x :: a) (y :: b)) (h3 : ∀ x a y b, lt y x = false → P a (y :: b) → P (x :: a) (y :: b)) (a b : List α) : P a b := by
  have : ∀ n, ∀ a b : List α, a.length + b.length = n → P a b := by
    intro n
    induction n using Nat.strongRecOn with
    | _ n ih =>
      intro a b hn
      cases a with
      | nil => exact h0 b
      | cons x a =>
        cases b with
        | nil => exact h1 _
        | cons y b =>
          cases e : lt y x
          · exact h3 x a y b e (ih (a.length + (y :: b).length) (by simp at hn ⊢; omega) _ _ rfl)
          · exact h2 x a y b e (ih ((x :: a).length + b.length) (by simp at hn ⊢; omega) _ _ rfl)
  exact this _ a b rfl
theorem mrg_perm (a b : List α) : (mrg lt a b).Perm (a ++ b) := by
  induction a, b using mrg_ind (lt := lt) with
  | h0 b => rw [mrg_nil]; exact List.Perm.refl _
  | h1 a => rw [mrg_nil', List.append_nil]
  | h2 x a y b h ih => rw [mrg_yes h]; exact (ih.cons y).trans (List.perm_middle.symm)
  | h3 x a y b h ih => rw [mrg_no h]; exact ih.cons x
theorem mrg_length (a b : List α) : (mrg lt a b).length = a.length + b.length := by rw [(mrg_perm a b).length_eq, List.length_append]
theorem arr_short {l : List α} (h : l.length < 2) : arr lt l = l := by rw [arr, if_pos h]
theorem arr_long {l : List α} (h : ¬ l.length < 2) : arr lt l = mrg lt (arr lt (l.take (l.length / 2))) (arr lt (l.drop (l.length / 2))) := by rw [arr, if_neg h]
theorem arrN_short {l : List α} (h : l.length < 2) : arrN lt l = 0 := by rw [arrN, if_pos h]
theorem arrN_long {l : List α} (h : ¬ l.length < 2) : arrN lt l = arrN lt (l.take (l.length / 2)) + arrN lt (l.drop (l.length / 2)) + mprs lt (arr lt (l.take (l.length / 2))) (arr lt (l.drop (l.length / 2))) := by rw [arrN, if_neg h]
theorem arr_ind {P : List α → Prop} (h0 : ∀ l, l.length < 2 → P l) (h1 : ∀ l, ¬ l.length < 2 → P (l.take (l.length / 2)) → P (l.drop (l.length / 2)) → P l) (l : List α) : P l := by
  have : ∀ n, ∀ l : List α, l.length = n → P l := by
    intro n
    induction n using Nat.strongRecOn with
    | _ n ih =>
      intro l hn
      by_cases h : l.length < 2
      · exact h0 l h
      · exact h1 l h (ih (l.length / 2) (by omega) _ (by simp; omega)) (ih (l.length - l.length / 2) (by omega) _ (by simp))
  exact this _ l rfl
theorem arr_perm (l : List α) : (arr lt l).Perm l := by
  induction l using arr_ind with
  | h0 l h => rw [arr_short h]
  | h1 l h h1 h2 =>
    rw [arr_long h]
    have := (mrg_perm (lt := lt) (arr lt (l.take (l.length / 2))) (arr lt (l.drop (l.length / 2)))).trans (h1.append h2)
    rwa [List.take_append_drop] at this
theorem arr_length (l : List α) : (arr lt l).length = l.length := (arr_perm l).length_eq

/-! Merging keeps any relation that the two lists have. -/
theorem mrg_pair {R : α → α → Prop} {a b : List α} (ha : a.Pairwise R) (hb : b.Pairwise R) (h1 : ∀ x ∈ a, ∀ y ∈ b, lt y x = true → R y x) (h2 : ∀ x ∈ a, ∀ y ∈ b, lt y x = false → R x y)
    (t1 : ∀ x ∈ a, ∀ x' ∈ a, ∀ y ∈ b, R x x' → lt y x = true → lt y x' = true) (t2 : ∀ x ∈ a, ∀ y ∈ b, ∀ y' ∈ b, R y y' → lt y x = false → lt y' x = false) : (mrg lt a b).Pairwise R := by
  induction a, b using mrg_ind (lt := lt) with
  | h0 b => rw [mrg_nil]; exact hb
  | h1 a => rw [mrg_nil']; exact ha
  | h2 x a y b h ih =>
    rw [mrg_yes h]
    obtain ⟨hb1, hb2⟩ := List.pairwise_cons.1 hb
    refine List.pairwise_cons.2 ⟨fun z hz => ?_, ih ha hb2 (fun x hx y hy => h1 x hx y (List.mem_cons_of_mem _ hy)) (fun x hx y hy => h2 x hx y (List.mem_cons_of_mem _ hy)) (fun x hx x' hx' y hy => t1 x hx x' hx' y (List.mem_cons_of_mem _ hy)) (fun x hx y hy y' hy' => t2 x hx y (List.mem_cons_of_mem _ hy) y' (List.mem_cons_of_mem _ hy'))⟩
    rcases List.mem_append.1 ((mrg_perm _ _).mem_iff.1 hz) with hz | hz
    · rcases List.mem_cons.1 hz with rfl | hz'
      · exact h1 z List.mem_cons_self y List.mem_cons_self h
      · exact h1 z hz y List.mem_cons_self (t1 x List.mem_cons_self z hz y List.mem_cons_self ((List.pairwise_cons.1 ha).1 z hz') h)
    · exact hb1 z hz
  | h3 x a y b h ih =>
    rw [mrg_no h]
    obtain ⟨ha1, ha2⟩ := List.pairwise_cons.1 ha
    refine List.pairwise_cons.2 ⟨fun z hz => ?_, ih ha2 hb (fun x hx y hy => h1 x (List.mem_cons_of_mem _ hx) y hy) (fun x hx y hy => h2 x (List.mem_cons_of_mem _ hx) y hy) (fun x hx x' hx' y hy => t1 x (List.mem_cons_of_mem _ hx) x' (List.mem_cons_of_mem _ hx') y hy) (fun x hx y hy y' hy' => t2 x (List.mem_cons_of_mem _ hx) y hy y' hy')⟩
    rcases List.mem_append.1 ((mrg_perm _ _).mem_iff.1 hz) with hz | hz
    · exact ha1 z hz
    · rcases List.mem_cons.1 hz with rfl | hz'
      · exact h2 x List.mem_cons_self z List.mem_cons_self h
      · exact h2 x List.mem_cons_self z hz (t2 x List.mem_cons_self y List.mem_cons_self z hz ((List.pairwise_cons.1 hb).1 z hz') h)
theorem lt_of_lt_le (h : SWO lt) {x y z : α} (h1 : lt x y = true) (h2 : lt z y = false) : lt x z = true := by
  cases e : lt x z
  · have := h.neg x z y e h2; rw [h1] at this; cases this
  · rfl
theorem mrg_srt (h : SWO lt) {a b : List α} (ha : Srt lt a) (hb : Srt lt b) : Srt lt (mrg lt a b) :=
  mrg_pair ha hb (fun _ _ _ _ e => h.asymm e) (fun _ _ _ _ e => e) (fun _ _ _ _ _ _ hr e => lt_of_lt_le h e hr) (fun _ _ _ _ _ _ hr e => h.neg _ _ _ hr e)
theorem arr_srt (h : SWO lt) (l : List α) : Srt lt (arr lt l) := by
  induction l using arr_ind with
  | h0 l hl =>
    rw [arr_short hl]
    match l, hl with
    | [], _ => exact List.Pairwise.nil
    | [x], _ => exact List.pairwise_singleton _ _
    | _ :: _ :: _, hl => simp at hl; omega
  | h1 l hl h1 h2 => rw [arr_long hl]; exact mrg_srt h h1 h2

/-! Inversions. -/
theorem crs_nil (a : List α) : crs lt a [] = 0 := by induction a with | nil => rfl | cons x a ih => simp [crs, ih]
theorem crs_cons (a : List α) (y : α) (b : List α) : crs lt a (y :: b) = a.countP (fun x => lt y x) + crs lt a b := by
  induction a with
  | nil => rfl
  | cons x a ih =>
    simp only [crs, ih, List.countP_cons]
    split <;> omega
theorem inv_append (a b : List α) : inv lt (a ++ b) = inv lt a + inv lt b + crs lt a b := by
  induction a with
  | nil => simp [inv, crs]
  | cons x a ih => simp only [List.cons_append, inv, ih, crs, List.countP_append]; omega
theorem crs_perm {a a' b b' : List α} (ha : a.Perm a') (hb : b.Perm b') : crs lt a b = crs lt a' b' := by
  have h1 : ∀ a : List α, crs lt a b = crs lt a b' := fun a => by
    induction a with
    | nil => rfl
    | cons x a ih => simp only [crs, ih, hb.countP_eq]
  rw [h1]
  clear h1 hb
  induction ha with
  | nil => rfl
  | cons x _ ih => simp only [crs, ih]
  | swap x y l => simp only [crs]; omega
  | trans _ _ ih1 ih2 => rw [ih1, ih2]
theorem mprs_eq (h : SWO lt) {a b : List α} (ha : Srt lt a) (hb : Srt lt b) : mprs lt a b = crs lt a b := by
  induction a, b using mrg_ind (lt := lt) with
  | h0 b => rw [mprs_nil]; rfl
  | h1 a => rw [mprs_nil', crs_nil]
  | h2 x a y b hy ih =>
    rw [mprs_yes hy, crs_cons, ih ha (List.pairwise_cons.1 hb).2]
    have : (x :: a).countP (fun x => lt y x) = (x :: a).length := by
      rw [List.countP_eq_length]
      intro z hz
      rcases List.mem_cons.1 hz with rfl | hz
      · exact hy
      · exact lt_of_lt_le h hy ((List.pairwise_cons.1 ha).1 z hz)
    rw [this]; rfl
  | h3 x a y b hy ih =>
    rw [mprs_no hy, ih (List.pairwise_cons.1 ha).2 hb]
    have : (y :: b).countP (fun y => lt y x) = 0 := by
      rw [List.countP_eq_zero]
      intro z hz
      rcases List.mem_cons.1 hz with rfl | hz
      · simp [hy]
      · simp [h.neg z y x ((List.pairwise_cons.1 hb).1 z hz) hy]
    simp only [crs, this]; omega
theorem arrN_eq (h : SWO lt) (l : List α) : arrN lt l = inv lt l := by
  induction l using arr_ind with
  | h0 l hl =>
    rw [arrN_short hl]
    match l, hl with
    | [], _ => rfl
    | [x], _ => simp [inv]
    | _ :: _ :: _, hl => simp at hl; omega
  | h1 l hl h1 h2 =>
    rw [arrN_long hl, h1, h2, mprs_eq h (arr_srt h _) (arr_srt h _), crs_perm (arr_perm _) (arr_perm _), ← inv_append, List.take_append_drop]
theorem inv_snoc (l : List α) (y : α) : inv lt (l ++ [y]) = inv lt l + l.countP (fun x => lt y x) := by
  rw [inv_append, crs_cons, crs_nil]; simp [inv]
theorem inv_zero {l : List α} : inv lt l = 0 ↔ Srt lt l := by
  induction l with
  | nil => simp [inv, Srt]
  | cons x l ih =>
    simp only [inv, Srt, List.pairwise_cons, Nat.add_eq_zero_iff, List.countP_eq_zero]
    rw [ih]
    constructor
    · rintro ⟨h1, h2⟩; exact ⟨fun y hy => by simpa using h1 y hy, h2⟩
    · rintro ⟨h1, h2⟩; exact ⟨fun y hy => by simpa using h1 y hy, h2⟩
theorem inv_le (l : List α) : 2 * inv lt l ≤ l.length * l.length := by
  induction l with
  | nil => simp [inv]
  | cons x l ih =>
    simp only [inv, List.length_cons]
    have := List.countP_le_length (p := fun y => lt y x) (l := l)
    have e : (l.length + 1) * (l.length + 1) = l.length * l.length + 2 * l.length + 1 := by
      rw [Nat.add_mul, Nat.mul_add]; omega
    omega
theorem inv_swap (p : List α) (x y : α) (q : List α) (b1 b2 : Nat) (h1 : b1 = if lt y x then 1 else 0) (h2 : b2 = if lt x y then 1 else 0) : inv lt (p ++ x :: y :: q) + b2 = inv lt (p ++ y :: x :: q) + b1 := by
  rw [inv_append, inv_append, crs_perm (List.Perm.refl p) (List.Perm.swap y x q)]
  simp only [inv, List.countP_cons]
  split at h1 <;> split at h2 <;> simp_all <;> omega
/-- Being in order, by neighbours. -/
theorem srt_next (h : SWO lt) {l : List α} (d : α) (hn : ∀ i, i + 1 < l.length → lt (l.getD (i + 1) d) (l.getD i d) = false) : Srt lt l := by
  induction l with
  | nil => exact List.Pairwise.nil
  | cons x l ih =>
    have hl := ih (fun i hi => by have := hn (i + 1) (by simp; omega); simpa using this)
    refine List.pairwise_cons.2 ⟨fun z hz => ?_, hl⟩
    cases l with
    | nil => cases hz
    | cons y l =>
      have h1 : lt y x = false := by have := hn 0 (by simp); simpa using this
      rcases List.mem_cons.1 hz with rfl | hz
      · exact h1
      · exact h.neg z y x ((List.pairwise_cons.1 hl).1 z hz) h1
theorem srt_at {l : List α} (hs : Srt lt l) (d : α) {i j : Nat} (hij : i < j) (hj : j < l.length) : lt (l.getD j d) (l.getD i d) = false := by
  have := List.pairwise_iff_getElem.1 hs i j (by omega) hj hij
  simpa [hj, show i < l.length by omega] using this

/-! Under a map. -/
theorem mrg_map {β : Type} (f : β → α) (a b : List β) : mrg lt (a.map f) (b.map f) = (mrg (fun i j => lt (f i) (f j)) a b).map f := by
  induction a, b using mrg_ind (lt := fun i j => lt (f i) (f j)) with
  | h0 b => rw [mrg_nil]; simp [mrg_nil]
  | h1 a => rw [mrg_nil']; simp [mrg_nil']
  | h2 x a y b h ih => rw [mrg_yes (lt := fun i j => lt (f i) (f j)) h]; simp only [List.map_cons] at ih ⊢; rw [mrg_yes h, ih]
  | h3 x a y b h ih => rw [mrg_no (lt := fun i j => lt (f i) (f j)) h]; simp only [List.map_cons] at ih ⊢; rw [mrg_no h, ih]
theorem arr_map {β : Type} (f : β → α) (l : List β) : arr lt (l.map f) = (arr (fun i j => lt (f i) (f j)) l).map f := by
  induction l using arr_ind with
  | h0 l h => rw [arr_short h, arr_short (by simpa using h)]
  | h1 l h h1 h2 =>
    rw [arr_long h, arr_long (by simpa using h)]
    simp only [List.length_map, ← List.map_take, ← List.map_drop]
    rw [h1, h2, mrg_map]
theorem SWO.map {β : Type} (h : SWO lt) (f : β → α) : SWO (fun i j => lt (f i) (f j)) := ⟨fun _ => h.irr _, fun _ _ _ => h.trans _ _ _, fun _ _ _ => h.neg _ _ _⟩

/-! Sorting indexes: the one stable order. -/
/-- The order of indexes: by the records, then by themselves. -/
def ord (lt : Nat → Nat → Bool) (i j : Nat) : Prop := lt i j = true ∨ (lt j i = false ∧ i < j)
variable {lu : Nat → Nat → Bool}
theorem ord_asymm (h : SWO lu) {i j : Nat} (h1 : ord lu i j) (h2 : ord lu j i) : False := by
  rcases h1 with h1 | ⟨h1, h1'⟩ <;> rcases h2 with h2 | ⟨h2, h2'⟩
  · have := h.asymm h1; rw [h2] at this; cases this
  · rw [h1] at h2; cases h2
  · rw [h1] at h2; cases h2
  · omega
theorem ord_le (h : SWO lu) {i j : Nat} (h1 : ord lu i j) : lu j i = false := by
  rcases h1 with h1 | h1
  · exact h.asymm h1
  · exact h1.1
theorem mrg_ord (h : SWO lu) {a b : List Nat} (ha : a.Pairwise (ord lu)) (hb : b.Pairwise (ord lu)) (hab : ∀ x ∈ a, ∀ y ∈ b, x < y) : (mrg lu a b).Pairwise (ord lu) :=
  mrg_pair ha hb (fun _ _ _ _ e => Or.inl e) (fun x hx y hy e => Or.inr ⟨e, hab x hx y hy⟩) (fun _ _ _ _ _ _ hr e => lt_of_lt_le h e (ord_le h hr)) (fun _ _ _ _ _ _ hr e => h.neg _ _ _ (ord_le h hr) e)
theorem arr_ord (h : SWO lu) {l : List Nat} (hl : l.Pairwise (· < ·)) : (arr lu l).Pairwise (ord lu) := by
  induction l using arr_ind with
  | h0 l hlt =>
    rw [arr_short hlt]
    match l, hlt with
    | [], _ => exact List.Pairwise.nil
    | [x], _ => exact List.pairwise_singleton _ _
    | _ :: _ :: _, hl => simp at hl; omega
  | h1 l hlt h1 h2 =>
    rw [arr_long hlt]
    have e := List.take_append_drop (l.length / 2) l
    rw [← e, List.pairwise_append] at hl
    exact mrg_ord h (h1 hl.1) (h2 hl.2.1) (fun x hx y hy => hl.2.2 x ((arr_perm _).mem_iff.1 hx) y ((arr_perm _).mem_iff.1 hy))
theorem srt_ord {l : List Nat} (hl : l.Pairwise (· < ·)) (hs : Srt lu l) : l.Pairwise (ord lu) := (hl.and hs).imp (fun h => Or.inr ⟨h.2, h.1⟩)
theorem ord_unique (h : SWO lu) : ∀ {p q : List Nat}, p.Perm q → p.Pairwise (ord lu) → q.Pairwise (ord lu) → p = q
  | [], q, hpq, _, _ => (List.nil_perm.1 hpq).symm
  | x :: p, [], hpq, _, _ => (List.perm_nil.1 hpq)
  | x :: p, y :: q, hpq, hp, hq => by
    obtain ⟨hp1, hp2⟩ := List.pairwise_cons.1 hp
    obtain ⟨hq1, hq2⟩ := List.pairwise_cons.1 hq
    have hxy : x = y := by
      rcases List.mem_cons.1 (hpq.mem_iff.1 (List.mem_cons_self (a := x))) with e | e
      · exact e
      · rcases List.mem_cons.1 (hpq.mem_iff.2 (List.mem_cons_self (a := y))) with e' | e'
        · exact e'.symm
        · exact absurd (hp1 y e') (fun hh => ord_asymm h hh (hq1 x e))
    subst hxy
    rw [ord_unique h ((List.perm_cons x).1 hpq) hp2 hq2]

/-- Insertion from the end (the list backwards). -/
def insR (lu : Nat → Nat → Bool) (x : Nat) : List Nat → List Nat
  | [] => [x]
  | y :: r => if lu x y then y :: insR lu x r else x :: y :: r
theorem insR_perm (x : Nat) (r : List Nat) : (insR lu x r).Perm (x :: r) := by
  induction r with
  | nil => exact List.Perm.refl _
  | cons y r ih =>
    simp only [insR]; split
    · exact (ih.cons y).trans (List.Perm.swap x y r)
    · exact List.Perm.refl _
theorem insR_ord (h : SWO lu) (x : Nat) {r : List Nat} (hr : r.Pairwise (fun a b => ord lu b a)) (hx : ∀ y ∈ r, y < x) : (insR lu x r).Pairwise (fun a b => ord lu b a) := by
  induction r with
  | nil => exact List.pairwise_singleton _ _
  | cons y r ih =>
    obtain ⟨h1, h2⟩ := List.pairwise_cons.1 hr
    simp only [insR]; split
    · rename_i hxy
      refine List.pairwise_cons.2 ⟨fun z hz => ?_, ih h2 (fun y hy => hx y (List.mem_cons_of_mem _ hy))⟩
      rcases List.mem_cons.1 ((insR_perm x r).mem_iff.1 hz) with rfl | hz
      · exact Or.inl hxy
      · exact h1 z hz
    · rename_i hxy
      have hxy : lu x y = false := by simpa using hxy
      refine List.pairwise_cons.2 ⟨fun z hz => ?_, hr⟩
      rcases List.mem_cons.1 hz with rfl | hz'
      · exact Or.inr ⟨hxy, hx z hz⟩
      · exact Or.inr ⟨h.neg x y z hxy (ord_le h (h1 z hz')), hx z hz⟩
/-- The document's order of the first n indexes. -/
def ins (lu : Nat → Nat → Bool) : Nat → List Nat
  | 0 => []
  | n + 1 => (insR lu n (ins lu n).reverse).reverse
theorem ins_perm (n : Nat) : (ins lu n).Perm (List.range n) := by
  induction n with
  | zero => exact List.Perm.refl _
  | succ n ih =>
    rw [List.range_succ]
    exact ((List.reverse_perm _).trans (insR_perm n _)).trans (((List.reverse_perm _).trans ih).cons n |>.trans (by simpa using (List.perm_append_comm (l₁ := [n]) (l₂ := List.range n))))
theorem ins_ord (h : SWO lu) (n : Nat) : (ins lu n).Pairwise (ord lu) := by
  induction n with
  | zero => exact List.Pairwise.nil
  | succ n ih =>
    have h1 : (ins lu n).reverse.Pairwise (fun a b => ord lu b a) := List.pairwise_reverse.2 ih
    have := insR_ord h n h1 (fun y hy => by
      have := (ins_perm n).mem_iff.1 (List.mem_reverse.1 hy); simpa using this)
    exact List.pairwise_reverse.2 this
theorem ins_arr (h : SWO lu) (n : Nat) : ins lu n = arr lu (List.range n) :=
  ord_unique h ((ins_perm n).trans (arr_perm _).symm) (ins_ord h n) (arr_ord h List.pairwise_lt_range)
end Go.Proofs.Ytmholiddejgccaa

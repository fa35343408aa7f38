/- Plain laws of permutations, of draws, of ranks: lists of numbers, no program. -/
import Derived.Lib.Hide
namespace Go.Proofs.YtejleobpohpdpaaDoor

/-- A permutation of the numbers from 0 on. -/
structure IsP (p : List Nat) : Prop where
  lt : ∀ x ∈ p, x < p.length
  nd : p.Nodup
theorem gD {p : List Nat} {i : Nat} (h : i < p.length) : p.getD i 0 = p[i] := by simp [h]
theorem gmem {p : List Nat} {i : Nat} (h : i < p.length) : p.getD i 0 ∈ p := by rw [gD h]; exact List.getElem_mem h
theorem gext {p q : List Nat} (hl : p.length = q.length) (h : ∀ i, i < p.length → p.getD i 0 = q.getD i 0) : p = q := by
  apply List.ext_getElem hl
  intro i h1 h2
  have := h i h1
  rwa [gD h1, gD h2] at this
namespace IsP
variable {p : List Nat}
theorem mem (h : IsP p) {x : Nat} (hx : x < p.length) : x ∈ p := by
  apply Classical.byContradiction
  intro hn
  have h1 : (x :: p).Nodup := List.nodup_cons.2 ⟨hn, h.nd⟩
  have h2 : (x :: p) ⊆ List.range p.length := fun y hy => by
    rcases List.mem_cons.1 hy with rfl | hy
    · simpa using hx
    · simpa using h.lt y hy
  have := h1.length_le_of_subset h2
  simp only [List.length_cons, List.length_range] at this
  omega
theorem get_lt (h : IsP p) {i : Nat} (hi : i < p.length) : p.getD i 0 < p.length := h.lt _ (gmem hi)
theorem inj (h : IsP p) {i j : Nat} (hi : i < p.length) (hj : j < p.length) (e : p.getD i 0 = p.getD j 0) : i = j := by
  rw [gD hi, gD hj] at e
  exact (List.getElem_inj h.nd).1 e
theorem mk' (h1 : ∀ i, i < p.length → p.getD i 0 < p.length) (h2 : ∀ i j, i < p.length → j < p.length → p.getD i 0 = p.getD j 0 → i = j) : IsP p := by
  refine ⟨fun x hx => ?_, ?_⟩
  · obtain ⟨i, hi, rfl⟩ := List.mem_iff_getElem.1 hx
    rw [← gD hi]; exact h1 i hi
  · rw [List.nodup_iff_pairwise_ne, List.pairwise_iff_getElem]
    intro i j hi hj hij e
    have := h2 i j hi hj (by rw [gD hi, gD hj]; exact e)
    omega
theorem idx_lt (h : IsP p) {x : Nat} (hx : x < p.length) : p.idxOf x < p.length := List.idxOf_lt_length_of_mem (h.mem hx)
theorem get_idx (h : IsP p) {x : Nat} (hx : x < p.length) : p.getD (p.idxOf x) 0 = x := by
  rw [gD (h.idx_lt hx)]; exact List.getElem_idxOf _
theorem idx_get (h : IsP p) {i : Nat} (hi : i < p.length) : p.idxOf (p.getD i 0) = i := by
  rw [gD hi]; exact h.nd.idxOf_getElem _ _
end IsP
theorem isP_range (n : Nat) : IsP (List.range n) := ⟨fun x hx => by simpa using hx, List.nodup_range⟩
theorem range_get {n i : Nat} (h : i < n) : (List.range n).getD i 0 = i := by simp [h]
theorem isP_perm {p q : List Nat} (h : IsP p) (hp : p.Perm q) : IsP q := ⟨fun x hx => by rw [← hp.length_eq]; exact h.lt x (hp.mem_iff.2 hx), hp.nodup h.nd⟩

/-- Two elements exchanged. -/
def swp (p : List Nat) (i j : Nat) : List Nat := (p.set i (p.getD j 0)).set j (p.getD i 0)
theorem swp_len (p : List Nat) (i j : Nat) : (swp p i j).length = p.length := by simp [swp]
theorem set_get {p : List Nat} {i k v : Nat} (hi : i < p.length) : (p.set i v).getD k 0 = if k = i then v else p.getD k 0 := by
  by_cases e : k = i
  · subst e; simp [hi]
  · rw [if_neg e]
    simp only [List.getD_eq_getElem?_getD]
    rw [List.getElem?_set_ne (Ne.symm e)]
theorem swp_get {p : List Nat} {i j k : Nat} (hi : i < p.length) (hj : j < p.length) : (swp p i j).getD k 0 = if k = j then p.getD i 0 else if k = i then p.getD j 0 else p.getD k 0 := by
  unfold swp
  rw [set_get (by simpa using hj), set_get hi]
theorem isP_swp {p : List Nat} (h : IsP p) {i j : Nat} (hi : i < p.length) (hj : j < p.length) : IsP (swp p i j) := by
  have hii := h.get_lt hi; have hjj := h.get_lt hj
  refine IsP.mk' (fun k hk => ?_) (fun k l hk hl e => ?_)
  · rw [swp_len] at hk ⊢
    rw [swp_get hi hj]
    have := h.get_lt hk
    split
    · exact hii
    · split <;> assumption
  · rw [swp_len] at hk hl
    rw [swp_get hi hj, swp_get hi hj] at e
    have q1 := h.inj hi hj
    have q2 := h.inj hi hl
    have q3 := h.inj hj hl
    have q4 := h.inj hk hi
    have q5 := h.inj hk hj
    have q6 := h.inj hk hl
    generalize p.getD i 0 = pi at *
    generalize p.getD j 0 = pj at *
    generalize p.getD k 0 = pk at *
    generalize p.getD l 0 = pl at *
    clear hii hjj
    repeat' split at e
    all_goals omega

/-- The list after k steps of drawing. -/
def drw (n : Nat) (d : List Nat) : Nat → List Nat
  | 0 => List.range n
  | k + 1 => swp (drw n d k) k (k + d.getD k 0 % (n - k))
theorem drw_j {n k x : Nat} (h : k < n) : k + x % (n - k) < n := by
  have := Nat.mod_lt x (show 0 < n - k by omega); omega
theorem drw_ok (n : Nat) (d : List Nat) : ∀ k, k ≤ n → IsP (drw n d k) ∧ (drw n d k).length = n
  | 0, _ => ⟨isP_range n, by simp [drw]⟩
  | k + 1, h => by
    obtain ⟨h1, h2⟩ := drw_ok n d k (by omega)
    exact ⟨isP_swp h1 (by omega) (by rw [h2]; exact drw_j (by omega)), by rw [drw, swp_len, h2]⟩
theorem drw_congr {n : Nat} {d e : List Nat} : ∀ k, (∀ i, i < k → d.getD i 0 % (n - i) = e.getD i 0 % (n - i)) → drw n d k = drw n e k
  | 0, _ => rfl
  | k + 1, h => by rw [drw, drw, drw_congr k (fun i hi => h i (by omega)), h k (by omega)]
/-- A step leaves what lies below it. -/
theorem drw_low {n : Nat} {d : List Nat} {k i : Nat} (hk : k < n) (hi : i < k) : (drw n d (k + 1)).getD i 0 = (drw n d k).getD i 0 := by
  obtain ⟨h1, h2⟩ := drw_ok n d k (by omega)
  have hj := drw_j (x := d.getD k 0) hk
  rw [drw, swp_get (by omega) (by omega), if_neg (by omega), if_neg (by omega)]
theorem drw_stay {n : Nat} {d : List Nat} {i : Nat} : ∀ {k m : Nat}, i < k → k ≤ m → m ≤ n → (drw n d m).getD i 0 = (drw n d k).getD i 0
  | k, m, hi, hk, hm => by
    induction m with
    | zero => omega
    | succ m ih =>
      rcases Nat.lt_or_ge m k with h | h
      · obtain rfl : k = m + 1 := by omega
        rfl
      · rw [drw_low (by omega) (by omega)]; exact ih h (by omega)
theorem drw_at {n : Nat} {d : List Nat} {k : Nat} (hk : k < n) : (drw n d (k + 1)).getD k 0 = (drw n d k).getD (k + d.getD k 0 % (n - k)) 0 := by
  obtain ⟨h1, h2⟩ := drw_ok n d k (by omega)
  have hj := drw_j (x := d.getD k 0) hk
  rw [drw, swp_get (by omega) (by omega)]
  split
  · rename_i e; rw [← e]
  · rw [if_pos rfl]

/-- The inverse; the composition. -/
def invp (p : List Nat) : List Nat := (List.range p.length).map (fun x => p.idxOf x)
def comp (p q : List Nat) : List Nat := q.map (fun x => p.getD x 0)
theorem invp_len (p : List Nat) : (invp p).length = p.length := by simp [invp]
theorem comp_len (p q : List Nat) : (comp p q).length = q.length := by simp [comp]
theorem invp_get {p : List Nat} {x : Nat} (h : x < p.length) : (invp p).getD x 0 = p.idxOf x := by simp [invp, h]
theorem comp_get {p q : List Nat} {i : Nat} (h : i < q.length) : (comp p q).getD i 0 = p.getD (q.getD i 0) 0 := by simp [comp, h]
theorem isP_invp {p : List Nat} (h : IsP p) : IsP (invp p) := by
  refine IsP.mk' (fun i hi => ?_) (fun i j hi hj e => ?_)
  · rw [invp_len] at hi ⊢
    rw [invp_get hi]; exact h.idx_lt hi
  · rw [invp_len] at hi hj
    rw [invp_get hi, invp_get hj] at e
    have := h.get_idx hi
    rw [e, h.get_idx hj] at this
    exact this.symm
theorem isP_comp {p q : List Nat} (h : IsP p) (k : IsP q) (e : p.length = q.length) : IsP (comp p q) := by
  refine IsP.mk' (fun i hi => ?_) (fun i j hi hj he => ?_)
  · rw [comp_len] at hi ⊢
    rw [comp_get hi, ← e]
    exact h.get_lt (by rw [e]; exact k.get_lt hi)
  · rw [comp_len] at hi hj
    rw [comp_get hi, comp_get hj] at he
    exact k.inj hi hj (h.inj (by rw [e]; exact k.get_lt hi) (by rw [e]; exact k.get_lt hj) he)
theorem invp_idx {p : List Nat} (h : IsP p) {x : Nat} (hx : x < p.length) : (invp p).idxOf x = p.getD x 0 := by
  have h1 := (isP_invp h).idx_get (i := p.getD x 0) (by rw [invp_len]; exact h.get_lt hx)
  rw [invp_get (h.get_lt hx), h.idx_get hx] at h1
  exact h1
theorem invp_invp {p : List Nat} (h : IsP p) : invp (invp p) = p := by
  refine gext (by rw [invp_len, invp_len]) fun i hi => ?_
  rw [invp_len, invp_len] at hi
  rw [invp_get (by rw [invp_len]; exact hi), invp_idx h hi]
theorem comp_invp {p : List Nat} (h : IsP p) : comp p (invp p) = List.range p.length := by
  refine gext (by rw [comp_len, invp_len]; simp) fun i hi => ?_
  rw [comp_len, invp_len] at hi
  rw [comp_get (by rw [invp_len]; exact hi), invp_get hi, h.get_idx hi, range_get hi]
theorem invp_comp {p : List Nat} (h : IsP p) : comp (invp p) p = List.range p.length := by
  refine gext (by rw [comp_len]; simp) fun i hi => ?_
  rw [comp_len] at hi
  rw [comp_get hi, invp_get (h.get_lt hi), h.idx_get hi, range_get hi]
theorem comp_assoc {p q r : List Nat} (h : ∀ x ∈ r, x < q.length) : comp (comp p q) r = comp p (comp q r) := by
  refine gext (by simp [comp_len]) fun i hi => ?_
  rw [comp_len] at hi
  rw [comp_get hi, comp_get (h _ (gmem hi)), comp_get (by rw [comp_len]; exact hi), comp_get hi]
theorem invp_of_comp {p q : List Nat} (h : IsP p) (k : IsP q) (e : p.length = q.length) : invp (comp p q) = comp (invp q) (invp p) := by
  refine gext (by rw [invp_len, comp_len, comp_len, invp_len, e]) fun i hi => ?_
  rw [invp_len, comp_len] at hi
  have hc := isP_comp h k e
  have hip : p.idxOf i < p.length := h.idx_lt (by omega)
  rw [invp_get (by rw [comp_len]; exact hi), comp_get (by rw [invp_len]; omega), invp_get (x := i) (by omega), invp_get (by omega)]
  have h1 := hc.idx_get (i := q.idxOf (p.idxOf i)) (by rw [comp_len]; exact k.idx_lt (by omega))
  rw [comp_get (k.idx_lt (by omega)), k.get_idx (by omega), h.get_idx (by omega)] at h1
  exact h1
/-- The inverse, while it is laid. -/
def invK (p : List Nat) (k : Nat) : List Nat := (List.range p.length).map (fun x => if p.idxOf x < k then p.idxOf x else 0)
theorem invK_len (p : List Nat) (k : Nat) : (invK p k).length = p.length := by simp [invK]
theorem invK_0 (p : List Nat) : invK p 0 = List.replicate p.length 0 := by
  refine gext (by simp [invK]) fun i hi => ?_
  rw [invK_len] at hi
  simp [invK, hi]
theorem invK_get {p : List Nat} {k x : Nat} (hx : x < p.length) : (invK p k).getD x 0 = if p.idxOf x < k then p.idxOf x else 0 := by simp [invK, hx]
theorem invK_all {p : List Nat} (h : IsP p) : invK p p.length = invp p := by
  refine gext (by rw [invK_len, invp_len]) fun i hi => ?_
  rw [invK_len] at hi
  rw [invK_get hi, invp_get hi, if_pos (h.idx_lt hi)]
theorem invK_set {p : List Nat} (h : IsP p) {k : Nat} (hk : k < p.length) : (invK p k).set (p.getD k 0) k = invK p (k + 1) := by
  refine gext (by simp [invK_len]) fun i hi => ?_
  rw [List.length_set, invK_len] at hi
  rw [set_get (by rw [invK_len]; exact h.get_lt hk), invK_get hi, invK_get hi]
  by_cases e : i = p.getD k 0
  · subst e
    rw [if_pos rfl, h.idx_get hk, if_pos (by omega)]
  · rw [if_neg e]
    have hne : p.idxOf i ≠ k := fun e2 => e (by rw [← e2, h.get_idx hi])
    by_cases hlt : p.idxOf i < k
    · rw [if_pos hlt, if_pos (by omega)]
    · rw [if_neg hlt, if_neg (by omega)]

/-- The list after k steps of bringing each element of p to its place; the draws of it. -/
def now (p : List Nat) : Nat → List Nat
  | 0 => List.range p.length
  | k + 1 => swp (now p k) k ((now p k).idxOf (p.getD k 0))
def drs (p : List Nat) (k : Nat) : List Nat := (List.range k).map fun i => (now p i).idxOf (p.getD i 0) - i
theorem drs_len (p : List Nat) (k : Nat) : (drs p k).length = k := by simp [drs]
theorem drs_get {p : List Nat} {k i : Nat} (h : i < k) : (drs p k).getD i 0 = (now p i).idxOf (p.getD i 0) - i := by simp [drs, h]
theorem drs_succ (p : List Nat) (k : Nat) : drs p (k + 1) = drs p k ++ [(now p k).idxOf (p.getD k 0) - k] := by simp [drs, List.range_succ]
theorem now_ok {p : List Nat} (h : IsP p) : ∀ k, k ≤ p.length → IsP (now p k) ∧ (now p k).length = p.length ∧ ∀ i, i < k → (now p k).getD i 0 = p.getD i 0
  | 0, _ => ⟨isP_range _, by simp [now], fun i hi => by omega⟩
  | k + 1, hk => by
    obtain ⟨h1, h2, h3⟩ := now_ok h k (by omega)
    have hp := h.get_lt (show k < p.length by omega)
    have hx : (now p k).idxOf (p.getD k 0) < p.length := by rw [← h2]; exact h1.idx_lt (by omega)
    refine ⟨isP_swp h1 (by omega) (by omega), by rw [now, swp_len, h2], fun i hi => ?_⟩
    rw [now, swp_get (by omega) (by omega)]
    by_cases e : i = k
    · subst e
      have hg := h1.get_idx (x := p.getD i 0) (by omega)
      split
      · rename_i e2; rw [← e2] at hg; exact hg
      · rw [if_pos rfl, hg]
    · have hne : i ≠ (now p k).idxOf (p.getD k 0) := fun e2 => by
        have hg := h1.get_idx (x := p.getD k 0) (by omega)
        rw [← e2, h3 i (by omega)] at hg
        have := h.inj (by omega) (by omega) hg
        omega
      rw [if_neg hne, if_neg e, h3 i (by omega)]
theorem now_idx {p : List Nat} (h : IsP p) {k : Nat} (hk : k < p.length) : k ≤ (now p k).idxOf (p.getD k 0) ∧ (now p k).idxOf (p.getD k 0) < p.length := by
  obtain ⟨h1, h2, h3⟩ := now_ok h k (by omega)
  have hp := h.get_lt hk
  refine ⟨?_, by rw [← h2]; exact h1.idx_lt (by omega)⟩
  rcases Nat.lt_or_ge ((now p k).idxOf (p.getD k 0)) k with hlt | hge
  · have hg := h1.get_idx (x := p.getD k 0) (by omega)
    rw [h3 _ hlt] at hg
    have := h.inj (by omega) (by omega) hg
    omega
  · exact hge
/-- A permutation is known by all its elements but the last one. -/
theorem isP_last {p q : List Nat} (h : IsP p) (k : IsP q) (e : p.length = q.length) (hh : ∀ i, i + 1 < p.length → p.getD i 0 = q.getD i 0) : p = q := by
  refine gext e fun i hi => ?_
  by_cases hl : i + 1 < p.length
  · exact hh i hl
  · have hx := k.get_idx (x := p.getD i 0) (by rw [← e]; exact h.get_lt hi)
    have hxl : q.idxOf (p.getD i 0) < q.length := k.idx_lt (by rw [← e]; exact h.get_lt hi)
    by_cases e2 : q.idxOf (p.getD i 0) = i
    · rw [e2] at hx; exact hx.symm
    · exfalso
      have h1 := hh (q.idxOf (p.getD i 0)) (by omega)
      rw [hx] at h1
      exact e2 (h.inj (by omega) hi h1)
theorem now_all {p : List Nat} (h : IsP p) : now p (p.length - 1) = p := by
  obtain ⟨h1, h2, h3⟩ := now_ok h (p.length - 1) (by omega)
  exact isP_last h1 h h2 (fun i hi => h3 i (by omega))
/-- Drawing with the draws of p gives p. -/
theorem drw_drs {p : List Nat} (h : IsP p) : ∀ {m : Nat} (k : Nat), k ≤ m → m < p.length → drw p.length (drs p m) k = now p k
  | _, 0, _, _ => rfl
  | m, k + 1, hk, hm => by
    rw [drw, now, drw_drs h k (by omega) hm, drs_get (by omega)]
    obtain ⟨h1, h2⟩ := now_idx h (show k < p.length by omega)
    rw [Nat.mod_eq_of_lt (by omega), show k + ((now p k).idxOf (p.getD k 0) - k) = (now p k).idxOf (p.getD k 0) by omega]
theorem draw_draws {p : List Nat} (h : IsP p) : drw p.length (drs p (p.length - 1)) (p.length - 1) = p := by
  by_cases h0 : p.length = 0
  · have : p = [] := List.eq_nil_of_length_eq_zero h0
    subst this; rfl
  · rw [drw_drs h _ (Nat.le_refl _) (by omega), now_all h]
/-- The draws of what was drawn are the draws, reduced. -/
theorem now_drw {n : Nat} {d : List Nat} : ∀ k, k ≤ n - 1 → now (drw n d (n - 1)) k = drw n d k ∧ (k < n - 1 → (drw n d k).idxOf ((drw n d (n - 1)).getD k 0) = k + d.getD k 0 % (n - k))
  | k, hk => by
    have hidx : k < n - 1 → (drw n d k).idxOf ((drw n d (n - 1)).getD k 0) = k + d.getD k 0 % (n - k) := fun hlt => by
      obtain ⟨h1, h2⟩ := drw_ok n d k (by omega)
      rw [drw_stay (k := k + 1) (m := n - 1) (by omega) (by omega) (by omega), drw_at (by omega)]
      exact h1.idx_get (by rw [h2]; exact drw_j (by omega))
    refine ⟨?_, hidx⟩
    match k, hk with
    | 0, _ => rw [now, (drw_ok n d (n - 1) (by omega)).2]; rfl
    | k + 1, hk =>
      obtain ⟨e1, e2⟩ := now_drw (n := n) (d := d) k (by omega)
      rw [now, e1, e2 (by omega)]; rfl
theorem draws_draw {n : Nat} {d : List Nat} {i : Nat} (hi : i < n - 1) : (drs (drw n d (n - 1)) (n - 1)).getD i 0 = d.getD i 0 % (n - i) := by
  rw [drs_get hi, (now_drw i (by omega)).1, (now_drw i (by omega)).2 hi]; omega

/-- Factorials; the rank of a list; the list with a rank. -/
def fct : Nat → Nat
  | 0 => 1
  | n + 1 => (n + 1) * fct n
theorem fct_pos : ∀ n, 0 < fct n
  | 0 => Nat.one_pos
  | n + 1 => Nat.mul_pos (Nat.succ_pos n) (fct_pos n)
theorem fct_le {n m : Nat} (h : n ≤ m) : fct n ≤ fct m := by
  induction m with
  | zero => obtain rfl : n = 0 := by omega
            exact Nat.le_refl _
  | succ m ih =>
    rcases Nat.lt_or_ge m n with h1 | h1
    · obtain rfl : n = m + 1 := by omega
      exact Nat.le_refl _
    · exact Nat.le_trans (ih h1) (by rw [fct]; exact Nat.le_mul_of_pos_left _ (Nat.succ_pos m))
def rk : List Nat → Nat
  | [] => 0
  | x :: r => r.countP (· < x) * fct r.length + rk r
theorem rk_lt : ∀ l : List Nat, rk l < fct l.length
  | [] => Nat.one_pos
  | x :: r => by
    have h1 := List.countP_le_length (p := (· < x)) (l := r)
    have h2 := rk_lt r
    rw [rk, List.length_cons, fct, Nat.add_mul, Nat.one_mul]
    have := Nat.mul_le_mul_right (fct r.length) h1
    omega
def unr : Nat → List Nat → Nat → List Nat
  | 0, _, _ => []
  | n + 1, left, r => left.getD (r / fct n) 0 :: unr n (left.eraseIdx (r / fct n)) (r % fct n)
theorem div_fct {n r : Nat} (h : r < fct (n + 1)) : r / fct n < n + 1 := by
  rw [Nat.div_lt_iff_lt_mul (fct_pos n)]; exact h
theorem perm_erase {l : List Nat} {i : Nat} (h : i < l.length) : (l.getD i 0 :: l.eraseIdx i).Perm l := by
  rw [gD h, List.eraseIdx_eq_take_drop_succ]
  refine (List.perm_middle.symm).trans ?_
  rw [List.getElem_cons_drop]
  exact .of_eq (List.take_append_drop i l)
theorem unr_perm : ∀ (n : Nat) (left : List Nat) (r : Nat), left.length = n → r < fct n → (unr n left r).Perm left
  | 0, left, r, hl, _ => by rw [List.eq_nil_of_length_eq_zero hl]; exact .refl _
  | n + 1, left, r, hl, hr => by
    have hd := div_fct hr
    have ih := unr_perm n (left.eraseIdx (r / fct n)) (r % fct n) (by rw [List.length_eraseIdx_of_lt (by omega)]; omega) (Nat.mod_lt _ (fct_pos n))
    exact (ih.cons _).trans (perm_erase (by omega))
theorem unr_len {n : Nat} {left : List Nat} {r : Nat} (hl : left.length = n) (hr : r < fct n) : (unr n left r).length = n := by rw [(unr_perm n left r hl hr).length_eq, hl]
/-- Rising lists. -/
def Up (l : List Nat) : Prop := l.Pairwise (· < ·)
theorem up_range (n : Nat) : Up (List.range n) := List.pairwise_lt_range
theorem up_erase {l : List Nat} (h : Up l) (i : Nat) : Up (l.eraseIdx i) := List.Pairwise.sublist (List.eraseIdx_sublist l i) h
theorem up_count {l : List Nat} (h : Up l) {i : Nat} (hi : i < l.length) : (l.eraseIdx i).countP (· < l.getD i 0) = i := by
  rw [gD hi, List.eraseIdx_eq_take_drop_succ, List.countP_append]
  have e1 : (l.take i).countP (· < l[i]) = (l.take i).length := by
    rw [List.countP_eq_length]
    intro x hx
    obtain ⟨j, hj, rfl⟩ := List.mem_take_iff_getElem.1 hx
    simp
    exact List.pairwise_iff_getElem.1 h j i (by omega) hi (by omega)
  have e2 : (l.drop (i + 1)).countP (· < l[i]) = 0 := by
    rw [List.countP_eq_zero]
    intro x hx
    obtain ⟨j, hj, rfl⟩ := List.mem_drop_iff_getElem.1 hx
    have := List.pairwise_iff_getElem.1 h i (i + 1 + j) hi (by omega) (by omega)
    simp
    omega
  rw [e1, e2]; simp; omega
theorem rk_unr : ∀ (n : Nat) (left : List Nat) (r : Nat), left.length = n → r < fct n → Up left → rk (unr n left r) = r
  | 0, left, r, _, hr, _ => by
    have : r = 0 := by simp [fct] at hr; exact hr
    rw [this]; rfl
  | n + 1, left, r, hl, hr, hu => by
    have hd := div_fct hr
    have hle : (left.eraseIdx (r / fct n)).length = n := by rw [List.length_eraseIdx_of_lt (by omega)]; omega
    have hm := Nat.mod_lt r (fct_pos n)
    have ih := rk_unr n (left.eraseIdx (r / fct n)) (r % fct n) hle hm (up_erase hu _)
    rw [unr, rk, ih, unr_len hle hm, (unr_perm n _ _ hle hm).countP_eq, up_count hu (by omega)]
    rw [Nat.mul_comm]; exact Nat.div_add_mod r (fct n)
theorem unr_0 : ∀ (n : Nat) (left : List Nat), left.length = n → unr n left 0 = left
  | 0, left, hl => by rw [List.eq_nil_of_length_eq_zero hl]; rfl
  | n + 1, left, hl => by
    match left, hl with
    | x :: r, hl =>
      rw [unr, Nat.zero_div, Nat.zero_mod, List.eraseIdx_zero, List.tail_cons, unr_0 n r (by simpa using hl)]; rfl
theorem unr_last : ∀ (n : Nat) (left : List Nat), left.length = n → unr n left (fct n - 1) = left.reverse
  | 0, left, hl => by rw [List.eq_nil_of_length_eq_zero hl]; rfl
  | n + 1, left, hl => by
    have hp := fct_pos n
    have e0 : fct (n + 1) - 1 = n * fct n + (fct n - 1) := by rw [fct, Nat.add_mul, Nat.one_mul]; omega
    have e1 : (fct (n + 1) - 1) / fct n = n := by
      rw [e0, Nat.mul_comm, Nat.mul_add_div hp, Nat.div_eq_of_lt (by omega)]; rfl
    have e2 : (fct (n + 1) - 1) % fct n = fct n - 1 := by
      rw [e0, Nat.mul_comm, Nat.mul_add_mod, Nat.mod_eq_of_lt (by omega)]
    rw [unr, e1, e2, List.eraseIdx_eq_dropLast (by omega), unr_last n left.dropLast (by simp; omega)]
    have hne : left ≠ [] := fun e => by rw [e] at hl; simp at hl
    have e3 : left.getD n 0 = left.getLast hne := by
      rw [gD (by omega), List.getLast_eq_getElem]; congr 1; omega
    rw [e3]
    conv => rhs; rw [← List.dropLast_concat_getLast hne]
    simp
/-- The next permutation: what the chapter's law asks of two lists. -/
def Next (p q : List Nat) : Prop :=
  ∃ i, i < p.length ∧ (∀ j, j < i → p.getD j 0 = q.getD j 0) ∧ p.getD i 0 < q.getD i 0 ∧
    ∀ k, i < k → k < p.length → (i + 1 < k → q.getD (k - 1) 0 ≤ q.getD k 0 ∧ p.getD k 0 ≤ p.getD (k - 1) 0) ∧ ¬ (p.getD i 0 < p.getD k 0 ∧ p.getD k 0 < q.getD i 0)
theorem up_get {l : List Nat} (h : Up l) {i j : Nat} (hij : i < j) (hj : j < l.length) : l.getD i 0 < l.getD j 0 := by
  rw [gD (by omega), gD hj]; exact List.pairwise_iff_getElem.1 h i j (by omega) hj hij
theorem rev_get {l : List Nat} {i : Nat} (hi : i < l.length) : l.reverse.getD i 0 = l.getD (l.length - 1 - i) 0 := by
  rw [gD (by simpa using hi), gD (by omega), List.getElem_reverse]
theorem next_cons {x : Nat} {p q : List Nat} (h : Next p q) : Next (x :: p) (x :: q) := by
  obtain ⟨i, h1, h2, h3, h4⟩ := h
  refine ⟨i + 1, by simp; omega, fun j hj => ?_, by simpa using h3, fun k hk hl => ?_⟩
  · cases j with
    | zero => rfl
    | succ j => simpa using h2 j (by omega)
  · obtain ⟨k, rfl⟩ : ∃ m, k = m + 1 := ⟨k - 1, by omega⟩
    obtain ⟨a, b⟩ := h4 k (by omega) (by simpa using hl)
    refine ⟨fun hh => ?_, by simpa using b⟩
    obtain ⟨m, rfl⟩ : ∃ m, k = m + 1 := ⟨k - 1, by omega⟩
    simpa using a (by omega)
theorem unr_next : ∀ (n : Nat) (left : List Nat) (r : Nat), left.length = n → r + 1 < fct n → Up left → Next (unr n left r) (unr n left (r + 1))
  | 0, _, r, _, hr, _ => by simp [fct] at hr
  | n + 1, left, r, hl, hr, hu => by
    have hp := fct_pos n
    have hd := div_fct (show r < fct (n + 1) by omega)
    have hm := Nat.mod_lt r hp
    have hdm := Nat.div_add_mod r (fct n)
    by_cases hc : r % fct n + 1 < fct n
    · have e1 : (r + 1) / fct n = r / fct n := by
        rw [← hdm, Nat.add_assoc, Nat.mul_add_div hp, Nat.mul_add_div hp, Nat.div_eq_of_lt hc, Nat.div_eq_of_lt hm]
      have e2 : (r + 1) % fct n = r % fct n + 1 := by
        conv => lhs; rw [← hdm, Nat.add_assoc, Nat.mul_add_mod, Nat.mod_eq_of_lt hc]
      rw [unr, unr, e1, e2]
      exact next_cons (unr_next n _ _ (by rw [List.length_eraseIdx_of_lt (by omega)]; omega) hc (up_erase hu _))
    · have hc' : r % fct n = fct n - 1 := by omega
      have hr1 : r + 1 = fct n * (r / fct n + 1) := by rw [Nat.mul_add]; omega
      have e1 : (r + 1) / fct n = r / fct n + 1 := by rw [hr1, Nat.mul_div_cancel_left _ hp]
      have e2 : (r + 1) % fct n = 0 := by rw [hr1, Nat.mul_mod_right]
      have hd2 := div_fct hr
      rw [e1] at hd2
      rw [unr, unr, e1, e2, hc']
      generalize r / fct n = a at *
      have l1 : (left.eraseIdx a).length = n := by rw [List.length_eraseIdx_of_lt (by omega)]; omega
      have l2 : (left.eraseIdx (a + 1)).length = n := by rw [List.length_eraseIdx_of_lt (by omega)]; omega
      rw [unr_last n _ l1, unr_0 n _ l2]
      have u1 := up_erase hu a; have u2 := up_erase hu (a + 1)
      refine ⟨0, by simp, fun j hj => by omega, by simpa using up_get hu (show a < a + 1 by omega) (by omega), fun k hk hkl => ⟨fun h1 => ?_, ?_⟩⟩
      · simp [l1] at hkl
        obtain ⟨m, rfl⟩ : ∃ m, k = m + 2 := ⟨k - 2, by omega⟩
        have q1 := up_get u2 (show m < m + 1 by omega) (by omega)
        have q2 : (left.eraseIdx a).reverse.getD (m + 1) 0 ≤ (left.eraseIdx a).reverse.getD m 0 := by
          rw [rev_get (by omega), rev_get (by omega)]
          exact Nat.le_of_lt (up_get u1 (by omega) (by omega))
        exact ⟨by simpa using Nat.le_of_lt q1, by simpa using q2⟩
      · simp [l1] at hkl
        obtain ⟨m, rfl⟩ : ∃ m, k = m + 1 := ⟨k - 1, by omega⟩
        rintro ⟨g1, g2⟩
        simp only [List.getD_cons_zero, List.getD_cons_succ] at g1 g2
        have hmem : (left.eraseIdx a).reverse.getD m 0 ∈ left := by
          have : (left.eraseIdx a).reverse.getD m 0 ∈ (left.eraseIdx a).reverse := gmem (by simp [l1]; omega)
          exact (List.eraseIdx_sublist left a).subset (by simpa using this)
        generalize (left.eraseIdx a).reverse.getD m 0 = y at *
        obtain ⟨j, hj, rfl⟩ := List.mem_iff_getElem.1 hmem
        rw [← gD hj] at g1 g2
        rcases Nat.lt_or_ge j (a + 1) with h | h
        · rcases Nat.lt_or_ge j a with h' | h'
          · have := up_get hu h' (by omega); omega
          · obtain rfl : j = a := by omega
            omega
        · rcases Nat.lt_or_ge (a + 1) j with h' | h'
          · have := up_get hu h' (by omega); omega
          · obtain rfl : j = a + 1 := by omega
            omega
end Go.Proofs.YtejleobpohpdpaaDoor

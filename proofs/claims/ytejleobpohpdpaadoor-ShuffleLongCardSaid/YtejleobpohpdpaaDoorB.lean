/- Plain laws of the cycles of a permutation. -/
import Derived.Test.YtejleobpohpdpaaDoorA
namespace Go.Proofs.YtejleobpohpdpaaDoor

/-- How many flags are down. -/
def frees (G : List Bool) : Nat := G.countP (fun b => !b)
theorem flag_get {G : List Bool} {i k : Nat} (hi : i < G.length) : (G.set i true).getD k true = if k = i then true else G.getD k true := by
  by_cases e : k = i
  · subst e; simp [hi]
  · rw [if_neg e]
    simp only [List.getD_eq_getElem?_getD]
    rw [List.getElem?_set_ne (Ne.symm e)]
theorem frees_set {G : List Bool} : ∀ {i : Nat}, i < G.length → G.getD i true = false → frees (G.set i true) + 1 = frees G := by
  induction G with
  | nil => intro i h; simp at h
  | cons b G ih =>
    intro i h hf
    cases i with
    | zero => simp at hf; subst hf; simp [frees]
    | succ i =>
      have := ih (i := i) (by simpa using h) (by simpa using hf)
      simp only [List.set_cons_succ, frees, List.countP_cons] at this ⊢
      omega
theorem frees_none {G : List Bool} (h : frees G = 0) {i : Nat} : G.getD i true = true := by
  rcases Nat.lt_or_ge i G.length with hi | hi
  · have h1 := List.countP_eq_zero.1 h (G[i]) (List.getElem_mem hi)
    simp at h1
    simp [hi, h1]
  · simp [hi]
theorem frees_0 (n : Nat) : frees (List.replicate n false) = n := by simp [frees, List.countP_replicate]
theorem frees_le (G : List Bool) : frees G ≤ G.length := List.countP_le_length
def run (p : List Nat) : Nat → List Bool → Nat → List Nat × List Bool
  | 0, G, _ => ([], G)
  | f + 1, G, x => if G.getD x true then ([], G) else (x :: (run p f (G.set x true) (p.getD x 0)).1, (run p f (G.set x true) (p.getD x 0)).2)
theorem run_seen {p : List Nat} {f : Nat} {G : List Bool} {x : Nat} (h : G.getD x true = true) : run p f G x = ([], G) := by
  cases f with
  | zero => rfl
  | succ f => rw [run, if_pos h]
theorem run_new {p : List Nat} {f : Nat} {G : List Bool} {x : Nat} (h : G.getD x true = false) : run p (f + 1) G x = (x :: (run p f (G.set x true) (p.getD x 0)).1, (run p f (G.set x true) (p.getD x 0)).2) := by
  rw [run, if_neg (by rw [h]; decide)]
def outer (p : List Nat) : Nat → Nat → List Bool → List (List Nat)
  | 0, _, _ => []
  | m + 1, k, G => if G.getD k true then outer p m (k + 1) G else (run p p.length G k).1 :: outer p m (k + 1) (run p p.length G k).2
def cycs (p : List Nat) : List (List Nat) := outer p p.length 0 (List.replicate p.length false)
theorem outer_seen {p : List Nat} {m k : Nat} {G : List Bool} (h : G.getD k true = true) : outer p (m + 1) k G = outer p m (k + 1) G := by rw [outer, if_pos h]
theorem outer_new {p : List Nat} {m k : Nat} {G : List Bool} (h : G.getD k true = false) : outer p (m + 1) k G = (run p p.length G k).1 :: outer p m (k + 1) (run p p.length G k).2 := by
  rw [outer, if_neg (by rw [h]; decide)]
/-- The flags are of whole cycles. -/
structure Cl (p : List Nat) (G : List Bool) : Prop where
  len : G.length = p.length
  cl : ∀ x, x < p.length → G.getD (p.getD x 0) true = G.getD x true
/-- A part of the cycle of a has been walked; x is next. -/
structure Path (p : List Nat) (G0 : List Bool) (a : Nat) (c : List Nat) (x : Nat) (G : List Bool) : Prop where
  len : G.length = p.length
  fl : ∀ y, G.getD y true = true ↔ G0.getD y true = true ∨ y ∈ c
  nd : c.Nodup
  lt : ∀ y ∈ c, y < p.length ∧ G0.getD y true = false
  st : c = [] ∧ x = a ∨ c ≠ [] ∧ c.getD 0 0 = a ∧ x = p.getD (c.getD (c.length - 1) 0) 0
  ch : ∀ i, i + 1 < c.length → p.getD (c.getD i 0) 0 = c.getD (i + 1) 0
/-- A whole cycle. -/
structure Whole (p : List Nat) (G0 : List Bool) (a : Nat) (t : List Nat) (G : List Bool) : Prop where
  len : G.length = p.length
  fl : ∀ y, G.getD y true = true ↔ G0.getD y true = true ∨ y ∈ t
  nd : t.Nodup
  lt : ∀ y ∈ t, y < p.length ∧ G0.getD y true = false
  ne : t ≠ []
  st : t.getD 0 0 = a
  ch : ∀ i, i < t.length → p.getD (t.getD i 0) 0 = t.getD ((i + 1) % t.length) 0
theorem path_lt {p : List Nat} (hp : IsP p) {G0 G : List Bool} {a x : Nat} {c : List Nat} (ha : a < p.length) (h : Path p G0 a c x G) : x < p.length := by
  rcases h.st with ⟨_, rfl⟩ | ⟨h1, _, rfl⟩
  · exact ha
  · have hl : c.length - 1 < c.length := by have := List.length_pos_iff.2 h1; omega
    exact hp.get_lt (h.lt _ (gmem hl)).1
theorem path_end {p : List Nat} (hp : IsP p) {G0 G : List Bool} {a x : Nat} {c : List Nat} (hc : Cl p G0) (ha : a < p.length) (ha0 : G0.getD a true = false) (h : Path p G0 a c x G) (hx : G.getD x true = true) : Whole p G0 a c G := by
  rcases h.st with ⟨rfl, rfl⟩ | ⟨h1, h2, h3⟩
  · rcases (h.fl x).1 hx with h4 | h4
    · rw [ha0] at h4; cases h4
    · simp at h4
  · have hl : c.length - 1 < c.length := by have := List.length_pos_iff.2 h1; omega
    have hlast := h.lt _ (gmem hl)
    have hxa : x = a := by
      rcases (h.fl x).1 hx with h4 | h4
      · rw [h3, hc.cl _ hlast.1, hlast.2] at h4; cases h4
      · obtain ⟨i, hi, he⟩ := List.mem_iff_getElem.1 h4
        rw [← gD hi] at he
        cases i with
        | zero => rw [← he, h2]
        | succ i =>
          have e1 := h.ch i hi
          rw [he, h3] at e1
          have e2 := hp.inj (h.lt _ (gmem (show i < c.length by omega))).1 hlast.1 e1
          rw [gD (show i < c.length by omega), gD hl] at e2
          have := (List.getElem_inj h.nd).1 e2
          omega
    refine ⟨h.len, h.fl, h.nd, h.lt, h1, h2, fun i hi => ?_⟩
    by_cases hl2 : i + 1 < c.length
    · rw [Nat.mod_eq_of_lt hl2]; exact h.ch i hl2
    · obtain rfl : i = c.length - 1 := by omega
      rw [show c.length - 1 + 1 = c.length by omega, Nat.mod_self, h2, ← h3, hxa]
theorem run_ok {p : List Nat} (hp : IsP p) {G0 : List Bool} {a : Nat} (hc : Cl p G0) (ha : a < p.length) (ha0 : G0.getD a true = false) :
    ∀ (f : Nat) (c : List Nat) (x : Nat) (G : List Bool), frees G ≤ f → Path p G0 a c x G → Whole p G0 a (c ++ (run p f G x).1) (run p f G x).2
  | f, c, x, G, hf, h => by
    cases hx : G.getD x true
    · have hxl := path_lt hp ha h
      have hfr := frees_set (G := G) (i := x) (by rw [h.len]; exact hxl) hx
      obtain ⟨f, rfl⟩ : ∃ m, f = m + 1 := ⟨f - 1, by omega⟩
      rw [run_new hx]
      have hnc : x ∉ c := fun hm => by have := (h.fl x).2 (Or.inr hm); rw [hx] at this; cases this
      have hn0 : G0.getD x true = false := by
        cases hh : G0.getD x true
        · rfl
        · have := (h.fl x).2 (Or.inl hh); rw [hx] at this; cases this
      have hP : Path p G0 a (c ++ [x]) (p.getD x 0) (G.set x true) := by
        refine ⟨by simp [h.len], fun y => ?_, ?_, fun y hy => ?_, Or.inr ⟨by simp, ?_, ?_⟩, fun i hi => ?_⟩
        · rw [flag_get (by rw [h.len]; exact hxl)]
          by_cases e : y = x
          · subst e; simp
          · rw [if_neg e, h.fl y]; simp [e]
        · rw [List.nodup_append]
          exact ⟨h.nd, by simp, fun u hu v hv => by simp at hv; subst hv; exact fun e => hnc (e ▸ hu)⟩
        · rcases List.mem_append.1 hy with hy | hy
          · exact h.lt y hy
          · simp at hy; subst hy; exact ⟨hxl, hn0⟩
        · rcases h.st with ⟨rfl, rfl⟩ | ⟨h1, h2, _⟩
          · rfl
          · cases c with
            | nil => exact absurd rfl h1
            | cons u c => simpa using h2
        · simp
        · simp at hi
          by_cases hl : i + 1 < c.length
          · rw [show (c ++ [x]).getD i 0 = c.getD i 0 by simp [show i < c.length by omega, List.getElem?_append_left], show (c ++ [x]).getD (i + 1) 0 = c.getD (i + 1) 0 by simp [hl, List.getElem?_append_left]]
            exact h.ch i hl
          · obtain rfl : i = c.length - 1 := by omega
            have hcl : 0 < c.length := by omega
            rw [show (c ++ [x]).getD (c.length - 1) 0 = c.getD (c.length - 1) 0 by simp [show c.length - 1 < c.length by omega, List.getElem?_append_left], show (c ++ [x]).getD (c.length - 1 + 1) 0 = x by rw [show c.length - 1 + 1 = c.length by omega]; simp]
            rcases h.st with ⟨rfl, rfl⟩ | ⟨_, _, h3⟩
            · simp at hcl
            · exact h3.symm
      have ih := run_ok hp hc ha ha0 f (c ++ [x]) (p.getD x 0) (G.set x true) (by omega) hP
      simpa using ih
    · rw [run_seen hx, List.append_nil]
      exact path_end hp hc ha ha0 h hx
  termination_by f => f
theorem run_whole {p : List Nat} (hp : IsP p) {G0 : List Bool} {a : Nat} (hc : Cl p G0) (ha : a < p.length) (ha0 : G0.getD a true = false) : Whole p G0 a (run p p.length G0 a).1 (run p p.length G0 a).2 := by
  have := run_ok hp hc ha ha0 p.length [] a G0 (by have := frees_le G0; rw [hc.len] at this; exact this) ⟨hc.len, fun y => by simp, List.nodup_nil, fun y hy => by simp at hy, Or.inl ⟨rfl, rfl⟩, fun i hi => by simp at hi⟩
  simpa using this
theorem whole_cl {p : List Nat} (hp : IsP p) {G0 G : List Bool} {a : Nat} {t : List Nat} (hc : Cl p G0) (h : Whole p G0 a t G) : Cl p G := by
  refine ⟨h.len, fun x hx => ?_⟩
  rw [Bool.eq_iff_iff, h.fl, h.fl, hc.cl x hx]
  have htl := List.length_pos_iff.2 h.ne
  constructor
  · rintro (h1 | h1)
    · exact Or.inl h1
    · right
      obtain ⟨i, hi, he⟩ := List.mem_iff_getElem.1 h1
      rw [← gD hi] at he
      have hj : (i + t.length - 1) % t.length < t.length := Nat.mod_lt _ htl
      have e := h.ch _ hj
      have e2 : ((i + t.length - 1) % t.length + 1) % t.length = i := by
        rw [Nat.mod_add_mod, show i + t.length - 1 + 1 = i + t.length by omega, Nat.add_mod_right, Nat.mod_eq_of_lt hi]
      rw [e2, he] at e
      have := hp.inj (h.lt _ (gmem hj)).1 hx e
      rw [← this]; exact gmem hj
  · rintro (h1 | h1)
    · exact Or.inl h1
    · right
      obtain ⟨i, hi, he⟩ := List.mem_iff_getElem.1 h1
      rw [← gD hi] at he
      rw [← he, h.ch i hi]
      exact gmem (Nat.mod_lt _ htl)
/-- A cycle from its least element on. -/
structure Cy (p : List Nat) (c : List Nat) : Prop where
  ne : c ≠ []
  lt : ∀ i, i < c.length → c.getD i 0 < p.length
  le : ∀ i, i < c.length → c.getD 0 0 ≤ c.getD i 0
  nx : ∀ i, i < c.length → p.getD (c.getD i 0) 0 = c.getD ((i + 1) % c.length) 0
structure CysOk (p : List Nat) (k : Nat) (G : List Bool) (l : List (List Nat)) : Prop where
  each : ∀ c ∈ l, Cy p c
  nd : l.flatten.Nodup
  mem : ∀ y, y ∈ l.flatten ↔ y < p.length ∧ G.getD y true = false
  hd : ∀ c ∈ l, k ≤ c.getD 0 0
  up : l.Pairwise (fun c d => c.getD 0 0 < d.getD 0 0)
theorem outer_ok {p : List Nat} (hp : IsP p) : ∀ (m k : Nat) (G : List Bool), k + m = p.length → Cl p G → (∀ y, y < k → G.getD y true = true) → CysOk p k G (outer p m k G)
  | 0, k, G, hk, hc, hy => by
    refine ⟨fun c h => by simp [outer] at h, by simp [outer], fun y => ?_, fun c h => by simp [outer] at h, by simp [outer]⟩
    simp only [outer, List.flatten_nil, List.not_mem_nil, false_iff]
    rintro ⟨h1, h2⟩
    rw [hy y (by omega)] at h2; cases h2
  | m + 1, k, G, hk, hc, hy => by
    cases hx : G.getD k true
    · rw [outer_new hx]
      have hw := run_whole hp hc (show k < p.length by omega) hx
      generalize (run p p.length G k).1 = t at *
      generalize (run p p.length G k).2 = G' at *
      have htl := List.length_pos_iff.2 hw.ne
      have hkt : k ∈ t := by rw [← hw.st]; exact gmem htl
      have hge : ∀ y ∈ t, k ≤ y := fun y hyt => by
        rcases Nat.lt_or_ge y k with h | h
        · have h1 := hy y h; rw [(hw.lt y hyt).2] at h1; cases h1
        · exact h
      have ih := outer_ok hp m (k + 1) G' (by omega) (whole_cl hp hc hw) (fun y hyk => by
        rw [hw.fl]
        rcases Nat.lt_or_ge y k with h | h
        · exact Or.inl (hy y h)
        · obtain rfl : y = k := by omega
          exact Or.inr hkt)
      refine ⟨fun c hc' => ?_, ?_, fun y => ?_, fun c hc' => ?_, ?_⟩
      · rcases List.mem_cons.1 hc' with rfl | hc'
        · exact ⟨hw.ne, fun i hi => (hw.lt _ (gmem hi)).1, fun i hi => by rw [hw.st]; exact hge _ (gmem hi), hw.ch⟩
        · exact ih.each c hc'
      · rw [List.flatten_cons, List.nodup_append]
        refine ⟨hw.nd, ih.nd, fun u hu v hv e => ?_⟩
        subst e
        have h1 := ((ih.mem u).1 hv).2
        rw [(hw.fl u).2 (Or.inr hu)] at h1; cases h1
      · rw [List.flatten_cons, List.mem_append, ih.mem]
        constructor
        · rintro (h | ⟨h1, h2⟩)
          · exact hw.lt y h
          · refine ⟨h1, ?_⟩
            cases hh : G.getD y true
            · rfl
            · rw [(hw.fl y).2 (Or.inl hh)] at h2; cases h2
        · rintro ⟨h1, h2⟩
          by_cases hyt : y ∈ t
          · exact Or.inl hyt
          · right
            refine ⟨h1, ?_⟩
            cases hh : G'.getD y true
            · rfl
            · rcases (hw.fl y).1 hh with h | h
              · rw [h2] at h; cases h
              · exact absurd h hyt
      · rcases List.mem_cons.1 hc' with rfl | hc'
        · rw [hw.st]; exact Nat.le_refl _
        · have := ih.hd c hc'; omega
      · rw [List.pairwise_cons]
        exact ⟨fun c hc' => by rw [hw.st]; have := ih.hd c hc'; omega, ih.up⟩
    · rw [outer_seen hx]
      have ih := outer_ok hp m (k + 1) G (by omega) hc (fun y hyk => by
        rcases Nat.lt_or_ge y k with h | h
        · exact hy y h
        · obtain rfl : y = k := by omega
          exact hx)
      exact ⟨ih.each, ih.nd, ih.mem, fun c hc' => by have := ih.hd c hc'; omega, ih.up⟩
theorem rep_get {n i : Nat} (h : i < n) : (List.replicate n false).getD i true = false := by simp [h]
theorem cycs_ok {p : List Nat} (hp : IsP p) : CysOk p 0 (List.replicate p.length false) (cycs p) :=
  outer_ok hp p.length 0 _ (by omega) ⟨by simp, fun x hx => by rw [rep_get (hp.get_lt hx), rep_get hx]⟩ (fun y hy => by omega)
theorem cycs_perm {p : List Nat} (hp : IsP p) : (cycs p).flatten.Perm (List.range p.length) := by
  have h := cycs_ok hp
  rw [List.perm_ext_iff_of_nodup h.nd List.nodup_range]
  intro y
  rw [h.mem]
  simp only [List.mem_range]
  exact ⟨fun h => h.1, fun h => ⟨h, by simp [h]⟩⟩
end Go.Proofs.YtejleobpohpdpaaDoor

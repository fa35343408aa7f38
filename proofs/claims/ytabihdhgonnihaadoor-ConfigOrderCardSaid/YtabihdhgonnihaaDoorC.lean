/- Slices whose elements are so many cells each. -/

import Derived.Test.YtabihdhgonnihaaDoorK
import Derived.OwnWalk
namespace Go.Proofs.YtabihdhgonnihaaDoor
open Go.ChangeShapes Go.WideShapes Go.ChangeAt Go.RowKit
set_option linter.unusedVariables false
set_option linter.unusedSimpArgs false

section
variable {α : Type}
def flat (enc : α → List Value) (zs : List α) : List Value := zs.flatMap enc
/-- A slice of so many elements, each of sz cells. -/
structure IsSl (sz : Nat) (enc : α → List Value) (w : World) (a : Option Addr) (len cap : Nat) (zs : List α) : Prop where
  hlen : len = zs.length
  hle : len ≤ cap
  hmax : cap ≤ maxLen
  hnone : a = none → cap = 0
  at_ : zs ≠ [] → ∃ b off, a = some ⟨b, off, none⟩ ∧ b < w.heap.size ∧ ∀ i (hi : i < zs.length), ∀ j, j < sz → w.cell? ⟨b, off + i * sz + j, none⟩ = (enc zs[i])[j]?
variable {sz : Nat} {enc : α → List Value}
theorem IsSl.nil (w : World) : IsSl sz enc w none 0 0 [] := ⟨rfl, Nat.le_refl _, Nat.zero_le _, fun _ => rfl, fun h => absurd rfl h⟩
theorem IsSl.keep {S : Nat → Prop} {w w' : World} {a : Option Addr} {len cap : Nat} {zs : List α} (h : IsSl sz enc w a len cap zs) (ht : Touch S w w') (hs : zs ≠ [] → ∀ x, a = some x → ¬ S x.block) : IsSl sz enc w' a len cap zs := by
  obtain ⟨h1, h2, h3, h4, h5⟩ := h
  refine ⟨h1, h2, h3, h4, fun hne => ?_⟩
  obtain ⟨b, off, rfl, hb, hc⟩ := h5 hne
  refine ⟨b, off, rfl, Nat.lt_of_lt_of_le hb ht.size, fun i hi j hj => ?_⟩
  rw [← hc i hi j hj]
  unfold World.cell?
  rw [ht.block b hb (hs hne _ rfl)]
theorem IsSl.below {w w' : World} {a : Option Addr} {len cap : Nat} {zs : List α} (h : IsSl sz enc w a len cap zs) (hb : Below w.heap.size w w') : IsSl sz enc w' a len cap zs :=
  h.keep (Touch.of_below hb (fun _ => False)) (fun _ _ _ h => h)
theorem IsSl.take {w : World} {a : Option Addr} {len cap : Nat} {zs : List α} (h : IsSl sz enc w a len cap zs) {k : Nat} (hk : k ≤ len) : IsSl sz enc w a k cap (zs.take k) := by
  obtain ⟨h1, h2, h3, h4, h5⟩ := h
  refine ⟨by simp; omega, by omega, h3, h4, fun hne => ?_⟩
  obtain ⟨b, off, rfl, hb, hc⟩ := h5 (fun e => by rw [e] at hne; simp at hne)
  refine ⟨b, off, rfl, hb, fun i hi j hj => ?_⟩
  simp at hi
  rw [hc i (by omega) j hj]
  simp
theorem IsSl.drop {w : World} {b off len cap : Nat} {zs : List α} (h : IsSl sz enc w (some ⟨b, off, none⟩) len cap zs) {k : Nat} (hk : k ≤ len) :
    IsSl sz enc w (if cap = k then some ⟨b, off, none⟩ else some ⟨b, off + k * sz, none⟩) (len - k) (cap - k) (zs.drop k) := by
  obtain ⟨h1, h2, h3, h4, h5⟩ := h
  refine ⟨by simp; omega, by omega, by omega, fun h => (by split at h <;> cases h), fun hne => ?_⟩
  have hkl : k < zs.length := by
    rcases Nat.lt_or_ge k zs.length with h | h
    · exact h
    · rw [List.drop_of_length_le h] at hne; exact absurd rfl hne
  obtain ⟨b', off', e, hb, hc⟩ := h5 (fun e => by rw [e] at hkl; simp at hkl)
  cases e
  rw [if_neg (by omega)]
  refine ⟨b, off + k * sz, rfl, hb, fun i hi j hj => ?_⟩
  simp at hi
  have := hc (k + i) (by omega) j hj
  rw [show off + k * sz + i * sz + j = off + (k + i) * sz + j by rw [Nat.add_mul]; omega, this]
  simp
theorem flat_length (hE : ∀ x, (enc x).length = sz) (zs : List α) : (flat enc zs).length = zs.length * sz := by
  induction zs with
  | nil => simp [flat]
  | cons x r ih =>
    simp only [flat, List.flatMap_cons, List.length_append, List.length_cons] at ih ⊢
    rw [ih, hE]; rw [Nat.add_mul]; omega
theorem flat_at (hE : ∀ x, (enc x).length = sz) {zs : List α} {i j : Nat} (hi : i < zs.length) (hj : j < sz) : (flat enc zs)[i * sz + j]? = (enc zs[i])[j]? := by
  induction zs generalizing i with
  | nil => simp at hi
  | cons x r ih =>
    show (enc x ++ flat enc r)[i * sz + j]? = _
    cases i with
    | zero => rw [List.getElem?_append_left (by rw [hE]; omega)]; simp
    | succ i =>
      rw [List.getElem?_append_right (by rw [hE, Nat.add_mul]; omega), hE, show (i + 1) * sz + j - sz = i * sz + j by rw [Nat.add_mul]; omega]
      rw [ih (by simpa using hi)]; simp
/-- The cells of a slice, in a row. -/
theorem IsSl.news (hE : ∀ x, (enc x).length = sz) {w : World} {b off len cap : Nat} {zs : List α} (h : IsSl sz enc w (some ⟨b, off, none⟩) len cap zs) : ∀ j u, (flat enc zs)[j]? = some u → w.cell? ((⟨b, off, none⟩ : Addr).add j) = some u := by
  intro j u hj
  have hjl : j < zs.length * sz := by rw [← flat_length hE]; exact (List.getElem?_eq_some_iff.1 hj).1
  have hsz : 0 < sz := by rcases Nat.eq_zero_or_pos sz with e | e; · rw [e] at hjl; omega
                          · exact e
  obtain ⟨b', off', e, hb, hc⟩ := h.at_ (fun e => by rw [e] at hjl; simp at hjl)
  cases e
  have hi : j / sz < zs.length := by rw [Nat.div_lt_iff_lt_mul hsz]; exact hjl
  have hm : j % sz < sz := Nat.mod_lt _ hsz
  have e1 : j / sz * sz + j % sz = j := by rw [Nat.mul_comm]; exact Nat.div_add_mod j sz
  rw [addr_add]
  have h1 := hc (j / sz) hi (j % sz) hm
  rw [← flat_at hE hi hm, e1] at h1
  rw [show off + j / sz * sz + j % sz = off + j by omega] at h1
  rw [h1, hj]
/-- A row of the call's own is such a slice. -/
theorem own_shape {w : World} {e : TypeId} {n : Nat} {v : Value} {xs : List Value} (h : w.ownsRow 0 e sz v n xs) : ∃ a cap, v = .slice a n cap := by
  rcases h.2 with ⟨e, h0⟩ | ⟨g, cap, cur, e, _⟩
  · exact ⟨none, 0, by rw [e, h0]⟩
  · exact ⟨_, cap, e⟩
theorem IsSl.of_own (hE : ∀ x, (enc x).length = sz) {w : World} {e : TypeId} {a : Option Addr} {n cap : Nat} {zs : List α} (h : w.ownsRow 0 e sz (.slice a n cap) n (flat enc zs)) (hz : zs.length = n) : IsSl sz enc w a n cap zs := by
  rcases h.2 with ⟨e1, h0⟩ | ⟨g, cap', cur, e1, _, hg, hnc, hcm, hcs, htake⟩
  · cases e1
    have : zs = [] := List.eq_nil_of_length_eq_zero hz
    subst this
    exact IsSl.nil w
  · cases e1
    refine ⟨hz.symm, hnc, hcm, fun h => (by cases h), fun hne => ⟨g, 0, rfl, lt_of_block hg, fun i hi j hj => ?_⟩⟩
    rw [cell_of hg, ← flat_at hE hi hj]
    have hlt : i * sz + j < n * sz := by
      have : (i + 1) * sz ≤ n * sz := Nat.mul_le_mul_right _ (by omega)
      rw [Nat.add_mul] at this; omega
    have h1 : (cur.toList.take (n * sz))[i * sz + j]? = (flat enc zs)[i * sz + j]? := by rw [htake]
    rw [List.getElem?_take, if_pos hlt] at h1
    rw [← h1]; simp
end
/-- An append of a slice that may be nil. -/
theorem run_append_slice {P : Program} (w : World) (t ty e : TypeId) (i : TypeInfo) (z : Value) (size bytes : Nat) (ht : P.underlying t = some (.slice e)) (hi : P.info? e = some i) (hz : i.zero = some z)
    (hsize : i.size = size) (hby : i.bytes = bytes) (hzs : z.cells.size = size) (hsz : 0 < size)
    (v : Value) (n : Nat) (xs : List Value) (hown : w.ownsRow 0 e size v n xs)
    (ao : Option Addr) (m c : Nat) (news : List Value) (hl : news.length = m * size) (hnone : ao = none → m = 0 ∧ c = 0) (hnews : ∀ a, ao = some a → ∀ j u, news[j]? = some u → w.cell? (a.add j) = some u) (h1 : ∀ u ∈ news, u.oneCell' = true)
    (h63 : n + m ≤ maxLen) (hbytes : (n + m) * bytes ≤ 140737488355328) :
    ∃ v' w', (Builtin.append_ #[t, t] ty #[v, .slice ao m c]).run P w = .ok v' w' ∧ w'.ownsRow 0 e size v' (n + m) (xs ++ news) ∧ w.grownBy w' v.ownBlock ∧
      (∀ g, v'.ownBlock = some g → v.ownBlock = some g ∨ w.heap.size ≤ g) := by
  cases ao with
  | some a => exact run_append_mine w t ty e i z size bytes ht hi hz hsize hby hzs hsz v n xs hown a m c news hl (hnews a rfl) h1 h63 hbytes
  | none =>
    obtain ⟨rfl, rfl⟩ := hnone rfl
    have hx : news = [] := List.eq_nil_of_length_eq_zero (by simpa using hl)
    subst hx
    exact ⟨v, w, run_append_owned_none (P := P) w 0 t ty e i size ht hi v n xs hown, by simpa using hown, World.grownBy.refl _ _, fun g h => Or.inl h⟩
theorem wpList_append_slice {P : Program} (w : World) {ops : Array Oper} {rest : List Oper} {o : Oper} {a : Act} {Q : Exit → Act → World → Prop} (hgd : o.guard = none) (s x : Operand) (t : TypeId)
    (ho : o.op = .call { callee := .builtin .append, args := #[s, x], argTypes := #[t, t] })
    (e : TypeId) (i : TypeInfo) (z : Value) (size bytes : Nat) (ht : P.underlying t = some (.slice e)) (hi : P.info? e = some i) (hz : i.zero = some z)
    (hsize : i.size = size) (hby : i.bytes = bytes) (hzs : z.cells.size = size) (hsz : 0 < size)
    (v : Value) (n : Nat) (xs : List Value) (hs : a.eval s = v) (hown : w.ownsRow 0 e size v n xs)
    (ao : Option Addr) (m c : Nat) (news : List Value) (hx : a.eval x = .slice ao m c) (hl : news.length = m * size) (hnone : ao = none → m = 0 ∧ c = 0) (hnews : ∀ a, ao = some a → ∀ j u, news[j]? = some u → w.cell? (a.add j) = some u) (h1 : ∀ u ∈ news, u.oneCell' = true)
    (h63 : n + m ≤ maxLen) (hbytes : (n + m) * bytes ≤ 140737488355328)
    (h : ∀ v' w', w'.ownsRow 0 e size v' (n + m) (xs ++ news) → w.grownBy w' v.ownBlock → (∀ g, v'.ownBlock = some g → v.ownBlock = some g ∨ w.heap.size ≤ g) → wpList P ops Q rest (a.put o.dst v') w') : wpList P ops Q (o :: rest) a w := by
  refine wpList_plain hgd fun K hK => ?_
  obtain ⟨v', w', hr, h2, h3, h4⟩ := run_append_slice (P := P) w t o.type e i z size bytes ht hi hz hsize hby hzs hsz v n xs hown ao m c news hl hnone hnews h1 h63 hbytes
  unfold Oper.wp execOp
  simp only [ho, resolve, invoke, builtin, Sem.run_bind, Sem.run_pure, Result.andThen_ok, List.map_toArray, List.map_cons, List.map_nil, hs, hx, hr]
  exact hK _ _ (h v' w' h2 h3 h4)

/-- Numbers of a kind. -/
def encK (k : IntKind) (n : Int) : List Value := [.int k n]
theorem encK_len (k : IntKind) (n : Int) : (encK k n).length = 1 := rfl
theorem encK_one (k : IntKind) (n : Int) : ∀ u ∈ encK k n, u.oneCell' = true := fun u hu => by
  simp [encK] at hu; subst hu; rfl
theorem flat_one {α : Type} {enc : α → List Value} (h : ∀ x, ∀ u ∈ enc x, u.oneCell' = true) (zs : List α) : ∀ u ∈ flat enc zs, u.oneCell' = true := fun u hu => by
  obtain ⟨x, _, hx⟩ := List.mem_flatMap.1 hu
  exact h x u hx
theorem own_lt {w : World} {e : TypeId} {size : Nat} {v : Value} {n : Nat} {xs : List Value} {g : Nat} (h : w.ownsRow 0 e size v n xs) (hv : v.ownBlock = some g) : g < w.heap.size := by
  rcases h.2 with ⟨rfl, _⟩ | ⟨g', cap, cur, rfl, _, hh, _⟩
  · simp [Value.ownBlock] at hv
  · simp [Value.ownBlock] at hv
    rw [← hv]
    exact lt_of_block hh
theorem ownsRow_touch {w w' : World} {S : Nat → Prop} {e : TypeId} {size : Nat} {v : Value} {n : Nat} {xs : List Value} (h : w.ownsRow 0 e size v n xs) (ht : Touch S w w') (hs : ∀ k, v.ownBlock = some k → ¬ S k) : w'.ownsRow 0 e size v n xs := by
  obtain ⟨h1, h2⟩ := h
  refine ⟨h1, ?_⟩
  rcases h2 with h2 | ⟨g, cap, cur, rfl, hg, hh, r⟩
  · exact Or.inl h2
  · exact Or.inr ⟨g, cap, cur, rfl, hg, ht.keep hh (hs g rfl), r⟩
/-- A row of the call's own, whose block is one of the new ones. -/
structure OutR {α : Type} (sz : Nat) (enc : α → List Value) (e : TypeId) (w : World) (B : Nat) (v : Value) (zs : List α) : Prop where
  row : w.ownsRow 0 e sz v zs.length (flat enc zs)
  blk : ∀ g, v.ownBlock = some g → B ≤ g
theorem OutR.below {α : Type} {sz : Nat} {enc : α → List Value} {e : TypeId} {w w' : World} {B : Nat} {v : Value} {zs : List α} (h : OutR sz enc e w B v zs) (hb : Below w.heap.size w w') : OutR sz enc e w' B v zs :=
  ⟨ownsRow_touch h.row (Touch.of_below hb (fun _ => False)) (fun _ _ h => h), h.blk⟩
/-- After an append (of what lay in w, or in a block that was made ahead of it). -/
theorem OutR.grow {α : Type} {sz : Nat} {enc : α → List Value} {e : TypeId} {w w1 w2 : World} {B : Nat} {v v' : Value} {zs ys : List α} (h : OutR sz enc e w B v zs) (hb : Below w.heap.size w w1) (hB : B ≤ w.heap.size)
    (ho : w2.ownsRow 0 e sz v' (zs.length + ys.length) (flat enc zs ++ flat enc ys)) (hg : w1.grownBy w2 v.ownBlock) (hn : ∀ g, v'.ownBlock = some g → v.ownBlock = some g ∨ w1.heap.size ≤ g) :
    OutR sz enc e w2 B v' (zs ++ ys) ∧ Touch (fun k => v.ownBlock = some k) w w2 ∧ Below B w w2 ∧ ∀ g, v'.ownBlock = some g → v.ownBlock = some g ∨ w.heap.size ≤ g := by
  have hT : Touch (fun k => v.ownBlock = some k) w w2 := (Touch.of_below hb _).grown hg (fun k hk _ => hk)
  have hn' : ∀ g, v'.ownBlock = some g → v.ownBlock = some g ∨ w.heap.size ≤ g := fun g hg' => (hn g hg').imp id (fun h => Nat.le_trans hb.size h)
  refine ⟨⟨by simpa [flat] using ho, fun g hg' => (hn' g hg').elim (h.blk g) (fun h => by omega)⟩, hT, hT.below hB (fun k hk hv => by have := h.blk k hv; omega), hn'⟩
theorem IsSl.of_block {α : Type} {sz : Nat} {enc : α → List Value} (hE : ∀ x, (enc x).length = sz) {w : World} {g : Nat} {cs : Array Value} {t : TypeId} {f : Nat × Nat} {zs : List α} (h : w.heap[g]? = some (.cells cs t f)) (hc : cs.toList = flat enc zs) {n : Nat} (hn : n = zs.length) (hm : n ≤ maxLen) : IsSl sz enc w (some ⟨g, 0, none⟩) n n zs := by
  refine ⟨hn, Nat.le_refl _, hm, fun h => (by cases h), fun _ => ⟨g, 0, rfl, lt_of_block h, fun i hi j hj => ?_⟩⟩
  rw [cell_of h, ← flat_at hE hi hj, ← hc]
  simp
theorem out_of_make {α : Type} {sz : Nat} {enc : α → List Value} {e : TypeId} {w : World} {B : Nat} {v : Value} (h : w.ownsRow B e sz v 0 []) : OutR sz enc e w B v [] := by
  obtain ⟨h1, h2⟩ := h
  refine ⟨⟨by simp [flat], ?_⟩, fun g hg => ?_⟩
  · rcases h2 with h2 | ⟨g, cap, cur, rfl, hb, r⟩
    · exact Or.inl h2
    · exact Or.inr ⟨g, cap, cur, rfl, Nat.zero_le _, r⟩
  · rcases h2 with ⟨e, _⟩ | ⟨g', cap, cur, e, hb, r⟩
    · rw [e] at hg; cases hg
    · rw [e] at hg; cases hg; exact hb
theorem slNews {α : Type} {sz : Nat} {enc : α → List Value} (hE : ∀ x, (enc x).length = sz) {w : World} {a : Addr} {len cap : Nat} {zs : List α} (h : IsSl sz enc w (some a) len cap zs) : ∀ j u, (flat enc zs)[j]? = some u → w.cell? (a.add j) = some u := by
  by_cases hz : zs = []
  · subst hz; intro j u h; simp [flat] at h
  · obtain ⟨b, off, e, _⟩ := h.at_ hz
    cases e
    exact h.news hE
/-- Numbers, as a slice. -/
abbrev IsK (k : IntKind) (w : World) (a : Option Addr) (len cap : Nat) (zs : List Int) : Prop := IsSl 1 (encK k) w a len cap zs
theorem IsSl.cellK {k : IntKind} {w : World} {b off len cap : Nat} {zs : List Int} (h : IsK k w (some ⟨b, off, none⟩) len cap zs) {i : Nat} (hi : i < zs.length) : w.cell? ⟨b, off + i, none⟩ = some (.int k (zs.getD i 0)) := by
  obtain ⟨b', off', e, _, hc⟩ := h.at_ (fun e => by rw [e] at hi; simp at hi)
  cases e
  have := hc i hi 0 (by decide)
  rw [show off + i * 1 + 0 = off + i by omega] at this
  rw [this]; simp [encK, hi]
/-- A slice of integers that came in. -/
structure IsInts (k : IntKind) (w : World) (a : Option Addr) (len cap : Nat) (zs : List Int) : Prop where
  sl : IsK k w a len cap zs
  wf : ∀ n ∈ zs, (Lit.int k n).wf = true
theorem IsInts.nil (k : IntKind) (w : World) : IsInts k w none 0 0 [] := ⟨IsSl.nil w, fun _ h => by cases h⟩
theorem IsInts.mk' {k : IntKind} {w : World} {x : Addr} {len cap : Nat} {zs : List Int} (hl : len ≤ cap) (hm : cap ≤ maxLen) (hz : zs.length = cap) (hcell : ∀ i, i < zs.length → w.cell? (x.add i) = some (.int k (zs.getD i 0)))
    (hw : ∀ n ∈ zs, (Lit.int k n).wf = true) : IsInts k w (some x) len cap (zs.take len) := by
  refine ⟨⟨by simp; omega, hl, hm, fun h => (by cases h), fun hne => ?_⟩, fun n hn => hw n (List.mem_of_mem_take hn)⟩
  have h0 : 0 < zs.length := by
    rcases Nat.eq_zero_or_pos zs.length with h | h
    · simp [List.length_eq_zero_iff.1 h] at hne
    · exact h
  obtain ⟨b, off, spot⟩ := x
  have hc := hcell 0 h0
  have hspot : spot = none := by simpa [Addr.add] using World.cell?_spot hc
  subst hspot
  refine ⟨b, off, rfl, lt_of_cell (by simpa [Addr.add] using hc), fun i hi j hj => ?_⟩
  obtain rfl : j = 0 := by omega
  simp at hi
  have hci := hcell i (by omega)
  rw [addr_add] at hci
  rw [show off + i * 1 + 0 = off + i by omega, hci]
  simp [encK, show i < zs.length by omega]
/-- The cells of numbers. -/
def vs (k : IntKind) (zs : List Int) : List Value := zs.map (Value.int k)
theorem flat_K (k : IntKind) (zs : List Int) : flat (encK k) zs = vs k zs := by
  induction zs with
  | nil => rfl
  | cons x r ih => simp only [flat, List.flatMap_cons, vs, List.map_cons] at ih ⊢; rw [ih]; rfl
theorem vs_len (k : IntKind) (zs : List Int) : (vs k zs).length = zs.length := by simp [vs]
theorem vs_set (k : IntKind) (zs : List Int) (rest : List Value) (i : Nat) (x : Int) (hi : i < zs.length) : ((vs k zs ++ rest).toArray).setIfInBounds i (.int k x) = (vs k (zs.set i x) ++ rest).toArray := by
  rw [List.setIfInBounds_toArray, List.set_append_left _ _ (by rw [vs_len]; exact hi)]
  simp [vs, List.map_set]
theorem vs_cell (k : IntKind) (zs : List Int) (rest : List Value) (i : Nat) (hi : i < zs.length) : ((vs k zs ++ rest).toArray)[i]? = some (.int k (zs.getD i 0)) := by
  rw [List.getElem?_toArray, List.getElem?_append_left (by rw [vs_len]; exact hi)]
  simp [vs, hi]
theorem vs_made (k : IntKind) (n : Nat) : madeCells #[Value.int k 0] n = (vs k (List.replicate n 0)).toArray := by
  apply Array.ext
  · simp [madeCells, vs]
  · intro i h1 h2; simp [madeCells, vs, Nat.mod_one]
/-- A block whose first cells are these numbers. -/
def Blk (k : IntKind) (e : TypeId) (w : World) (g cap : Nat) (zs : List Int) : Prop := ∃ rest : List Value, zs.length + rest.length = cap ∧ cap ≤ maxLen ∧ w.heap[g]? = some (.cells (vs k zs ++ rest).toArray e (0, 0))
theorem Blk.sl {k : IntKind} {e : TypeId} {w : World} {g cap : Nat} {zs : List Int} (h : Blk k e w g cap zs) {n : Nat} (hn : n = zs.length) : IsK k w (some ⟨g, 0, none⟩) n cap zs := by
  obtain ⟨rest, h1, h2, h3⟩ := h
  refine ⟨hn, by omega, h2, fun h => (by cases h), fun _ => ⟨g, 0, rfl, lt_of_block h3, fun i hi j hj => ?_⟩⟩
  obtain rfl : j = 0 := by omega
  rw [cell_of h3, show 0 + i * 1 + 0 = i by omega, vs_cell k zs rest i hi]
  simp [encK, hi]
theorem Blk.cell {k : IntKind} {e : TypeId} {w : World} {g cap : Nat} {zs : List Int} (h : Blk k e w g cap zs) {i : Nat} (hi : i < zs.length) : w.cell? ⟨g, i, none⟩ = some (.int k (zs.getD i 0)) := by
  obtain ⟨rest, h1, h2, h3⟩ := h
  rw [cell_of h3, vs_cell k zs rest i hi]
theorem Blk.free {k : IntKind} {e : TypeId} {w : World} {g cap : Nat} {zs : List Int} (h : Blk k e w g cap zs) (i : Nat) : w.frozen? ⟨g, i, none⟩ = false := by
  obtain ⟨rest, h1, h2, h3⟩ := h
  exact free_of h3 i
theorem Blk.lt {k : IntKind} {e : TypeId} {w : World} {g cap : Nat} {zs : List Int} (h : Blk k e w g cap zs) : g < w.heap.size := by
  obtain ⟨rest, h1, h2, h3⟩ := h
  exact lt_of_block h3
theorem Blk.set {k : IntKind} {e : TypeId} {w : World} {g cap : Nat} {zs : List Int} (h : Blk k e w g cap zs) {i : Nat} (hi : i < zs.length) (x : Int) : Blk k e (w.setCell ⟨g, i, none⟩ (.int k x)) g cap (zs.set i x) := by
  obtain ⟨rest, h1, h2, h3⟩ := h
  refine ⟨rest, by simpa using h1, h2, ?_⟩
  rw [set_of h3, vs_set k zs rest i x hi]
theorem Blk.other {k : IntKind} {e : TypeId} {w : World} {g cap : Nat} {zs : List Int} (h : Blk k e w g cap zs) {p : Addr} (hp : g ≠ p.block) (v : Value) : Blk k e (w.setCell p v) g cap zs := by
  obtain ⟨rest, h1, h2, h3⟩ := h
  exact ⟨rest, h1, h2, block_set h3 hp v⟩
theorem Blk.drew {k : IntKind} {e : TypeId} {w : World} {g cap : Nat} {zs : List Int} (h : Blk k e w g cap zs) : Blk k e w.drew g cap zs := h
theorem Blk.alloc {k : IntKind} {e : TypeId} {w : World} {g cap : Nat} {zs : List Int} (h : Blk k e w g cap zs) (o : Obj) : Blk k e (w.alloc o) g cap zs := by
  obtain ⟨rest, h1, h2, h3⟩ := h
  exact ⟨rest, h1, h2, block_old h3 o⟩
theorem Blk.touch {k : IntKind} {e : TypeId} {S : Nat → Prop} {w w' : World} {g cap : Nat} {zs : List Int} (h : Blk k e w g cap zs) (ht : Touch S w w') (hs : ¬ S g) : Blk k e w' g cap zs := by
  obtain ⟨rest, h1, h2, h3⟩ := h
  exact ⟨rest, h1, h2, ht.keep h3 hs⟩
theorem Blk.below {k : IntKind} {e : TypeId} {w w' : World} {g cap : Nat} {zs : List Int} (h : Blk k e w g cap zs) (hb : Below w.heap.size w w') : Blk k e w' g cap zs :=
  h.touch (Touch.of_below hb (fun _ => False)) (fun h => h)
theorem Blk.new {k : IntKind} {e : TypeId} (w : World) (n : Nat) (hn : n ≤ maxLen) : Blk k e (w.alloc (.cells (madeCells #[Value.int k 0] n) e)) w.heap.size n (List.replicate n 0) :=
  ⟨[], by simp, hn, by rw [block_new, vs_made, List.append_nil]⟩
/-- What was appended, as a block. -/
theorem OutR.blk_of {k : IntKind} {e : TypeId} {w : World} {B : Nat} {v : Value} {zs : List Int} (h : OutR 1 (encK k) e w B v zs) (hne : zs ≠ []) : ∃ g cap, v = .slice (some ⟨g, 0, none⟩) zs.length cap ∧ B ≤ g ∧ Blk k e w g cap zs := by
  obtain ⟨⟨h1, h2⟩, h3⟩ := h
  rcases h2 with ⟨_, h0⟩ | ⟨g, cap, cur, hv, _, hg, hnc, hcm, hcs, htake⟩
  · exact absurd (List.eq_nil_of_length_eq_zero h0) hne
  · refine ⟨g, cap, hv, h3 g (by rw [hv]; rfl), cur.toList.drop zs.length, ?_, hcm, ?_⟩
    · simp; omega
    · rw [hg]
      have e1 : (vs k zs ++ cur.toList.drop zs.length).toArray = cur := by
        rw [← flat_K, ← htake, Nat.mul_one, List.take_append_drop]
      rw [e1]
theorem OutR.of_blk {k : IntKind} {e : TypeId} {w : World} {B g cap : Nat} {zs : List Int} (h : Blk k e w g cap zs) (hB : B ≤ g) : OutR 1 (encK k) e w B (.slice (some ⟨g, 0, none⟩) zs.length cap) zs := by
  obtain ⟨rest, h1, h2, h3⟩ := h
  refine ⟨⟨by rw [flat_K, vs_len, Nat.mul_one], Or.inr ⟨g, cap, _, rfl, Nat.zero_le _, h3, by omega, h2, by simp [vs_len]; omega, by rw [flat_K, Nat.mul_one]; simp [vs_len, List.take_append_of_le_length]⟩⟩, fun g' hg => ?_⟩
  cases hg; exact hB
theorem OutR.sl {k : IntKind} {e : TypeId} {w : World} {B : Nat} {v : Value} {zs : List Int} (h : OutR 1 (encK k) e w B v zs) : ∃ a cap, v = .slice a zs.length cap ∧ IsK k w a zs.length cap zs := by
  obtain ⟨a, cap, rfl⟩ := own_shape h.row
  exact ⟨a, cap, rfl, IsSl.of_own (encK_len k) h.row rfl⟩
end Go.Proofs.YtabihdhgonnihaaDoor

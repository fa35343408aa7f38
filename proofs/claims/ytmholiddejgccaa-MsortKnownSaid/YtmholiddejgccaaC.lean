/- Slices whose elements are so many cells each. -/
import Derived.Test.YtmholiddejgccaaB
import Derived.OwnWalk
namespace Go.Proofs.Ytmholiddejgccaa
open Go.ChangeShapes Go.WideShapes Go.ChangeAt Go.RowKit

section
variable {α : Type}
def flat (enc : α → List Value) (zs : List α) : List Value := zs.flatMap enc
/-- A slice of so many elements, each of sz cells. -/
structure IsSl (sz : Nat) (enc : α → List Value) (w : World) (a : Option Addr) (len cap : Nat) (zs : List α) : Prop where
  hlen : len = zs.length
  hle : len ≤ cap
  hmax : cap ≤ maxLen
  hnone : a = none → cap = 0
  at_ : zs ≠ [] → ∃ b off, a = some ⟨b, off, none⟩ ∧ b < w.heap.size ∧ ∀ i (hi : i < zs.length), ∀ j, j < sz → w.cell? ⟨b, off + i * sz + j, none⟩ = (enc zs[i])[j]?
variable {sz : Nat} {enc : α → List Value}
theorem IsSl.nil (w : World) : IsSl sz enc w none 0 0 [] := ⟨rfl, Nat.le_refl _, Nat.zero_le _, fun _ => rfl, fun h => absurd rfl h⟩
theorem IsSl.keep {S : Nat → Prop} {w w' : World} {a : Option Addr} {len cap : Nat} {zs : List α} (h : IsSl sz enc w a len cap zs) (ht : Touch S w w') (hs : zs ≠ [] → ∀ x, a = some x → ¬ S x.block) : IsSl sz enc w' a len cap zs := by
  obtain ⟨h1, h2, h3, h4, h5⟩ := h
  refine ⟨h1, h2, h3, h4, fun hne => ?_⟩
  obtain ⟨b, off, rfl, hb, hc⟩ := h5 hne
  refine ⟨b, off, rfl, Nat.lt_of_lt_of_le hb ht.size, fun i hi j hj => ?_⟩
  rw [← hc i hi j hj]
  unfold World.cell?
  rw [ht.block b hb (hs hne _ rfl)]
theorem IsSl.below {w w' : World} {a : Option Addr} {len cap : Nat} {zs : List α} (h : IsSl sz enc w a len cap zs) (hb : Below w.heap.size w w') : IsSl sz enc w' a len cap zs :=
  h.keep (Touch.of_below hb (fun _ => False)) (fun _ _ _ h => h)
theorem IsSl.take {w : World} {a : Option Addr} {len cap : Nat} {zs : List α} (h : IsSl sz enc w a len cap zs) {k : Nat} (hk : k ≤ len) : IsSl sz enc w a k cap (zs.take k) := by
  obtain ⟨h1, h2, h3, h4, h5⟩ := h
  refine ⟨by simp; omega, by omega, h3, h4, fun hne => ?_⟩
  obtain ⟨b, off, rfl, hb, hc⟩ := h5 (fun e => by rw [e] at hne; simp at hne)
  refine ⟨b, off, rfl, hb, fun i hi j hj => ?_⟩
  simp at hi
  rw [hc i (by omega) j hj]
  simp
theorem IsSl.drop {w : World} {b off len cap : Nat} {zs : List α} (h : IsSl sz enc w (some ⟨b, off, none⟩) len cap zs) {k : Nat} (hk : k ≤ len) :
    IsSl sz enc w (if cap = k then some ⟨b, off, none⟩ else some ⟨b, off + k * sz, none⟩) (len - k) (cap - k) (zs.drop k) := by
  obtain ⟨h1, h2, h3, h4, h5⟩ := h
  refine ⟨by simp; omega, by omega, by omega, fun h => (by split at h <;> cases h), fun hne => ?_⟩
  have hkl : k < zs.length := by
    rcases Nat.lt_or_ge k zs.length with h | h
    · exact h
    · rw [List.drop_of_length_le h] at hne; exact absurd rfl hne
  obtain ⟨b', off', e, hb, hc⟩ := h5 (fun e => by rw [e] at hkl; simp at hkl)
  cases e
  rw [if_neg (by omega)]
  refine ⟨b, off + k * sz, rfl, hb, fun i hi j hj => ?_⟩
  simp at hi
  have := hc (k + i) (by omega) j hj
  rw [show off + k * sz + i * sz + j = off + (k + i) * sz + j by rw [Nat.add_mul]; omega, this]
  simp
theorem flat_length (hE : ∀ x, (enc x).length = sz) (zs : List α) : (flat enc zs).length = zs.length * sz := by
  induction zs with
  | nil => simp [flat]
  | cons x r ih =>
    simp only [flat, List.flatMap_cons, List.length_append, List.length_cons] at ih ⊢
    rw [ih, hE]; rw [Nat.add_mul]; omega
theorem flat_at (hE : ∀ x, (enc x).length = sz) {zs : List α} {i j : Nat} (hi : i < zs.length) (hj : j < sz) : (flat enc zs)[i * sz + j]? = (enc zs[i])[j]? := by
  induction zs generalizing i with
  | nil => simp at hi
  | cons x r ih =>
    show (enc x ++ flat enc r)[i * sz + j]? = _
    cases i with
    | zero => rw [List.getElem?_append_left (by rw [hE]; omega)]; simp
    | succ i =>
      rw [List.getElem?_append_right (by rw [hE, Nat.add_mul]; omega), hE, show (i + 1) * sz + j - sz = i * sz + j by rw [Nat.add_mul]; omega]
      rw [ih (by simpa using hi)]; simp
/-- The cells of a slice, in a row. -/
theorem IsSl.news (hE : ∀ x, (enc x).length = sz) {w : World} {b off len cap : Nat} {zs : List α} (h : IsSl sz enc w (some ⟨b, off, none⟩) len cap zs) : ∀ j u, (flat enc zs)[j]? = some u → w.cell? ((⟨b, off, none⟩ : Addr).add j) = some u := by
  intro j u hj
  have hjl : j < zs.length * sz := by rw [← flat_length hE]; exact (List.getElem?_eq_some_iff.1 hj).1
  have hsz : 0 < sz := by rcases Nat.eq_zero_or_pos sz with e | e; · rw [e] at hjl; omega
                          · exact e
  obtain ⟨b', off', e, hb, hc⟩ := h.at_ (fun e => by rw [e] at hjl; simp at hjl)
  cases e
  have hi : j / sz < zs.length := by rw [Nat.div_lt_iff_lt_mul hsz]; exact hjl
  have hm : j % sz < sz := Nat.mod_lt _ hsz
  have e1 : j / sz * sz + j % sz = j := by rw [Nat.mul_comm]; exact Nat.div_add_mod j sz
  rw [addr_add]
  have h1 := hc (j / sz) hi (j % sz) hm
  rw [← flat_at hE hi hm, e1] at h1
  rw [show off + j / sz * sz + j % sz = off + j by omega] at h1
  rw [h1, hj]
/-- A row of the call's own is such a slice. -/
theorem own_shape {w : World} {e : TypeId} {n : Nat} {v : Value} {xs : List Value} (h : w.ownsRow 0 e sz v n xs) : ∃ a cap, v = .slice a n cap := by
  rcases h.2 with ⟨e, h0⟩ | ⟨g, cap, cur, e, _⟩
  · exact ⟨none, 0, by rw [e, h0]⟩
  · exact ⟨_, cap, e⟩
theorem IsSl.of_own (hE : ∀ x, (enc x).length = sz) {w : World} {e : TypeId} {a : Option Addr} {n cap : Nat} {zs : List α} (h : w.ownsRow 0 e sz (.slice a n cap) n (flat enc zs)) (hz : zs.length = n) : IsSl sz enc w a n cap zs := by
  rcases h.2 with ⟨e1, h0⟩ | ⟨g, cap', cur, e1, _, hg, hnc, hcm, hcs, htake⟩
  · cases e1
    have : zs = [] := List.eq_nil_of_length_eq_zero hz
    subst this
    exact IsSl.nil w
  · cases e1
    refine ⟨hz.symm, hnc, hcm, fun h => (by cases h), fun hne => ⟨g, 0, rfl, lt_of_block hg, fun i hi j hj => ?_⟩⟩
    rw [cell_of hg, ← flat_at hE hi hj]
    have hlt : i * sz + j < n * sz := by
      have : (i + 1) * sz ≤ n * sz := Nat.mul_le_mul_right _ (by omega)
      rw [Nat.add_mul] at this; omega
    have h1 : (cur.toList.take (n * sz))[i * sz + j]? = (flat enc zs)[i * sz + j]? := by rw [htake]
    rw [List.getElem?_take, if_pos hlt] at h1
    rw [← h1]; simp
end
/-- An append of a slice that may be nil. -/
theorem run_append_slice {P : Program} (w : World) (t ty e : TypeId) (i : TypeInfo) (z : Value) (size bytes : Nat) (ht : P.underlying t = some (.slice e)) (hi : P.info? e = some i) (hz : i.zero = some z)
    (hsize : i.size = size) (hby : i.bytes = bytes) (hzs : z.cells.size = size) (hsz : 0 < size)
    (v : Value) (n : Nat) (xs : List Value) (hown : w.ownsRow 0 e size v n xs)
    (ao : Option Addr) (m c : Nat) (news : List Value) (hl : news.length = m * size) (hnone : ao = none → m = 0 ∧ c = 0) (hnews : ∀ a, ao = some a → ∀ j u, news[j]? = some u → w.cell? (a.add j) = some u) (h1 : ∀ u ∈ news, u.oneCell' = true)
    (h63 : n + m ≤ maxLen) (hbytes : (n + m) * bytes ≤ 140737488355328) :
    ∃ v' w', (Builtin.append_ #[t, t] ty #[v, .slice ao m c]).run P w = .ok v' w' ∧ w'.ownsRow 0 e size v' (n + m) (xs ++ news) ∧ w.grownBy w' v.ownBlock ∧
      (∀ g, v'.ownBlock = some g → v.ownBlock = some g ∨ w.heap.size ≤ g) := by
  cases ao with
  | some a => exact run_append_mine w t ty e i z size bytes ht hi hz hsize hby hzs hsz v n xs hown a m c news hl (hnews a rfl) h1 h63 hbytes
  | none =>
    obtain ⟨rfl, rfl⟩ := hnone rfl
    have hx : news = [] := List.eq_nil_of_length_eq_zero (by simpa using hl)
    subst hx
    exact ⟨v, w, run_append_owned_none (P := P) w 0 t ty e i size ht hi v n xs hown, by simpa using hown, World.grownBy.refl _ _, fun g h => Or.inl h⟩
theorem wpList_append_slice {P : Program} (w : World) {ops : Array Oper} {rest : List Oper} {o : Oper} {a : Act} {Q : Exit → Act → World → Prop} (hgd : o.guard = none) (s x : Operand) (t : TypeId)
    (ho : o.op = .call { callee := .builtin .append, args := #[s, x], argTypes := #[t, t] })
    (e : TypeId) (i : TypeInfo) (z : Value) (size bytes : Nat) (ht : P.underlying t = some (.slice e)) (hi : P.info? e = some i) (hz : i.zero = some z)
    (hsize : i.size = size) (hby : i.bytes = bytes) (hzs : z.cells.size = size) (hsz : 0 < size)
    (v : Value) (n : Nat) (xs : List Value) (hs : a.eval s = v) (hown : w.ownsRow 0 e size v n xs)
    (ao : Option Addr) (m c : Nat) (news : List Value) (hx : a.eval x = .slice ao m c) (hl : news.length = m * size) (hnone : ao = none → m = 0 ∧ c = 0) (hnews : ∀ a, ao = some a → ∀ j u, news[j]? = some u → w.cell? (a.add j) = some u) (h1 : ∀ u ∈ news, u.oneCell' = true)
    (h63 : n + m ≤ maxLen) (hbytes : (n + m) * bytes ≤ 140737488355328)
    (h : ∀ v' w', w'.ownsRow 0 e size v' (n + m) (xs ++ news) → w.grownBy w' v.ownBlock → (∀ g, v'.ownBlock = some g → v.ownBlock = some g ∨ w.heap.size ≤ g) → wpList P ops Q rest (a.put o.dst v') w') : wpList P ops Q (o :: rest) a w := by
  refine wpList_plain hgd fun K hK => ?_
  obtain ⟨v', w', hr, h2, h3, h4⟩ := run_append_slice (P := P) w t o.type e i z size bytes ht hi hz hsize hby hzs hsz v n xs hown ao m c news hl hnone hnews h1 h63 hbytes
  unfold Oper.wp execOp
  simp only [ho, resolve, invoke, builtin, Sem.run_bind, Sem.run_pure, Result.andThen_ok, List.map_toArray, List.map_cons, List.map_nil, hs, hx, hr]
  exact hK _ _ (h v' w' h2 h3 h4)

/-- Records; indexes. -/
def encR (r : Rc) : List Value := [.int .u64 r.u, .int .u64 r.v, .int .i64 r.w, .int .i64 r.t]
def encN (n : Nat) : List Value := [.int .i64 n]
def evN (n : Nat) : Value := .int .i64 n
theorem encR_len (r : Rc) : (encR r).length = 4 := rfl
theorem encN_len (n : Nat) : (encN n).length = 1 := rfl
theorem flat_one {α : Type} {enc : α → List Value} (h : ∀ x, ∀ u ∈ enc x, u.oneCell' = true) (zs : List α) : ∀ u ∈ flat enc zs, u.oneCell' = true := fun u hu => by
  obtain ⟨x, _, hx⟩ := List.mem_flatMap.1 hu
  exact h x u hx
theorem encR_one (r : Rc) : ∀ u ∈ encR r, u.oneCell' = true := fun u hu => by
  simp [encR] at hu; rcases hu with rfl | rfl | rfl | rfl <;> rfl
theorem encN_one (n : Nat) : ∀ u ∈ encN n, u.oneCell' = true := fun u hu => by
  simp [encN] at hu; subst hu; rfl
theorem own_lt {w : World} {e : TypeId} {size : Nat} {v : Value} {n : Nat} {xs : List Value} {g : Nat} (h : w.ownsRow 0 e size v n xs) (hv : v.ownBlock = some g) : g < w.heap.size := by
  rcases h.2 with ⟨rfl, _⟩ | ⟨g', cap, cur, rfl, _, hh, _⟩
  · simp [Value.ownBlock] at hv
  · simp [Value.ownBlock] at hv
    rw [← hv]
    exact lt_of_block hh
theorem ownsRow_touch {w w' : World} {S : Nat → Prop} {e : TypeId} {size : Nat} {v : Value} {n : Nat} {xs : List Value} (h : w.ownsRow 0 e size v n xs) (ht : Touch S w w') (hs : ∀ k, v.ownBlock = some k → ¬ S k) : w'.ownsRow 0 e size v n xs := by
  obtain ⟨h1, h2⟩ := h
  refine ⟨h1, ?_⟩
  rcases h2 with h2 | ⟨g, cap, cur, rfl, hg, hh, r⟩
  · exact Or.inl h2
  · exact Or.inr ⟨g, cap, cur, rfl, hg, ht.keep hh (hs g rfl), r⟩
/-- A row of the call's own, whose block is one of the new ones. -/
structure OutR {α : Type} (sz : Nat) (enc : α → List Value) (e : TypeId) (w : World) (B : Nat) (v : Value) (zs : List α) : Prop where
  row : w.ownsRow 0 e sz v zs.length (flat enc zs)
  blk : ∀ g, v.ownBlock = some g → B ≤ g
theorem OutR.below {α : Type} {sz : Nat} {enc : α → List Value} {e : TypeId} {w w' : World} {B : Nat} {v : Value} {zs : List α} (h : OutR sz enc e w B v zs) (hb : Below w.heap.size w w') : OutR sz enc e w' B v zs :=
  ⟨ownsRow_touch h.row (Touch.of_below hb (fun _ => False)) (fun _ _ h => h), h.blk⟩
/-- After an append (of what lay in w, or in a block that was made ahead of it). -/
theorem OutR.grow {α : Type} {sz : Nat} {enc : α → List Value} {e : TypeId} {w w1 w2 : World} {B : Nat} {v v' : Value} {zs ys : List α} (h : OutR sz enc e w B v zs) (hb : Below w.heap.size w w1) (hB : B ≤ w.heap.size)
    (ho : w2.ownsRow 0 e sz v' (zs.length + ys.length) (flat enc zs ++ flat enc ys)) (hg : w1.grownBy w2 v.ownBlock) (hn : ∀ g, v'.ownBlock = some g → v.ownBlock = some g ∨ w1.heap.size ≤ g) :
    OutR sz enc e w2 B v' (zs ++ ys) ∧ Touch (fun k => v.ownBlock = some k) w w2 ∧ Below B w w2 ∧ ∀ g, v'.ownBlock = some g → v.ownBlock = some g ∨ w.heap.size ≤ g := by
  have hT : Touch (fun k => v.ownBlock = some k) w w2 := (Touch.of_below hb _).grown hg (fun k hk _ => hk)
  have hn' : ∀ g, v'.ownBlock = some g → v.ownBlock = some g ∨ w.heap.size ≤ g := fun g hg' => (hn g hg').imp id (fun h => Nat.le_trans hb.size h)
  refine ⟨⟨by simpa [flat] using ho, fun g hg' => (hn' g hg').elim (h.blk g) (fun h => by omega)⟩, hT, hT.below hB (fun k hk hv => by have := h.blk k hv; omega), hn'⟩
end Go.Proofs.Ytmholiddejgccaa

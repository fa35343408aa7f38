/- Small laws on worlds that know a whole block, for the walks of this seat. They speak of no program. -/
import Derived.WalkKit
import Derived.ProofKit
import Derived.OpenShut
import Derived.Handy
import Derived.Lib.Hide
import Derived.OwnWalk
import Derived.Laws.Slices
namespace Go.Proofs.YtlmdkcpiimpniaaDoor
open Go.RowKit
set_option linter.unusedVariables false
set_option linter.unusedSimpArgs false

/-- Of the blocks that there were, those outside S are as they were. -/
structure Touch (S : Nat → Prop) (w w' : World) : Prop where
  os : w'.os = w.os
  tape : w'.tape = w.tape
  output : w'.output = w.output
  size : w.heap.size ≤ w'.heap.size
  block : ∀ k, k < w.heap.size → ¬ S k → w'.heap[k]? = w.heap[k]?

theorem Touch.refl (S : Nat → Prop) (w : World) : Touch S w w := ⟨rfl, rfl, rfl, Nat.le_refl _, fun _ _ _ => rfl⟩
theorem Touch.trans {S : Nat → Prop} {a b c : World} (h : Touch S a b) (k : Touch S b c) : Touch S a c :=
  ⟨k.os.trans h.os, k.tape.trans h.tape, k.output.trans h.output, Nat.le_trans h.size k.size, fun i hi hs => (k.block i (Nat.lt_of_lt_of_le hi h.size) hs).trans (h.block i hi hs)⟩
theorem Touch.trans' {S S' : Nat → Prop} {a b c : World} (h : Touch S a b) (k : Touch S' b c) (hs : ∀ i, i < a.heap.size → S' i → S i) : Touch S a c :=
  ⟨k.os.trans h.os, k.tape.trans h.tape, k.output.trans h.output, Nat.le_trans h.size k.size, fun i hi hn => (k.block i (Nat.lt_of_lt_of_le hi h.size) (fun e => hn (hs i hi e))).trans (h.block i hi hn)⟩
theorem Touch.mono {S T : Nat → Prop} {w w' : World} (h : Touch S w w') (hs : ∀ k, k < w.heap.size → S k → T k) : Touch T w w' :=
  ⟨h.os, h.tape, h.output, h.size, fun i hi hn => h.block i hi fun hk => hn (hs i hi hk)⟩
theorem Touch.alloc {S : Nat → Prop} {a w : World} (h : Touch S a w) (o : Obj) : Touch S a (w.alloc o) :=
  h.trans ⟨rfl, rfl, rfl, by simp, fun k hk _ => Below.heap_alloc _ _ _ hk⟩
theorem Touch.drew {S : Nat → Prop} {a w : World} (h : Touch S a w) : Touch S a w.drew := ⟨h.os, h.tape, h.output, h.size, h.block⟩
theorem Touch.setCell {S : Nat → Prop} {a w : World} (h : Touch S a w) {p : Addr} (hp : p.block < a.heap.size → S p.block) (u : Value) : Touch S a (w.setCell p u) :=
  ⟨h.os, h.tape, h.output, by rw [World.size_setCell]; exact h.size, fun k hk hs => by
    by_cases e : k = p.block
    · subst e; exact absurd (hp hk) hs
    · rw [Below.heap_setCell _ _ _ _ e]; exact h.block k hk hs⟩
theorem Touch.below {S : Nat → Prop} {w w' : World} {B : Nat} (h : Touch S w w') (hB : B ≤ w.heap.size) (hs : ∀ k, k < B → ¬ S k) : Below B w w' :=
  ⟨h.os, h.tape, h.output, h.size, fun k hk => h.block k (Nat.lt_of_lt_of_le hk hB) (hs k hk)⟩
theorem Touch.of_below {w w' : World} (h : Below w.heap.size w w') (S : Nat → Prop) : Touch S w w' := ⟨h.os, h.tape, h.output, h.size, fun k hk _ => h.block k hk⟩
theorem Touch.keep {S : Nat → Prop} {w w' : World} {b : Nat} {o : Obj} (h : Touch S w w') (hb : w.heap[b]? = some o) (hs : ¬ S b) : w'.heap[b]? = some o :=
  (h.block b (lt_of_block hb) hs).trans hb

/-- What is known of a block that is known whole. -/
theorem cell_of {w : World} {b : Nat} {c : Array Value} {t : TypeId} {f : Nat × Nat} (h : w.heap[b]? = some (.cells c t f)) (o : Nat) : w.cell? ⟨b, o, none⟩ = c[o]? := by simp [World.cell?, h]
theorem free_of {w : World} {b : Nat} {c : Array Value} {t : TypeId} (h : w.heap[b]? = some (.cells c t (0, 0))) (o : Nat) : w.frozen? ⟨b, o, none⟩ = false := by simp [World.frozen?, h]
theorem set_of {w : World} {b : Nat} {c : Array Value} {t : TypeId} {f : Nat × Nat} (h : w.heap[b]? = some (.cells c t f)) (o : Nat) (v : Value) : (w.setCell ⟨b, o, none⟩ v).heap[b]? = some (.cells (c.setIfInBounds o v) t f) := by
  have hlt := lt_of_block h
  have h' : w.heap[b] = .cells c t f := by simpa [Array.getElem?_eq_getElem hlt] using h
  show (w.heap.modify b _)[b]? = _
  rw [Array.getElem?_eq_getElem (by simpa using hlt), Array.getElem_modify_self, h']
  rfl
theorem block_new (w : World) (o : Obj) : (w.alloc o).heap[w.heap.size]? = some o := by show (w.heap.push o)[_]? = _; simp
theorem block_old {w : World} {b : Nat} {o : Obj} (h : w.heap[b]? = some o) (o' : Obj) : (w.alloc o').heap[b]? = some o := by rw [Below.heap_alloc _ _ _ (lt_of_block h)]; exact h
theorem block_set {w : World} {b : Nat} {o : Obj} (h : w.heap[b]? = some o) {p : Addr} (hp : b ≠ p.block) (v : Value) : (w.setCell p v).heap[b]? = some o := by rw [Below.heap_setCell _ _ _ _ hp]; exact h
theorem block_drew {w : World} {b : Nat} {o : Obj} (h : w.heap[b]? = some o) : w.drew.heap[b]? = some o := h
theorem ret_int {k : IntKind} {a b : Int} (h : a = b) : Ending.returned (.int k a) = .returned (.int k b) := by rw [h]
theorem ret_bool {a b : Bool} (h : a = b) : Ending.returned (.bool a) = .returned (.bool b) := by rw [h]

theorem bcell {W w1 : World} (hb : Below W.heap.size W w1) : (∀ b o, b < W.heap.size → w1.cell? ⟨b, o, none⟩ = W.cell? ⟨b, o, none⟩) ∧ (∀ b o, b < W.heap.size → w1.frozen? ⟨b, o, none⟩ = W.frozen? ⟨b, o, none⟩) :=
  ⟨fun b o h => hb.cell (p := ⟨b, o, none⟩) h, fun b o h => hb.frozen (p := ⟨b, o, none⟩) h⟩
theorem addr_add (b off i : Nat) : (⟨b, off, none⟩ : Addr).add i = ⟨b, off + i, none⟩ := by
  by_cases h : i = 0
  · subst h; simp [Addr.add]
  · simp [Addr.add, h]
theorem lt_of_cell {w : World} {b o : Nat} {v : Value} (h : w.cell? ⟨b, o, none⟩ = some v) : b < w.heap.size := by
  unfold World.cell? at h
  split at h
  · rename_i h'; exact lt_of_block h'
  · cases h
theorem alloc_get (w : World) (o : Obj) (k : Nat) : (w.alloc o).heap[k]? = if k = w.heap.size then some o else w.heap[k]? := by
  show (w.heap.push o)[k]? = _; rw [Array.getElem?_push]
theorem heap_drew (w : World) : w.drew.heap = w.heap := rfl
theorem ret_two {k l : IntKind} {a b c d : Int} (h : a = c) (h2 : b = d) : Ending.returned (.tuple #[.int k a, .int l b]) = .returned (.tuple #[.int k c, .int l d]) := by rw [h, h2]
theorem Touch.grown {S : Nat → Prop} {a w w' : World} {row : Option Nat} (h : Touch S a w) (hg : w.grownBy w' row) (hr : ∀ k, row = some k → k < a.heap.size → S k) : Touch S a w' :=
  ⟨hg.os.trans h.os, hg.tape.trans h.tape, hg.output.trans h.output, Nat.le_trans h.size hg.size, fun k hk hs => by
    rw [hg.block k (Nat.lt_of_lt_of_le hk h.size) (fun e => hs (hr k e.symm hk))]; exact h.block k hk hs⟩

/-- An append to what the call owns: as wpList_append_own, and: the row is the old one or a new block. -/
theorem run_append_mine {P : Program} (w : World) (t ty e : TypeId) (i : TypeInfo) (z : Value) (size bytes : Nat) (ht : P.underlying t = some (.slice e)) (hi : P.info? e = some i) (hz : i.zero = some z)
    (hsize : i.size = size) (hby : i.bytes = bytes) (hzs : z.cells.size = size) (hsz : 0 < size)
    (v : Value) (n : Nat) (xs : List Value) (hown : w.ownsRow 0 e size v n xs)
    (a : Addr) (m c : Nat) (news : List Value) (hl : news.length = m * size) (hnews : ∀ j u, news[j]? = some u → w.cell? (a.add j) = some u) (h1 : ∀ u ∈ news, u.oneCell' = true)
    (h63 : n + m ≤ maxLen) (hbytes : (n + m) * bytes ≤ 140737488355328) :
    ∃ v' w', (Builtin.append_ #[t, t] ty #[v, .slice (some a) m c]).run P w = .ok v' w' ∧ w'.ownsRow 0 e size v' (n + m) (xs ++ news) ∧ w.grownBy w' v.ownBlock ∧
      (∀ g, v'.ownBlock = some g → v.ownBlock = some g ∨ w.heap.size ≤ g) := by
  have hsmall : n + m ≤ 9223372036854775807 := by simp only [maxLen] at h63; omega
  rcases hown.2 with ⟨rfl, rfl⟩ | ⟨g, cap, cur, rfl, hbg, hg, hnc, hcm, hcs, htake⟩
  · have hx : xs = [] := List.eq_nil_of_length_eq_zero (by simpa using hown.1)
    subst hx
    obtain ⟨v', w', hr, ho, hgr, _⟩ := run_append_own (P := P) w w.heap.size t ty e i z size bytes ht hi hz hsize hby hzs hsz (.slice none 0 0) 0 [] (World.ownsRow_nil w _ e size) a m c news hl hnews h1 h63 hbytes (Nat.le_refl _)
    refine ⟨v', w', hr, ⟨ho.1, ?_⟩, hgr, fun g hg => ?_⟩
    · rcases ho.2 with h | ⟨g, cap, cur, h, _, r⟩
      · exact Or.inl h
      · exact Or.inr ⟨g, cap, cur, h, Nat.zero_le _, r⟩
    · rcases ho.2 with ⟨h, _⟩ | ⟨g', cap, cur, h, hb, r⟩
      · rw [h] at hg; cases hg
      · rw [h] at hg; cases hg; exact Or.inr hb
  · obtain ⟨v', w', hr, ho, hgr, _⟩ := run_append_own (P := P) w 0 t ty e i z size bytes ht hi hz hsize hby hzs hsz _ n xs hown a m c news hl hnews h1 h63 hbytes (Nat.zero_le _)
    refine ⟨v', w', hr, ho, hgr, fun g' hg' => ?_⟩
    by_cases hroom : n + m ≤ cap
    · have hfit : n * i.size + news.length ≤ cur.size := by rw [hl, hcs, hsize, ← Nat.add_mul]; exact Nat.mul_le_mul_right _ hroom
      have hr2 := run_append_room (P := P) w t ty e i ht hi g n cap cur hg a m c news (by rw [hsize]; exact hl) hnews h1 hroom hfit
      rw [hr] at hr2
      injection hr2 with e1 e2
      rw [e1] at hg'
      exact Or.inl hg'
    · have holds : ∀ j u, xs[j]? = some u → w.cell? ((⟨g, 0, none⟩ : Addr).add j) = some u := World.ownsRow.cells hown (g := g) rfl
      have hr2 := run_append_grow (P := P) w t ty e i z ht hi hz ⟨g, 0, none⟩ n cap xs (by rw [hsize]; exact hown.1) holds a m c news (by rw [hsize]; exact hl) hnews (by omega) (by omega) (by rw [hby]; exact growslice_fits (by omega) hbytes)
      rw [hr] at hr2
      injection hr2 with e1 e2
      rw [e1] at hg'
      cases hg'
      exact Or.inr (Nat.le_refl _)
theorem wpList_append_mine {P : Program} (w : World) {ops : Array Oper} {rest : List Oper} {o : Oper} {a : Act} {Q : Exit → Act → World → Prop} (hgd : o.guard = none) (s x : Operand) (t : TypeId)
    (ho : o.op = .call { callee := .builtin .append, args := #[s, x], argTypes := #[t, t] })
    (e : TypeId) (i : TypeInfo) (z : Value) (size bytes : Nat) (ht : P.underlying t = some (.slice e)) (hi : P.info? e = some i) (hz : i.zero = some z)
    (hsize : i.size = size) (hby : i.bytes = bytes) (hzs : z.cells.size = size) (hsz : 0 < size)
    (v : Value) (n : Nat) (xs : List Value) (hs : a.eval s = v) (hown : w.ownsRow 0 e size v n xs)
    (ad : Addr) (m c : Nat) (news : List Value) (hx : a.eval x = .slice (some ad) m c) (hl : news.length = m * size) (hnews : ∀ j u, news[j]? = some u → w.cell? (ad.add j) = some u) (h1 : ∀ u ∈ news, u.oneCell' = true)
    (h63 : n + m ≤ maxLen) (hbytes : (n + m) * bytes ≤ 140737488355328)
    (h : ∀ v' w', w'.ownsRow 0 e size v' (n + m) (xs ++ news) → w.grownBy w' v.ownBlock → (∀ g, v'.ownBlock = some g → v.ownBlock = some g ∨ w.heap.size ≤ g) → wpList P ops Q rest (a.put o.dst v') w') : wpList P ops Q (o :: rest) a w := by
  refine wpList_plain hgd fun K hK => ?_
  obtain ⟨v', w', hr, h2, h3, h4⟩ := run_append_mine (P := P) w t o.type e i z size bytes ht hi hz hsize hby hzs hsz v n xs hown ad m c news hl hnews h1 h63 hbytes
  unfold Oper.wp execOp
  simp only [ho, resolve, invoke, builtin, Sem.run_bind, Sem.run_pure, Result.andThen_ok, List.map_toArray, List.map_cons, List.map_nil, hs, hx, hr]
  exact hK _ _ (h v' w' h2 h3 h4)
end Go.Proofs.YtlmdkcpiimpniaaDoor
/- Slices whose elements are so many cells each. -/

namespace Go.Proofs.YtlmdkcpiimpniaaDoor
open Go.ChangeShapes Go.WideShapes Go.ChangeAt Go.RowKit
set_option linter.unusedVariables false
set_option linter.unusedSimpArgs false

section
variable {α : Type}
def flat (enc : α → List Value) (zs : List α) : List Value := zs.flatMap enc
/-- A slice of so many elements, each of sz cells. -/
structure IsSl (sz : Nat) (enc : α → List Value) (w : World) (a : Option Addr) (len cap : Nat) (zs : List α) : Prop where
  hlen : len = zs.length
  hle : len ≤ cap
  hmax : cap ≤ maxLen
  hnone : a = none → cap = 0
  at_ : zs ≠ [] → ∃ b off, a = some ⟨b, off, none⟩ ∧ b < w.heap.size ∧ ∀ i (hi : i < zs.length), ∀ j, j < sz → w.cell? ⟨b, off + i * sz + j, none⟩ = (enc zs[i])[j]?
variable {sz : Nat} {enc : α → List Value}
theorem IsSl.nil (w : World) : IsSl sz enc w none 0 0 [] := ⟨rfl, Nat.le_refl _, Nat.zero_le _, fun _ => rfl, fun h => absurd rfl h⟩
theorem IsSl.keep {S : Nat → Prop} {w w' : World} {a : Option Addr} {len cap : Nat} {zs : List α} (h : IsSl sz enc w a len cap zs) (ht : Touch S w w') (hs : zs ≠ [] → ∀ x, a = some x → ¬ S x.block) : IsSl sz enc w' a len cap zs := by
  obtain ⟨h1, h2, h3, h4, h5⟩ := h
  refine ⟨h1, h2, h3, h4, fun hne => ?_⟩
  obtain ⟨b, off, rfl, hb, hc⟩ := h5 hne
  refine ⟨b, off, rfl, Nat.lt_of_lt_of_le hb ht.size, fun i hi j hj => ?_⟩
  rw [← hc i hi j hj]
  unfold World.cell?
  rw [ht.block b hb (hs hne _ rfl)]
theorem IsSl.below {w w' : World} {a : Option Addr} {len cap : Nat} {zs : List α} (h : IsSl sz enc w a len cap zs) (hb : Below w.heap.size w w') : IsSl sz enc w' a len cap zs :=
  h.keep (Touch.of_below hb (fun _ => False)) (fun _ _ _ h => h)
theorem IsSl.take {w : World} {a : Option Addr} {len cap : Nat} {zs : List α} (h : IsSl sz enc w a len cap zs) {k : Nat} (hk : k ≤ len) : IsSl sz enc w a k cap (zs.take k) := by
  obtain ⟨h1, h2, h3, h4, h5⟩ := h
  refine ⟨by simp; omega, by omega, h3, h4, fun hne => ?_⟩
  obtain ⟨b, off, rfl, hb, hc⟩ := h5 (fun e => by rw [e] at hne; simp at hne)
  refine ⟨b, off, rfl, hb, fun i hi j hj => ?_⟩
  simp at hi
  rw [hc i (by omega) j hj]
  simp
theorem IsSl.drop {w : World} {b off len cap : Nat} {zs : List α} (h : IsSl sz enc w (some ⟨b, off, none⟩) len cap zs) {k : Nat} (hk : k ≤ len) :
    IsSl sz enc w (if cap = k then some ⟨b, off, none⟩ else some ⟨b, off + k * sz, none⟩) (len - k) (cap - k) (zs.drop k) := by
  obtain ⟨h1, h2, h3, h4, h5⟩ := h
  refine ⟨by simp; omega, by omega, by omega, fun h => (by split at h <;> cases h), fun hne => ?_⟩
  have hkl : k < zs.length := by
    rcases Nat.lt_or_ge k zs.length with h | h
    · exact h
    · rw [List.drop_of_length_le h] at hne; exact absurd rfl hne
  obtain ⟨b', off', e, hb, hc⟩ := h5 (fun e => by rw [e] at hkl; simp at hkl)
  cases e
  rw [if_neg (by omega)]
  refine ⟨b, off + k * sz, rfl, hb, fun i hi j hj => ?_⟩
  simp at hi
  have := hc (k + i) (by omega) j hj
  rw [show off + k * sz + i * sz + j = off + (k + i) * sz + j by rw [Nat.add_mul]; omega, this]
  simp
theorem flat_length (hE : ∀ x, (enc x).length = sz) (zs : List α) : (flat enc zs).length = zs.length * sz := by
  induction zs with
  | nil => simp [flat]
  | cons x r ih =>
    simp only [flat, List.flatMap_cons, List.length_append, List.length_cons] at ih ⊢
    rw [ih, hE]; rw [Nat.add_mul]; omega
theorem flat_at (hE : ∀ x, (enc x).length = sz) {zs : List α} {i j : Nat} (hi : i < zs.length) (hj : j < sz) : (flat enc zs)[i * sz + j]? = (enc zs[i])[j]? := by
  induction zs generalizing i with
  | nil => simp at hi
  | cons x r ih =>
    show (enc x ++ flat enc r)[i * sz + j]? = _
    cases i with
    | zero => rw [List.getElem?_append_left (by rw [hE]; omega)]; simp
    | succ i =>
      rw [List.getElem?_append_right (by rw [hE, Nat.add_mul]; omega), hE, show (i + 1) * sz + j - sz = i * sz + j by rw [Nat.add_mul]; omega]
      rw [ih (by simpa using hi)]; simp
/-- The cells of a slice, in a row. -/
theorem IsSl.news (hE : ∀ x, (enc x).length = sz) {w : World} {b off len cap : Nat} {zs : List α} (h : IsSl sz enc w (some ⟨b, off, none⟩) len cap zs) : ∀ j u, (flat enc zs)[j]? = some u → w.cell? ((⟨b, off, none⟩ : Addr).add j) = some u := by
  intro j u hj
  have hjl : j < zs.length * sz := by rw [← flat_length hE]; exact (List.getElem?_eq_some_iff.1 hj).1
  have hsz : 0 < sz := by rcases Nat.eq_zero_or_pos sz with e | e; · rw [e] at hjl; omega
                          · exact e
  obtain ⟨b', off', e, hb, hc⟩ := h.at_ (fun e => by rw [e] at hjl; simp at hjl)
  cases e
  have hi : j / sz < zs.length := by rw [Nat.div_lt_iff_lt_mul hsz]; exact hjl
  have hm : j % sz < sz := Nat.mod_lt _ hsz
  have e1 : j / sz * sz + j % sz = j := by rw [Nat.mul_comm]; exact Nat.div_add_mod j sz
  rw [addr_add]
  have h1 := hc (j / sz) hi (j % sz) hm
  rw [← flat_at hE hi hm, e1] at h1
  rw [show off + j / sz * sz + j % sz = off + j by omega] at h1
  rw [h1, hj]
/-- A row of the call's own is such a slice. -/
theorem own_shape {w : World} {e : TypeId} {n : Nat} {v : Value} {xs : List Value} (h : w.ownsRow 0 e sz v n xs) : ∃ a cap, v = .slice a n cap := by
  rcases h.2 with ⟨e, h0⟩ | ⟨g, cap, cur, e, _⟩
  · exact ⟨none, 0, by rw [e, h0]⟩
  · exact ⟨_, cap, e⟩
theorem IsSl.of_own (hE : ∀ x, (enc x).length = sz) {w : World} {e : TypeId} {a : Option Addr} {n cap : Nat} {zs : List α} (h : w.ownsRow 0 e sz (.slice a n cap) n (flat enc zs)) (hz : zs.length = n) : IsSl sz enc w a n cap zs := by
  rcases h.2 with ⟨e1, h0⟩ | ⟨g, cap', cur, e1, _, hg, hnc, hcm, hcs, htake⟩
  · cases e1
    have : zs = [] := List.eq_nil_of_length_eq_zero hz
    subst this
    exact IsSl.nil w
  · cases e1
    refine ⟨hz.symm, hnc, hcm, fun h => (by cases h), fun hne => ⟨g, 0, rfl, lt_of_block hg, fun i hi j hj => ?_⟩⟩
    rw [cell_of hg, ← flat_at hE hi hj]
    have hlt : i * sz + j < n * sz := by
      have : (i + 1) * sz ≤ n * sz := Nat.mul_le_mul_right _ (by omega)
      rw [Nat.add_mul] at this; omega
    have h1 : (cur.toList.take (n * sz))[i * sz + j]? = (flat enc zs)[i * sz + j]? := by rw [htake]
    rw [List.getElem?_take, if_pos hlt] at h1
    rw [← h1]; simp
end
/-- An append of a slice that may be nil. -/
theorem run_append_slice {P : Program} (w : World) (t ty e : TypeId) (i : TypeInfo) (z : Value) (size bytes : Nat) (ht : P.underlying t = some (.slice e)) (hi : P.info? e = some i) (hz : i.zero = some z)
    (hsize : i.size = size) (hby : i.bytes = bytes) (hzs : z.cells.size = size) (hsz : 0 < size)
    (v : Value) (n : Nat) (xs : List Value) (hown : w.ownsRow 0 e size v n xs)
    (ao : Option Addr) (m c : Nat) (news : List Value) (hl : news.length = m * size) (hnone : ao = none → m = 0 ∧ c = 0) (hnews : ∀ a, ao = some a → ∀ j u, news[j]? = some u → w.cell? (a.add j) = some u) (h1 : ∀ u ∈ news, u.oneCell' = true)
    (h63 : n + m ≤ maxLen) (hbytes : (n + m) * bytes ≤ 140737488355328) :
    ∃ v' w', (Builtin.append_ #[t, t] ty #[v, .slice ao m c]).run P w = .ok v' w' ∧ w'.ownsRow 0 e size v' (n + m) (xs ++ news) ∧ w.grownBy w' v.ownBlock ∧
      (∀ g, v'.ownBlock = some g → v.ownBlock = some g ∨ w.heap.size ≤ g) := by
  cases ao with
  | some a => exact run_append_mine w t ty e i z size bytes ht hi hz hsize hby hzs hsz v n xs hown a m c news hl (hnews a rfl) h1 h63 hbytes
  | none =>
    obtain ⟨rfl, rfl⟩ := hnone rfl
    have hx : news = [] := List.eq_nil_of_length_eq_zero (by simpa using hl)
    subst hx
    exact ⟨v, w, run_append_owned_none (P := P) w 0 t ty e i size ht hi v n xs hown, by simpa using hown, World.grownBy.refl _ _, fun g h => Or.inl h⟩
theorem wpList_append_slice {P : Program} (w : World) {ops : Array Oper} {rest : List Oper} {o : Oper} {a : Act} {Q : Exit → Act → World → Prop} (hgd : o.guard = none) (s x : Operand) (t : TypeId)
    (ho : o.op = .call { callee := .builtin .append, args := #[s, x], argTypes := #[t, t] })
    (e : TypeId) (i : TypeInfo) (z : Value) (size bytes : Nat) (ht : P.underlying t = some (.slice e)) (hi : P.info? e = some i) (hz : i.zero = some z)
    (hsize : i.size = size) (hby : i.bytes = bytes) (hzs : z.cells.size = size) (hsz : 0 < size)
    (v : Value) (n : Nat) (xs : List Value) (hs : a.eval s = v) (hown : w.ownsRow 0 e size v n xs)
    (ao : Option Addr) (m c : Nat) (news : List Value) (hx : a.eval x = .slice ao m c) (hl : news.length = m * size) (hnone : ao = none → m = 0 ∧ c = 0) (hnews : ∀ a, ao = some a → ∀ j u, news[j]? = some u → w.cell? (a.add j) = some u) (h1 : ∀ u ∈ news, u.oneCell' = true)
    (h63 : n + m ≤ maxLen) (hbytes : (n + m) * bytes ≤ 140737488355328)
    (h : ∀ v' w', w'.ownsRow 0 e size v' (n + m) (xs ++ news) → w.grownBy w' v.ownBlock → (∀ g, v'.ownBlock = some g → v.ownBlock = some g ∨ w.heap.size ≤ g) → wpList P ops Q rest (a.put o.dst v') w') : wpList P ops Q (o :: rest) a w := by
  refine wpList_plain hgd fun K hK => ?_
  obtain ⟨v', w', hr, h2, h3, h4⟩ := run_append_slice (P := P) w t o.type e i z size bytes ht hi hz hsize hby hzs hsz v n xs hown ao m c news hl hnone hnews h1 h63 hbytes
  unfold Oper.wp execOp
  simp only [ho, resolve, invoke, builtin, Sem.run_bind, Sem.run_pure, Result.andThen_ok, List.map_toArray, List.map_cons, List.map_nil, hs, hx, hr]
  exact hK _ _ (h v' w' h2 h3 h4)

/-- Numbers of a kind. -/
def encK (k : IntKind) (n : Int) : List Value := [.int k n]
theorem encK_len (k : IntKind) (n : Int) : (encK k n).length = 1 := rfl
theorem encK_one (k : IntKind) (n : Int) : ∀ u ∈ encK k n, u.oneCell' = true := fun u hu => by
  simp [encK] at hu; subst hu; rfl
theorem flat_one {α : Type} {enc : α → List Value} (h : ∀ x, ∀ u ∈ enc x, u.oneCell' = true) (zs : List α) : ∀ u ∈ flat enc zs, u.oneCell' = true := fun u hu => by
  obtain ⟨x, _, hx⟩ := List.mem_flatMap.1 hu
  exact h x u hx
theorem own_lt {w : World} {e : TypeId} {size : Nat} {v : Value} {n : Nat} {xs : List Value} {g : Nat} (h : w.ownsRow 0 e size v n xs) (hv : v.ownBlock = some g) : g < w.heap.size := by
  rcases h.2 with ⟨rfl, _⟩ | ⟨g', cap, cur, rfl, _, hh, _⟩
  · simp [Value.ownBlock] at hv
  · simp [Value.ownBlock] at hv
    rw [← hv]
    exact lt_of_block hh
theorem ownsRow_touch {w w' : World} {S : Nat → Prop} {e : TypeId} {size : Nat} {v : Value} {n : Nat} {xs : List Value} (h : w.ownsRow 0 e size v n xs) (ht : Touch S w w') (hs : ∀ k, v.ownBlock = some k → ¬ S k) : w'.ownsRow 0 e size v n xs := by
  obtain ⟨h1, h2⟩ := h
  refine ⟨h1, ?_⟩
  rcases h2 with h2 | ⟨g, cap, cur, rfl, hg, hh, r⟩
  · exact Or.inl h2
  · exact Or.inr ⟨g, cap, cur, rfl, hg, ht.keep hh (hs g rfl), r⟩
/-- A row of the call's own, whose block is one of the new ones. -/
structure OutR {α : Type} (sz : Nat) (enc : α → List Value) (e : TypeId) (w : World) (B : Nat) (v : Value) (zs : List α) : Prop where
  row : w.ownsRow 0 e sz v zs.length (flat enc zs)
  blk : ∀ g, v.ownBlock = some g → B ≤ g
theorem OutR.below {α : Type} {sz : Nat} {enc : α → List Value} {e : TypeId} {w w' : World} {B : Nat} {v : Value} {zs : List α} (h : OutR sz enc e w B v zs) (hb : Below w.heap.size w w') : OutR sz enc e w' B v zs :=
  ⟨ownsRow_touch h.row (Touch.of_below hb (fun _ => False)) (fun _ _ h => h), h.blk⟩
/-- After an append (of what lay in w, or in a block that was made ahead of it). -/
theorem OutR.grow {α : Type} {sz : Nat} {enc : α → List Value} {e : TypeId} {w w1 w2 : World} {B : Nat} {v v' : Value} {zs ys : List α} (h : OutR sz enc e w B v zs) (hb : Below w.heap.size w w1) (hB : B ≤ w.heap.size)
    (ho : w2.ownsRow 0 e sz v' (zs.length + ys.length) (flat enc zs ++ flat enc ys)) (hg : w1.grownBy w2 v.ownBlock) (hn : ∀ g, v'.ownBlock = some g → v.ownBlock = some g ∨ w1.heap.size ≤ g) :
    OutR sz enc e w2 B v' (zs ++ ys) ∧ Touch (fun k => v.ownBlock = some k) w w2 ∧ Below B w w2 ∧ ∀ g, v'.ownBlock = some g → v.ownBlock = some g ∨ w.heap.size ≤ g := by
  have hT : Touch (fun k => v.ownBlock = some k) w w2 := (Touch.of_below hb _).grown hg (fun k hk _ => hk)
  have hn' : ∀ g, v'.ownBlock = some g → v.ownBlock = some g ∨ w.heap.size ≤ g := fun g hg' => (hn g hg').imp id (fun h => Nat.le_trans hb.size h)
  refine ⟨⟨by simpa [flat] using ho, fun g hg' => (hn' g hg').elim (h.blk g) (fun h => by omega)⟩, hT, hT.below hB (fun k hk hv => by have := h.blk k hv; omega), hn'⟩
theorem IsSl.of_block {α : Type} {sz : Nat} {enc : α → List Value} (hE : ∀ x, (enc x).length = sz) {w : World} {g : Nat} {cs : Array Value} {t : TypeId} {f : Nat × Nat} {zs : List α} (h : w.heap[g]? = some (.cells cs t f)) (hc : cs.toList = flat enc zs) {n : Nat} (hn : n = zs.length) (hm : n ≤ maxLen) : IsSl sz enc w (some ⟨g, 0, none⟩) n n zs := by
  refine ⟨hn, Nat.le_refl _, hm, fun h => (by cases h), fun _ => ⟨g, 0, rfl, lt_of_block h, fun i hi j hj => ?_⟩⟩
  rw [cell_of h, ← flat_at hE hi hj, ← hc]
  simp
theorem out_of_make {α : Type} {sz : Nat} {enc : α → List Value} {e : TypeId} {w : World} {B : Nat} {v : Value} (h : w.ownsRow B e sz v 0 []) : OutR sz enc e w B v [] := by
  obtain ⟨h1, h2⟩ := h
  refine ⟨⟨by simp [flat], ?_⟩, fun g hg => ?_⟩
  · rcases h2 with h2 | ⟨g, cap, cur, rfl, hb, r⟩
    · exact Or.inl h2
    · exact Or.inr ⟨g, cap, cur, rfl, Nat.zero_le _, r⟩
  · rcases h2 with ⟨e, _⟩ | ⟨g', cap, cur, e, hb, r⟩
    · rw [e] at hg; cases hg
    · rw [e] at hg; cases hg; exact hb
theorem slNews {α : Type} {sz : Nat} {enc : α → List Value} (hE : ∀ x, (enc x).length = sz) {w : World} {a : Addr} {len cap : Nat} {zs : List α} (h : IsSl sz enc w (some a) len cap zs) : ∀ j u, (flat enc zs)[j]? = some u → w.cell? (a.add j) = some u := by
  by_cases hz : zs = []
  · subst hz; intro j u h; simp [flat] at h
  · obtain ⟨b, off, e, _⟩ := h.at_ hz
    cases e
    exact h.news hE
/-- Numbers, as a slice. -/
abbrev IsK (k : IntKind) (w : World) (a : Option Addr) (len cap : Nat) (zs : List Int) : Prop := IsSl 1 (encK k) w a len cap zs
theorem IsSl.cellK {k : IntKind} {w : World} {b off len cap : Nat} {zs : List Int} (h : IsK k w (some ⟨b, off, none⟩) len cap zs) {i : Nat} (hi : i < zs.length) : w.cell? ⟨b, off + i, none⟩ = some (.int k (zs.getD i 0)) := by
  obtain ⟨b', off', e, _, hc⟩ := h.at_ (fun e => by rw [e] at hi; simp at hi)
  cases e
  have := hc i hi 0 (by decide)
  rw [show off + i * 1 + 0 = off + i by omega] at this
  rw [this]; simp [encK, hi]
/-- A slice of integers that came in. -/
structure IsInts (k : IntKind) (w : World) (a : Option Addr) (len cap : Nat) (zs : List Int) : Prop where
  sl : IsK k w a len cap zs
  wf : ∀ n ∈ zs, (Lit.int k n).wf = true
theorem IsInts.nil (k : IntKind) (w : World) : IsInts k w none 0 0 [] := ⟨IsSl.nil w, fun _ h => by cases h⟩
theorem IsInts.mk' {k : IntKind} {w : World} {x : Addr} {len cap : Nat} {zs : List Int} (hl : len ≤ cap) (hm : cap ≤ maxLen) (hz : zs.length = cap) (hcell : ∀ i, i < zs.length → w.cell? (x.add i) = some (.int k (zs.getD i 0)))
    (hw : ∀ n ∈ zs, (Lit.int k n).wf = true) : IsInts k w (some x) len cap (zs.take len) := by
  refine ⟨⟨by simp; omega, hl, hm, fun h => (by cases h), fun hne => ?_⟩, fun n hn => hw n (List.mem_of_mem_take hn)⟩
  have h0 : 0 < zs.length := by
    rcases Nat.eq_zero_or_pos zs.length with h | h
    · simp [List.length_eq_zero_iff.1 h] at hne
    · exact h
  obtain ⟨b, off, spot⟩ := x
  have hc := hcell 0 h0
  have hspot : spot = none := by simpa [Addr.add] using World.cell?_spot hc
  subst hspot
  refine ⟨b, off, rfl, lt_of_cell (by simpa [Addr.add] using hc), fun i hi j hj => ?_⟩
  obtain rfl : j = 0 := by omega
  simp at hi
  have hci := hcell i (by omega)
  rw [addr_add] at hci
  rw [show off + i * 1 + 0 = off + i by omega, hci]
  simp [encK, show i < zs.length by omega]
/-- The cells of numbers. -/
def vs (k : IntKind) (zs : List Int) : List Value := zs.map (Value.int k)
theorem flat_K (k : IntKind) (zs : List Int) : flat (encK k) zs = vs k zs := by
  induction zs with
  | nil => rfl
  | cons x r ih => simp only [flat, List.flatMap_cons, vs, List.map_cons] at ih ⊢; rw [ih]; rfl
theorem vs_len (k : IntKind) (zs : List Int) : (vs k zs).length = zs.length := by simp [vs]
theorem vs_set (k : IntKind) (zs : List Int) (rest : List Value) (i : Nat) (x : Int) (hi : i < zs.length) : ((vs k zs ++ rest).toArray).setIfInBounds i (.int k x) = (vs k (zs.set i x) ++ rest).toArray := by
  rw [List.setIfInBounds_toArray, List.set_append_left _ _ (by rw [vs_len]; exact hi)]
  simp [vs, List.map_set]
theorem vs_cell (k : IntKind) (zs : List Int) (rest : List Value) (i : Nat) (hi : i < zs.length) : ((vs k zs ++ rest).toArray)[i]? = some (.int k (zs.getD i 0)) := by
  rw [List.getElem?_toArray, List.getElem?_append_left (by rw [vs_len]; exact hi)]
  simp [vs, hi]
theorem vs_made (k : IntKind) (n : Nat) : madeCells #[Value.int k 0] n = (vs k (List.replicate n 0)).toArray := by
  apply Array.ext
  · simp [madeCells, vs]
  · intro i h1 h2; simp [madeCells, vs, Nat.mod_one]
/-- A block whose first cells are these numbers. -/
def Blk (k : IntKind) (e : TypeId) (w : World) (g cap : Nat) (zs : List Int) : Prop := ∃ rest : List Value, zs.length + rest.length = cap ∧ cap ≤ maxLen ∧ w.heap[g]? = some (.cells (vs k zs ++ rest).toArray e (0, 0))
theorem Blk.sl {k : IntKind} {e : TypeId} {w : World} {g cap : Nat} {zs : List Int} (h : Blk k e w g cap zs) {n : Nat} (hn : n = zs.length) : IsK k w (some ⟨g, 0, none⟩) n cap zs := by
  obtain ⟨rest, h1, h2, h3⟩ := h
  refine ⟨hn, by omega, h2, fun h => (by cases h), fun _ => ⟨g, 0, rfl, lt_of_block h3, fun i hi j hj => ?_⟩⟩
  obtain rfl : j = 0 := by omega
  rw [cell_of h3, show 0 + i * 1 + 0 = i by omega, vs_cell k zs rest i hi]
  simp [encK, hi]
theorem Blk.cell {k : IntKind} {e : TypeId} {w : World} {g cap : Nat} {zs : List Int} (h : Blk k e w g cap zs) {i : Nat} (hi : i < zs.length) : w.cell? ⟨g, i, none⟩ = some (.int k (zs.getD i 0)) := by
  obtain ⟨rest, h1, h2, h3⟩ := h
  rw [cell_of h3, vs_cell k zs rest i hi]
theorem Blk.free {k : IntKind} {e : TypeId} {w : World} {g cap : Nat} {zs : List Int} (h : Blk k e w g cap zs) (i : Nat) : w.frozen? ⟨g, i, none⟩ = false := by
  obtain ⟨rest, h1, h2, h3⟩ := h
  exact free_of h3 i
theorem Blk.lt {k : IntKind} {e : TypeId} {w : World} {g cap : Nat} {zs : List Int} (h : Blk k e w g cap zs) : g < w.heap.size := by
  obtain ⟨rest, h1, h2, h3⟩ := h
  exact lt_of_block h3
theorem Blk.set {k : IntKind} {e : TypeId} {w : World} {g cap : Nat} {zs : List Int} (h : Blk k e w g cap zs) {i : Nat} (hi : i < zs.length) (x : Int) : Blk k e (w.setCell ⟨g, i, none⟩ (.int k x)) g cap (zs.set i x) := by
  obtain ⟨rest, h1, h2, h3⟩ := h
  refine ⟨rest, by simpa using h1, h2, ?_⟩
  rw [set_of h3, vs_set k zs rest i x hi]
theorem Blk.other {k : IntKind} {e : TypeId} {w : World} {g cap : Nat} {zs : List Int} (h : Blk k e w g cap zs) {p : Addr} (hp : g ≠ p.block) (v : Value) : Blk k e (w.setCell p v) g cap zs := by
  obtain ⟨rest, h1, h2, h3⟩ := h
  exact ⟨rest, h1, h2, block_set h3 hp v⟩
theorem Blk.drew {k : IntKind} {e : TypeId} {w : World} {g cap : Nat} {zs : List Int} (h : Blk k e w g cap zs) : Blk k e w.drew g cap zs := h
theorem Blk.alloc {k : IntKind} {e : TypeId} {w : World} {g cap : Nat} {zs : List Int} (h : Blk k e w g cap zs) (o : Obj) : Blk k e (w.alloc o) g cap zs := by
  obtain ⟨rest, h1, h2, h3⟩ := h
  exact ⟨rest, h1, h2, block_old h3 o⟩
theorem Blk.touch {k : IntKind} {e : TypeId} {S : Nat → Prop} {w w' : World} {g cap : Nat} {zs : List Int} (h : Blk k e w g cap zs) (ht : Touch S w w') (hs : ¬ S g) : Blk k e w' g cap zs := by
  obtain ⟨rest, h1, h2, h3⟩ := h
  exact ⟨rest, h1, h2, ht.keep h3 hs⟩
theorem Blk.below {k : IntKind} {e : TypeId} {w w' : World} {g cap : Nat} {zs : List Int} (h : Blk k e w g cap zs) (hb : Below w.heap.size w w') : Blk k e w' g cap zs :=
  h.touch (Touch.of_below hb (fun _ => False)) (fun h => h)
theorem Blk.new {k : IntKind} {e : TypeId} (w : World) (n : Nat) (hn : n ≤ maxLen) : Blk k e (w.alloc (.cells (madeCells #[Value.int k 0] n) e)) w.heap.size n (List.replicate n 0) :=
  ⟨[], by simp, hn, by rw [block_new, vs_made, List.append_nil]⟩
/-- What was appended, as a block. -/
theorem OutR.blk_of {k : IntKind} {e : TypeId} {w : World} {B : Nat} {v : Value} {zs : List Int} (h : OutR 1 (encK k) e w B v zs) (hne : zs ≠ []) : ∃ g cap, v = .slice (some ⟨g, 0, none⟩) zs.length cap ∧ B ≤ g ∧ Blk k e w g cap zs := by
  obtain ⟨⟨h1, h2⟩, h3⟩ := h
  rcases h2 with ⟨_, h0⟩ | ⟨g, cap, cur, hv, _, hg, hnc, hcm, hcs, htake⟩
  · exact absurd (List.eq_nil_of_length_eq_zero h0) hne
  · refine ⟨g, cap, hv, h3 g (by rw [hv]; rfl), cur.toList.drop zs.length, ?_, hcm, ?_⟩
    · simp; omega
    · rw [hg]
      have e1 : (vs k zs ++ cur.toList.drop zs.length).toArray = cur := by
        rw [← flat_K, ← htake, Nat.mul_one, List.take_append_drop]
      rw [e1]
theorem OutR.of_blk {k : IntKind} {e : TypeId} {w : World} {B g cap : Nat} {zs : List Int} (h : Blk k e w g cap zs) (hB : B ≤ g) : OutR 1 (encK k) e w B (.slice (some ⟨g, 0, none⟩) zs.length cap) zs := by
  obtain ⟨rest, h1, h2, h3⟩ := h
  refine ⟨⟨by rw [flat_K, vs_len, Nat.mul_one], Or.inr ⟨g, cap, _, rfl, Nat.zero_le _, h3, by omega, h2, by simp [vs_len]; omega, by rw [flat_K, Nat.mul_one]; simp [vs_len, List.take_append_of_le_length]⟩⟩, fun g' hg => ?_⟩
  cases hg; exact hB
theorem OutR.sl {k : IntKind} {e : TypeId} {w : World} {B : Nat} {v : Value} {zs : List Int} (h : OutR 1 (encK k) e w B v zs) : ∃ a cap, v = .slice a zs.length cap ∧ IsK k w a zs.length cap zs := by
  obtain ⟨a, cap, rfl⟩ := own_shape h.row
  exact ⟨a, cap, rfl, IsSl.of_own (encK_len k) h.row rfl⟩
end Go.Proofs.YtlmdkcpiimpniaaDoor
/- Parts of slices: s[l:], s[:h], s[l:h], with the new address under a name. -/
namespace Go.Proofs.YtlmdkcpiimpniaaDoor
open Go.ChangeShapes Go.WideShapes Go.ChangeAt Go.RowKit
set_option linter.unusedVariables false
set_option linter.unusedSimpArgs false

/-- The address of a part: that of the whole, moved on. -/
def part (a : Option Addr) (l m s : Nat) : Option Addr := if m = l then a else a.map (·.add (l * s))
theorem part_block {a : Option Addr} {l m s : Nat} {x : Addr} (h : part a l m s = some x) : ∃ y, a = some y ∧ x.block = y.block := by
  unfold part at h
  split at h
  · exact ⟨x, h, rfl⟩
  · cases a with
    | none => simp at h
    | some y =>
      simp at h
      subst h
      exact ⟨y, rfl, by simp [Addr.add]; split <;> rfl⟩
theorem IsSl.part {α : Type} {sz : Nat} {enc : α → List Value} {w : World} {a : Option Addr} {len cap : Nat} {zs : List α} (h : IsSl sz enc w a len cap zs) {l r m : Nat} (hlr : l ≤ r) (hr : r ≤ len) (hrm : r ≤ m) (hmc : m ≤ cap) :
    IsSl sz enc w (part a l m sz) (r - l) (m - l) ((zs.take r).drop l) := by
  obtain ⟨h1, h2, h3, h4, h5⟩ := h
  refine ⟨by simp; omega, by omega, by omega, fun e => ?_, fun hne => ?_⟩
  · unfold Go.Proofs.YtlmdkcpiimpniaaDoor.part at e
    split at e
    · omega
    · cases a with
      | none => have := h4 rfl; omega
      | some x => simp at e
  · have hl : l < r := by
      rcases Nat.lt_or_ge l r with h | h
      · exact h
      · exfalso; apply hne; apply List.drop_of_length_le; simp; omega
    have hz : zs ≠ [] := fun e => by rw [e] at h1; simp at h1; omega
    obtain ⟨b, off, rfl, hb, hc⟩ := h5 hz
    refine ⟨b, off + l * sz, ?_, hb, fun i hi j hj => ?_⟩
    · unfold Go.Proofs.YtlmdkcpiimpniaaDoor.part
      rw [if_neg (by omega)]
      simp [addr_add]
    · simp at hi
      have := hc (l + i) (by omega) j hj
      rw [show off + l * sz + i * sz + j = off + (l + i) * sz + j by rw [Nat.add_mul]; omega, this]
      simp
theorem IsSl.tail {α : Type} {sz : Nat} {enc : α → List Value} {w : World} {a : Option Addr} {len cap : Nat} {zs : List α} (h : IsSl sz enc w a len cap zs) {l : Nat} (hl : l ≤ len) : IsSl sz enc w (Go.Proofs.YtlmdkcpiimpniaaDoor.part a l cap sz) (len - l) (cap - l) (zs.drop l) := by
  have := h.part (l := l) (r := len) (m := cap) hl (Nat.le_refl _) h.hle (Nat.le_refl _)
  rwa [h.hlen, List.take_length, ← h.hlen] at this
section
variable {P : Program} {t e : TypeId} {sz : Nat} (ht : P.underlying t = some (.slice e)) (hs : ∀ w, (sizeOf e).run P w = .ok sz w)
include ht hs
theorem run_from {a : Option Addr} {len cap : Nat} {l : Int} {k : Nat} (hl : l = k) (hk : k ≤ len) (w : World) : (Instr.slice t (.slice a len cap) (some (.int .i64 l)) none none).run P w = .ok (.slice (part a k cap sz) (len - k) (cap - k)) w := by
  have he : P.elem t = e := by simp [Program.elem, ht]
  rw [run_slice_l w t a len cap (by rw [he]; exact ht) .i64 l (by omega) (by omega), he, hs, hl]
  simp [Result.andThen, sliced, part]
theorem run_to {a : Option Addr} {len cap : Nat} {h : Int} {k : Nat} (hh : h = k) (hk : k ≤ cap) (w : World) : (Instr.slice t (.slice a len cap) none (some (.int .i64 h)) none).run P w = .ok (.slice (part a 0 cap sz) k cap) w := by
  have he : P.elem t = e := by simp [Program.elem, ht]
  rw [run_slice_h w t a len cap (by rw [he]; exact ht) .i64 h (by omega) (by omega), he, hs, hh]
  simp [Result.andThen, sliced, part]
theorem run_lh {a : Option Addr} {len cap : Nat} {l h : Int} {k m : Nat} (hl : l = k) (hh : h = m) (hkm : k ≤ m) (hm : m ≤ cap) (w : World) : (Instr.slice t (.slice a len cap) (some (.int .i64 l)) (some (.int .i64 h)) none).run P w = .ok (.slice (part a k cap sz) (m - k) (cap - k)) w := by
  have he : P.elem t = e := by simp [Program.elem, ht]
  rw [run_slice_lh w t a len cap (by rw [he]; exact ht) .i64 .i64 l h (by omega) (by omega) (by omega), he, hs, hl, hh]
  simp [Result.andThen, sliced, part]
end
end Go.Proofs.YtlmdkcpiimpniaaDoor

/- Appends and copies; numbers as lists. -/
import Derived.Test.YtlmdkcpiimpniaaDoorS
import Derived.Test.YtlmdkcpiimpniaaDoorProg
import Derived.Test.YtlmdkcpiimpniaaDoorRows
import Derived.WalkKit
import Derived.Deep.OwnRows
import Derived.Laws.EntriesVeiled
import Derived.Deep.QuietTactic
import Derived.BigQuiet
import Derived.IntWalk
import Derived.Shelf.Abstract
import Derived.WalkLawsBesides
import Derived.Outline
import Derived.Laws.CopyOwn
namespace Go.Proofs.YtlmdkcpiimpniaaDoor
open Go.ChangeShapes Go.WideShapes Go.ChangeAt Go.RowKit
set_option linter.unusedVariables false
set_option linter.unusedSimpArgs false

/-- An append of one number to a row of the call's own. -/
theorem wpList_app {P : Program} {wr : World} {ops : Array Oper} {rest : List Oper} {o : Oper} {a : Act} {Q : Exit → Act → World → Prop} (hgd : o.guard = none) (s x : Operand) (t : TypeId)
    (ho : o.op = .call { callee := .builtin .append, args := #[s, x], argTypes := #[t, t] })
    (e : TypeId) (i : TypeInfo) (k : IntKind) (bytes : Nat) (ht : P.underlying t = some (.slice e)) (hi : P.info? e = some i) (hz : i.zero = some (.int k 0))
    (hsize : i.size = 1) (hby : i.bytes = bytes) (hb8 : bytes ≤ 8)
    {B : Nat} {v : Value} {zs : List Int} (hs : a.eval s = v) (hO : OutR 1 (encK k) e wr B v zs) (hB : B ≤ wr.heap.size) (y : Int)
    (hx : a.eval x = .slice (some ⟨wr.heap.size, 0, none⟩) 1 1) (hlen : zs.length + 1 ≤ 1099511627776)
    (h : ∀ v' w', OutR 1 (encK k) e w' B v' (zs ++ [y]) → Touch (fun b => v.ownBlock = some b) wr w' → Below B wr w' → (∀ g, v'.ownBlock = some g → v.ownBlock = some g ∨ wr.heap.size ≤ g) → wpList P ops Q rest (a.put o.dst v') w') :
    wpList P ops Q (o :: rest) a (wr.alloc (.cells #[.int k y] e)) := by
  refine wpList_append_slice _ hgd s x t ho e i (.int k 0) 1 bytes ht hi hz hsize hby rfl (by decide) v zs.length (flat (encK k) zs) hs (hO.row.alloc _) (some ⟨wr.heap.size, 0, none⟩) 1 1 (encK k y) hx rfl (fun h => by cases h) ?_ (encK_one k y) ?_ ?_ ?_
  · intro a ha; cases ha
    intro j u hj
    rw [addr_add, cell_of (block_new _ _), Nat.zero_add]
    simpa [encK] using hj
  · unfold maxLen; omega
  · have := Nat.mul_le_mul (Nat.le_refl (zs.length + 1)) hb8; omega
  · intro v1 w1 hr1 hg1 hn1
    obtain ⟨h1, h2, h3, h4⟩ := hO.grow (ys := [y]) (Below.alloc (Below.refl _ _) (Nat.le_refl _) _) hB (by simpa [flat] using hr1) hg1 hn1
    exact h v1 w1 h1 h2 h3 h4

theorem wpList_app' {P : Program} {wr : World} {ops : Array Oper} {rest : List Oper} {o : Oper} {a : Act} {Q : Exit → Act → World → Prop} (hgd : o.guard = none) (s x : Operand) (t : TypeId)
    (ho : o.op = .call { callee := .builtin .append, args := #[s, x], argTypes := #[t, t] })
    (e : TypeId) (i : TypeInfo) (k : IntKind) (bytes : Nat) (ht : P.underlying t = some (.slice e)) (hi : P.info? e = some i) (hz : i.zero = some (.int k 0))
    (hsize : i.size = 1) (hby : i.bytes = bytes) (hb8 : bytes ≤ 8)
    {B : Nat} {v : Value} {zs : List Int} (hs : a.eval s = v) (hO : OutR 1 (encK k) e wr B v zs) (hB : B ≤ wr.heap.size) (y : Int) {H : Nat} (hH : wr.heap.size = H)
    (hx : a.eval x = .slice (some ⟨H, 0, none⟩) 1 1) (hlen : zs.length + 1 ≤ 1099511627776)
    (h : ∀ v' w', OutR 1 (encK k) e w' B v' (zs ++ [y]) → Touch (fun b => v.ownBlock = some b) wr w' → Below B wr w' → (∀ g, v'.ownBlock = some g → v.ownBlock = some g ∨ wr.heap.size ≤ g) → wpList P ops Q rest (a.put o.dst v') w') :
    wpList P ops Q (o :: rest) a (wr.alloc (.cells #[.int k y] e)) := by
  subst hH
  exact wpList_app hgd s x t ho e i k bytes ht hi hz hsize hby hb8 hs hO hB y hx hlen h
/-- An append of a slice of numbers. -/
theorem wpList_appS {P : Program} {w : World} {ops : Array Oper} {rest : List Oper} {o : Oper} {a : Act} {Q : Exit → Act → World → Prop} (hgd : o.guard = none) (s x : Operand) (t : TypeId)
    (ho : o.op = .call { callee := .builtin .append, args := #[s, x], argTypes := #[t, t] })
    (e : TypeId) (i : TypeInfo) (k : IntKind) (bytes : Nat) (ht : P.underlying t = some (.slice e)) (hi : P.info? e = some i) (hz : i.zero = some (.int k 0))
    (hsize : i.size = 1) (hby : i.bytes = bytes) (hb8 : bytes ≤ 8)
    {B : Nat} {v : Value} {zs ds : List Int} {sp : Option Addr} {m c : Nat} (hs : a.eval s = v) (hO : OutR 1 (encK k) e w B v zs) (hB : B ≤ w.heap.size) (hS : IsK k w sp m c ds)
    (hx : a.eval x = .slice sp m c) (hlen : zs.length + m ≤ 1099511627776)
    (h : ∀ v' w', OutR 1 (encK k) e w' B v' (zs ++ ds) → Touch (fun b => v.ownBlock = some b) w w' → Below B w w' → (∀ g, v'.ownBlock = some g → v.ownBlock = some g ∨ w.heap.size ≤ g) → wpList P ops Q rest (a.put o.dst v') w') :
    wpList P ops Q (o :: rest) a w := by
  have hal := hS.hlen
  refine wpList_append_slice _ hgd s x t ho e i (.int k 0) 1 bytes ht hi hz hsize hby rfl (by decide) v zs.length (flat (encK k) zs) hs hO.row sp m c (flat (encK k) ds) hx ?_ ?_ ?_ (flat_one (encK_one k) _) ?_ ?_ ?_
  · rw [flat_length (encK_len k), hal]
  · intro hn; exact ⟨by have := hS.hle; have := hS.hnone hn; omega, hS.hnone hn⟩
  · intro a ha
    subst ha
    exact slNews (encK_len k) hS
  · unfold maxLen; omega
  · have := Nat.mul_le_mul (Nat.le_refl (zs.length + m)) hb8; omega
  · intro v1 w1 hr1 hg1 hn1
    rw [hal] at hr1
    obtain ⟨h1, h2, h3, h4⟩ := hO.grow (ys := ds) (Below.refl _ _) hB hr1 hg1 hn1
    exact h v1 w1 h1 h2 h3 h4
/-- A copy into a row of the call's own. -/
theorem wpList_copyB {P : Program} {w : World} {ops : Array Oper} {rest : List Oper} {o : Oper} {a : Act} {Q : Exit → Act → World → Prop} (hgd : o.guard = none) (d s : Operand) (t : TypeId)
    (ho : o.op = .call { callee := .builtin .copy, args := #[d, s], argTypes := #[t, t] }) (e : TypeId) (hu : P.underlying t = some (.slice e)) (hsz : (P.info? e).map (·.size) = some 1)
    {k : IntKind} {g n cap : Nat} {zs ds : List Int} {sp : Option Addr} {la ca : Nat} (hd : a.eval d = .slice (some ⟨g, 0, none⟩) n cap) (hs : a.eval s = .slice sp la ca)
    (hB : Blk k e w g cap zs) (hn : n = zs.length) (hS : IsK k w sp la ca ds) (B : Nat) (w0 : World) (hb : Below B w0 w) (hBg : B ≤ g)
    (h : ∀ w' c, Blk k e w' g cap (ds.take n ++ zs.drop ds.length) → Below B w0 w' → wpList P ops Q rest (a.put o.dst (goInt c)) w') :
    wpList P ops Q (o :: rest) a w := by
  obtain ⟨r, h1, h2, h3⟩ := hB
  have hal := hS.hlen
  obtain ⟨M, hM, hM1, hM2, hM3⟩ : ∃ M, Nat.min la n = M ∧ M ≤ la ∧ M ≤ n ∧ (M = la ∨ M = n) := by
    refine ⟨Nat.min la n, rfl, Nat.min_le_left _ _, Nat.min_le_right _ _, ?_⟩
    rcases Nat.le_total la n with hle | hle
    · exact Or.inl (Nat.min_eq_left hle)
    · exact Or.inr (Nat.min_eq_right hle)
  have hcl : (vs k (ds.take n)).length = M := by rw [vs_len, List.length_take, ← hal]; omega
  refine wpList_copy_splice hgd d s t t ho e hu hsz (some ⟨g, 0, none⟩) sp n cap la ca hd hs g 0 (vs k zs ++ r) e h3 (vs k (ds.take n)) (by rw [hM, hcl]) (fun hpos => ⟨rfl, ?_⟩) (by rw [hcl]; simp [vs_len]; omega) ?_ B w0 hb hBg ?_
  · rw [hcl] at hpos
    obtain ⟨b, off, rfl, _, _⟩ := hS.at_ (fun e => by rw [e] at hal; simp at hal; omega)
    refine ⟨_, rfl, fun j v hj => ?_⟩
    have hj' := (List.getElem?_eq_some_iff.1 hj).1
    rw [hcl] at hj'
    have hc := hS.cellK (i := j) (by omega)
    rw [addr_add, hc, ← hj]
    have e1 : (ds.take n)[j]? = some (ds.getD j 0) := by
      rw [List.getElem?_take, if_pos (by omega)]; simp [show j < ds.length by omega]
    simp only [vs, List.getElem?_map, e1, Option.map_some]
  · intro u hu'
    simp only [vs, List.mem_map] at hu'
    obtain ⟨x, _, rfl⟩ := hu'
    rfl
  · intro w' hw' hb'
    refine h w' _ ⟨r, ?_, h2, ?_⟩ hb'
    · simp; omega
    · rw [hw'.out]
      congr 2
      simp only [Go.splice, List.take_zero, List.nil_append, Nat.zero_add]
      rw [hcl]
      have e2 : (vs k zs ++ r).drop M = vs k (zs.drop ds.length) ++ r := by
        rw [List.drop_append_of_le_length (by rw [vs_len]; omega)]
        rcases hM3 with e | e
        · rw [e, hal]; simp [vs]
        · rw [List.drop_of_length_le (by rw [vs_len]; omega), List.drop_of_length_le (l := zs) (by omega)]
          simp [vs]
      rw [e2]
      simp [vs]
def ns (p : List Nat) : List Int := p.map (fun n : Nat => (n : Int))
theorem ns_len (p : List Nat) : (ns p).length = p.length := by simp [ns]
theorem ns_get (p : List Nat) (i : Nat) : (ns p).getD i 0 = ((p.getD i 0 : Nat) : Int) := by
  rcases Nat.lt_or_ge i p.length with h | h
  · simp [ns, h]
  · simp [ns, h]
theorem ns_set (p : List Nat) (i x : Nat) : (ns p).set i (x : Int) = ns (p.set i x) := by simp [ns, List.map_set]
theorem ns_app (p : List Nat) (x : Nat) : ns p ++ [(x : Int)] = ns (p ++ [x]) := by simp [ns]
theorem ns_take (p : List Nat) (k : Nat) : ns (p.take k) = (ns p).take k := by simp [ns, List.map_take]
theorem ns_rep (n : Nat) : List.replicate n (0 : Int) = ns (List.replicate n 0) := by simp [ns]
end Go.Proofs.YtlmdkcpiimpniaaDoor

/- Numbers from 0 on, of both; lists that are equal. -/
import Derived.Test.YtejleobpohpdpaaDoorC
import Derived.Test.YtejleobpohpdpaaDoorProg
import Derived.WalkKit
import Derived.Deep.OwnRows
import Derived.Laws.EntriesVeiled
import Derived.Deep.QuietTactic
import Derived.BigQuiet
import Derived.IntWalk
import Derived.Shelf.Abstract
import Derived.WalkLawsBesides
import Derived.Outline
namespace Go.Proofs.YtejleobpohpdpaaDoor
open Go.ChangeShapes Go.WideShapes Go.ChangeAt Go.RowKit

/-- An append of one number to a row of the call's own. -/
theorem wpList_app {P : Program} {wr : World} {ops : Array Oper} {rest : List Oper} {o : Oper} {a : Act} {Q : Exit → Act → World → Prop} (hgd : o.guard = none) (s x : Operand) (t : TypeId)
    (ho : o.op = .call { callee := .builtin .append, args := #[s, x], argTypes := #[t, t] })
    (e : TypeId) (i : TypeInfo) (k : IntKind) (bytes : Nat) (ht : P.underlying t = some (.slice e)) (hi : P.info? e = some i) (hz : i.zero = some (.int k 0))
    (hsize : i.size = 1) (hby : i.bytes = bytes) (hb8 : bytes ≤ 8)
    {B : Nat} {v : Value} {zs : List Int} (hs : a.eval s = v) (hO : OutR 1 (encK k) e wr B v zs) (hB : B ≤ wr.heap.size) (y : Int)
    (hx : a.eval x = .slice (some ⟨wr.heap.size, 0, none⟩) 1 1) (hlen : zs.length + 1 ≤ 1099511627776)
    (h : ∀ v' w', OutR 1 (encK k) e w' B v' (zs ++ [y]) → Touch (fun b => v.ownBlock = some b) wr w' → Below B wr w' → (∀ g, v'.ownBlock = some g → v.ownBlock = some g ∨ wr.heap.size ≤ g) → wpList P ops Q rest (a.put o.dst v') w') :
    wpList P ops Q (o :: rest) a (wr.alloc (.cells #[.int k y] e)) := by
  refine wpList_append_slice _ hgd s x t ho e i (.int k 0) 1 bytes ht hi hz hsize hby rfl (by decide) v zs.length (flat (encK k) zs) hs (hO.row.alloc _) (some ⟨wr.heap.size, 0, none⟩) 1 1 (encK k y) hx rfl (fun h => by cases h) ?_ (encK_one k y) ?_ ?_ ?_
  · intro a ha; cases ha
    intro j u hj
    rw [addr_add, cell_of (block_new _ _), Nat.zero_add]
    simpa [encK] using hj
  · unfold maxLen; omega
  · have := Nat.mul_le_mul (Nat.le_refl (zs.length + 1)) hb8; omega
  · intro v1 w1 hr1 hg1 hn1
    obtain ⟨h1, h2, h3, h4⟩ := hO.grow (ys := [y]) (Below.alloc (Below.refl _ _) (Nat.le_refl _) _) hB (by simpa [flat] using hr1) hg1 hn1
    exact h v1 w1 h1 h2 h3 h4

theorem info3 : (Tryd.prog.info? 3).map (fun i => (i.zero, i.size, i.bytes)) = some (some (.int .i64 0), 1, 8) := by kernel_rfl
theorem info4 : (Tryd.prog.info? 4).map (fun i => (i.zero, i.size, i.bytes)) = some (some (.bool false), 1, 1) := by kernel_rfl
theorem info30 : (Tryd.prog.info? 30).map (fun i => (i.zero, i.size, i.bytes)) = some (some (.int .u64 0), 1, 8) := by kernel_rfl
/-- Naturals as numbers. -/
def ns (p : List Nat) : List Int := p.map (fun n : Nat => (n : Int))
theorem ns_len (p : List Nat) : (ns p).length = p.length := by simp [ns]
theorem ns_get (p : List Nat) (i : Nat) : (ns p).getD i 0 = ((p.getD i 0 : Nat) : Int) := by
  rcases Nat.lt_or_ge i p.length with h | h
  · simp [ns, h]
  · simp [ns, h]
theorem ns_set (p : List Nat) (i x : Nat) : (ns p).set i (x : Int) = ns (p.set i x) := by simp [ns, List.map_set]
theorem ns_app (p : List Nat) (x : Nat) : ns p ++ [(x : Int)] = ns (p ++ [x]) := by simp [ns]
theorem ns_take (p : List Nat) (k : Nat) : ns (p.take k) = (ns p).take k := by simp [ns, List.map_take]
theorem ns_rep (n : Nat) : List.replicate n (0 : Int) = ns (List.replicate n 0) := by simp [ns]
theorem make_i (n : Nat) (hn : n ≤ 1099511627776) : ∀ w, (Instr.makeSlice 24 (.int .i64 (n : Int)) (.int .i64 (n : Int))).run Tryd.prog w = .ok (.slice (some ⟨w.heap.size, 0, none⟩) n n) (w.alloc (.cells (madeCells #[Value.int .i64 0] n) 3)) :=
  run_make_row' (P := Tryd.prog) 24 3 (.int .i64 0) 8 Tryd.underlying24 info3 rfl .i64 .i64 n (by omega) (by omega)
/-- A list of which the first k elements are laid. -/
def upto (ys : List Int) (k : Nat) : List Int := ys.take k ++ List.replicate (ys.length - k) 0
theorem upto_0 (ys : List Int) : upto ys 0 = List.replicate ys.length 0 := by simp [upto]
theorem upto_all (ys : List Int) : upto ys ys.length = ys := by simp [upto]
theorem upto_len {ys : List Int} {k : Nat} (h : k ≤ ys.length) : (upto ys k).length = ys.length := by simp [upto]; omega
theorem upto_set {ys : List Int} {k : Nat} (h : k < ys.length) : (upto ys k).set k (ys.getD k 0) = upto ys (k + 1) := by
  have hl : (ys.take k).length = k := by simp; omega
  have e : ys.length - k = (ys.length - (k + 1)) + 1 := by omega
  unfold upto
  rw [e, List.replicate_succ, List.set_append_right _ _ (by omega), hl, Nat.sub_self, List.set_cons_zero, List.take_succ_eq_append_getElem h, List.append_assoc]
  simp [h]
theorem upto_get {ys : List Int} {k : Nat} (h : k < ys.length) : (upto ys k).getD k 0 = 0 := by
  unfold upto
  rw [List.getD_eq_getElem?_getD, List.getElem?_append_right (by simp; omega)]
  simp [Nat.min_eq_left (Nat.le_of_lt h), List.getElem?_replicate]
  split <;> rfl
def EachRel (w : World) (ys : List Int) (vi : Value) (wr : World) : Prop :=
  ∃ k : Nat, k ≤ ys.length ∧ vi = .int .i64 k ∧ Blk .i64 3 wr w.heap.size ys.length (upto ys k) ∧ Below w.heap.size w wr
set_option maxRecDepth 100000 in
set_option maxHeartbeats 2000000 in
/-- each: the function of each index and element, as a new list. -/
theorem each_any {F : FuncId} (caps : Array Value) (hent : ∀ (args : Array Value) (w : World), (callFunc F args).run Tryd.prog w = .ok (.enter F args) w) {w : World} {aa : Option Addr} {la ca : Nat} {zs ys : List Int} (h : IsK .i64 w aa la ca zs)
    (hy : ys.length = la) (hn : la ≤ 1099511627776)
    (HL : ∀ W, Below w.heap.size w W → ∀ i, i < la → Calls Tryd.prog F (#[.int .i64 (i : Nat), .int .i64 (zs.getD i 0)] ++ caps) W fun e w' => e = .returned (.int .i64 (ys.getD i 0)) ∧ Below W.heap.size W w') :
    Calls Tryd.prog 38 #[.slice aa la ca, .func (.func F) #[] caps] w fun e w' => e = .returned (.slice (some ⟨w.heap.size, 0, none⟩) la la) ∧ Blk .i64 3 w' w.heap.size la ys ∧ Below w.heap.size w w' := by
  have hal := h.hlen; have hac := h.hle; have ham := h.hmax
  unfold maxLen at ham
  have H := Lib.hid h
  have HAL := Lib.hid hal
  have HLL := Lib.hid HL
  have HY := Lib.hid hy
  obtain ⟨CI, hCI⟩ : ∃ C, C = madeCells #[Value.int .i64 0] la := ⟨_, rfl⟩
  have m1 := make_i la hn
  rw [← hCI] at m1
  have HCI := Lib.hid hCI
  clear h hal HL hCI hy
  go_enter Tryd.func38, Tryd.ntmps38
  go_wp2_with fail
  go_loopw [6, 7, 13] (fun _ _ vi wr => EachRel w ys vi wr) (fun _ _ vi _ => la - (intOf vi).toNat)
  case atStart =>
    refine ⟨0, Nat.zero_le _, rfl, ?_, Below.alloc (Below.refl _ _) (Nat.le_refl _) _⟩
    rw [upto_0, HY.out, HCI.out]
    exact Blk.new _ _ (by unfold maxLen; omega)
  case round =>
    clear m1
    obtain ⟨k, hk, rfl, hg, hbl⟩ := hrel
    have HG := Lib.hid hg; have BL := Lib.hid hbl
    clear hg hbl
    by_cases hlt : k < la
    · have hkz : k < zs.length := by have := HAL.out; omega
      have hky : k < ys.length := by have := HY.out; omega
      obtain ⟨b, off, rfl, _, _⟩ := H.out.at_ (by intro h; rw [h] at hkz; simp at hkz)
      have x0 := (H.out.below BL.out).cellK hkz
      have CL := Lib.hid (HLL.out wr BL.out k hlt)
      generalize zs.getD k 0 = x at *
      generalize hyk : ys.getD k 0 = y at *
      have HYK := Lib.hid hyk
      clear hyk
      go_wp2_with fail
      refine (CL.out).mono ?_; rintro e w3 ⟨rfl, hb⟩
      have HG3 := Lib.hid (HG.out.below hb); have BL3 := Lib.hid (BL.out.trans (hb.mono BL.out.size))
      clear hb x0
      have cg := HG3.out.cell (i := k) (by rw [upto_len (by omega)]; exact hky)
      rw [upto_get hky] at cg
      have fg := HG3.out.free k
      have HG4 := Lib.hid (HG3.out.set (i := k) (by rw [upto_len (by omega)]; exact hky) y)
      have BL4 := Lib.hid (BL3.out.setCell (p := ⟨w.heap.size, k, none⟩) (Nat.le_refl _) (.int .i64 y))
      go_wp2_with fail
      go_roundw
      case rel => exact ⟨k + 1, by omega, by go_num, by have := HG4.out; rw [← HYK.out, upto_set hky] at this; rw [← HYK.out]; exact this, BL4.out⟩
      case measure => simp [intOf]; omega
    · obtain rfl : k = la := by have := HY.out; omega
      go_wp2_with fail
      go_ret
      refine ⟨rfl, ?_, BL.out⟩
      have := HG.out
      rw [← HY.out, upto_all] at this
      rw [← HY.out]; exact this
theorem ident1_any (i x : Int) (w : World) : Calls Tryd.prog 41 (#[.int .i64 i, .int .i64 x] ++ #[]) w fun e w' => e = .returned (.int .i64 i) ∧ Below w.heap.size w w' := by
  go_enter Tryd.func41, Tryd.ntmps41
  go_wp2_with fail
  go_ret
  exact ⟨rfl, Below.refl _ _⟩
theorem ent41 : ∀ (args : Array Value) (w : World), (callFunc 41 args).run Tryd.prog w = .ok (.enter 41 args) w := enters_of Tryd.func41 (by kernel_rfl) rfl
/-- identity of the program. -/
theorem pident (n : Nat) (hn : n ≤ 16384) (w : World) : Calls Tryd.prog 34 #[.int .i64 (n : Int)] w fun e w' => ∃ g, w.heap.size ≤ g ∧ e = .returned (.slice (some ⟨g, 0, none⟩) n n) ∧ Blk .i64 3 w' g n (ns (List.range n)) ∧ Below w.heap.size w w' := by
  have HE := Lib.hid (fun (w : World) (aa : Option Addr) (zs : List Int) (h : IsK .i64 w aa n n zs) => each_any #[] ent41 (ys := ns (List.range n)) h (by simp [ns]) (by omega) (fun W _ i hi => by
    have e : (ns (List.range n)).getD i 0 = (i : Nat) := by rw [ns_get, range_get hi]
    rw [e]; exact ident1_any _ _ _))
  obtain ⟨CI, hCI⟩ : ∃ C, C = madeCells #[Value.int .i64 0] n := ⟨_, rfl⟩
  have m1 := make_i n (by omega)
  rw [← hCI] at m1
  have HCI := Lib.hid hCI
  clear hCI
  go_enter Tryd.func34, Tryd.ntmps34
  go_wp2_with fail
  have HS : Hid (IsK .i64 (w.alloc (.cells CI 3)) (some ⟨w.heap.size, 0, none⟩) n n (List.replicate n 0)) := Lib.hid (by rw [HCI.out]; exact (Blk.new (k := .i64) (e := 3) w n (by unfold maxLen; omega)).sl (by simp))
  refine (HE.out _ _ _ HS.out).mono ?_; rintro e w1 ⟨rfl, hg, hb⟩
  have HG := Lib.hid hg
  have BL := Lib.hid ((Below.alloc (Below.refl w.heap.size w) (Nat.le_refl _) (.cells CI 3)).trans (hb.mono (by simp)))
  clear hg hb
  go_wp2_with fail
  go_ret
  exact ⟨w.heap.size + 1, by omega, rfl, by simpa using HG.out, BL.out⟩
end Go.Proofs.YtejleobpohpdpaaDoor

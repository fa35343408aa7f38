/- find; fields of a configuration; Check, Field, Clamp of the program. -/
import Derived.Test.YtabihdhgonnihaaDoorJ
namespace Go.Proofs.YtabihdhgonnihaaDoor
open Go.ChangeShapes Go.WideShapes Go.ChangeAt Go.RowKit
set_option linter.unusedVariables false
set_option linter.unusedSimpArgs false

set_option maxRecDepth 100000 in
theorem idx0 : ∀ w, (Instr.index 65 (.agg #[.string ⟨#[119, 105, 110, 100, 111, 119]⟩, .int .i64 1, .int .i64 9223372036854775807, .string ⟨#[101, 100, 103, 101, 115]⟩, .int .i64 1, .int .i64 16384, .string ⟨#[118, 101, 114, 116, 115]⟩, .int .i64 2, .int .i64 4096, .string ⟨#[100, 114, 97, 119, 115]⟩, .int .i64 0, .int .i64 16384]) (.int .i64 0)).run Tryd.prog w = .ok (.agg #[.string ⟨#[119, 105, 110, 100, 111, 119]⟩, .int .i64 1, .int .i64 9223372036854775807]) w := fun _ => by kernel_rfl
set_option maxRecDepth 100000 in
theorem idx1 : ∀ w, (Instr.index 65 (.agg #[.string ⟨#[119, 105, 110, 100, 111, 119]⟩, .int .i64 1, .int .i64 9223372036854775807, .string ⟨#[101, 100, 103, 101, 115]⟩, .int .i64 1, .int .i64 16384, .string ⟨#[118, 101, 114, 116, 115]⟩, .int .i64 2, .int .i64 4096, .string ⟨#[100, 114, 97, 119, 115]⟩, .int .i64 0, .int .i64 16384]) (.int .i64 1)).run Tryd.prog w = .ok (.agg #[.string ⟨#[101, 100, 103, 101, 115]⟩, .int .i64 1, .int .i64 16384]) w := fun _ => by kernel_rfl
set_option maxRecDepth 100000 in
theorem idx2 : ∀ w, (Instr.index 65 (.agg #[.string ⟨#[119, 105, 110, 100, 111, 119]⟩, .int .i64 1, .int .i64 9223372036854775807, .string ⟨#[101, 100, 103, 101, 115]⟩, .int .i64 1, .int .i64 16384, .string ⟨#[118, 101, 114, 116, 115]⟩, .int .i64 2, .int .i64 4096, .string ⟨#[100, 114, 97, 119, 115]⟩, .int .i64 0, .int .i64 16384]) (.int .i64 2)).run Tryd.prog w = .ok (.agg #[.string ⟨#[118, 101, 114, 116, 115]⟩, .int .i64 2, .int .i64 4096]) w := fun _ => by kernel_rfl
set_option maxRecDepth 100000 in
theorem idx3 : ∀ w, (Instr.index 65 (.agg #[.string ⟨#[119, 105, 110, 100, 111, 119]⟩, .int .i64 1, .int .i64 9223372036854775807, .string ⟨#[101, 100, 103, 101, 115]⟩, .int .i64 1, .int .i64 16384, .string ⟨#[118, 101, 114, 116, 115]⟩, .int .i64 2, .int .i64 4096, .string ⟨#[100, 114, 97, 119, 115]⟩, .int .i64 0, .int .i64 16384]) (.int .i64 3)).run Tryd.prog w = .ok (.agg #[.string ⟨#[100, 114, 97, 119, 115]⟩, .int .i64 0, .int .i64 16384]) w := fun _ => by kernel_rfl
def FindR (o : Option Nat) (e : Ending) : Prop := match o with
  | none => e = PN
  | some i => e = .returned (.int .i64 (i : Nat))
def FindRel (w : World) (n : Str) (vi : Value) (wr : World) : Prop := ∃ i : Nat, i ≤ 4 ∧ vi = .int .i64 (i : Int) ∧ (∀ j, j < i → nm j ≠ n) ∧ Below w.heap.size w wr
set_option maxRecDepth 100000 in
set_option maxHeartbeats 4000000 in
theorem pfind {w : World} (h : Env w) (n : Str) :
    Calls Tryd.prog 60 #[.string ⟨n.toArray⟩] w fun e w' => FindR (find n) e ∧ Below w.heap.size w w' := by
  obtain ⟨t, f, hr⟩ := h.rows
  have hc := fun o => cell_of hr o
  have c0 : w.cell? ⟨0, 0, none⟩ = some (.string ⟨#[119, 105, 110, 100, 111, 119]⟩) := hc 0
  have c1 : w.cell? ⟨0, 1, none⟩ = some (.int .i64 1) := hc 1
  have c2 : w.cell? ⟨0, 2, none⟩ = some (.int .i64 9223372036854775807) := hc 2
  have c3 : w.cell? ⟨0, 3, none⟩ = some (.string ⟨#[101, 100, 103, 101, 115]⟩) := hc 3
  have c4 : w.cell? ⟨0, 4, none⟩ = some (.int .i64 1) := hc 4
  have c5 : w.cell? ⟨0, 5, none⟩ = some (.int .i64 16384) := hc 5
  have c6 : w.cell? ⟨0, 6, none⟩ = some (.string ⟨#[118, 101, 114, 116, 115]⟩) := hc 6
  have c7 : w.cell? ⟨0, 7, none⟩ = some (.int .i64 2) := hc 7
  have c8 : w.cell? ⟨0, 8, none⟩ = some (.int .i64 4096) := hc 8
  have c9 : w.cell? ⟨0, 9, none⟩ = some (.string ⟨#[100, 114, 97, 119, 115]⟩) := hc 9
  have c10 : w.cell? ⟨0, 10, none⟩ = some (.int .i64 0) := hc 10
  have c11 : w.cell? ⟨0, 11, none⟩ = some (.int .i64 16384) := hc 11
  clear hc hr h
  go_enter Tryd.func60, Tryd.ntmps60
  go_wp2_with fail
  go_loopw [6] (fun v6 wr => FindRel w n v6 wr) (fun v6 _ => 4 - (intOf v6).toNat)
  case atStart => exact ⟨0, by omega, rfl, fun j hj => absurd hj (by omega), Below.refl _ _⟩
  case round =>
    obtain ⟨i, hi, rfl, hno, hb⟩ := hrel
    have B := Lib.hid hb
    have NO := Lib.hid hno
    clear hb hno c0 c1 c2 c3 c4 c5 c6 c7 c8 c9 c10 c11
    have h5 : i = 0 ∨ i = 1 ∨ i = 2 ∨ i = 3 ∨ i = 4 := by omega
    rcases h5 with rfl | rfl | rfl | rfl | rfl
    · have hix := idx0
      by_cases hq : nm 0 = n
      · subst hq
        go_wp2_with fail
        go_ret
        exact ⟨rfl, B.out.alloc B.out.size _⟩
      · have hb : (([119, 105, 110, 100, 111, 119] : Str) == n) = false := beq_str hq
        have HQ := Lib.hid hq
        clear hq
        go_wp2_with fail
        go_roundw
        case rel => exact ⟨0 + 1, by omega, by go_num, fun j hj => by
          rcases Nat.lt_or_ge j 0 with h | h
          · exact NO.out j h
          · rw [show j = 0 by omega]; exact HQ.out, B.out.alloc B.out.size _⟩
        case measure => simp [intOf]
    · have hix := idx1
      by_cases hq : nm 1 = n
      · subst hq
        go_wp2_with fail
        go_ret
        exact ⟨rfl, B.out.alloc B.out.size _⟩
      · have hb : (([101, 100, 103, 101, 115] : Str) == n) = false := beq_str hq
        have HQ := Lib.hid hq
        clear hq
        go_wp2_with fail
        go_roundw
        case rel => exact ⟨1 + 1, by omega, by go_num, fun j hj => by
          rcases Nat.lt_or_ge j 1 with h | h
          · exact NO.out j h
          · rw [show j = 1 by omega]; exact HQ.out, B.out.alloc B.out.size _⟩
        case measure => simp [intOf]
    · have hix := idx2
      by_cases hq : nm 2 = n
      · subst hq
        go_wp2_with fail
        go_ret
        exact ⟨rfl, B.out.alloc B.out.size _⟩
      · have hb : (([118, 101, 114, 116, 115] : Str) == n) = false := beq_str hq
        have HQ := Lib.hid hq
        clear hq
        go_wp2_with fail
        go_roundw
        case rel => exact ⟨2 + 1, by omega, by go_num, fun j hj => by
          rcases Nat.lt_or_ge j 2 with h | h
          · exact NO.out j h
          · rw [show j = 2 by omega]; exact HQ.out, B.out.alloc B.out.size _⟩
        case measure => simp [intOf]
    · have hix := idx3
      by_cases hq : nm 3 = n
      · subst hq
        go_wp2_with fail
        go_ret
        exact ⟨rfl, B.out.alloc B.out.size _⟩
      · have hb : (([100, 114, 97, 119, 115] : Str) == n) = false := beq_str hq
        have HQ := Lib.hid hq
        clear hq
        go_wp2_with fail
        go_roundw
        case rel => exact ⟨3 + 1, by omega, by go_num, fun j hj => by
          rcases Nat.lt_or_ge j 3 with h | h
          · exact NO.out j h
          · rw [show j = 3 by omega]; exact HQ.out, B.out.alloc B.out.size _⟩
        case measure => simp [intOf]
    · have hn : find n = none := by
        unfold find
        rw [if_neg (NO.out 0 (by omega)), if_neg (NO.out 1 (by omega)), if_neg (NO.out 2 (by omega)), if_neg (NO.out 3 (by omega))]
      have HN := Lib.hid hn
      clear hn
      go_wp2_with fail
      exact ⟨rfl, by rw [HN.out]; rfl, B.out⟩
end Go.Proofs.YtabihdhgonnihaaDoor

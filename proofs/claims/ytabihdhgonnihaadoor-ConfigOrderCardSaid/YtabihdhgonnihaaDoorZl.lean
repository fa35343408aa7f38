/- drawn: a valid configuration of any numbers. -/
import Derived.Test.YtabihdhgonnihaaDoorZe
namespace Go.Proofs.YtabihdhgonnihaaDoor
open Go.ChangeShapes Go.WideShapes Go.ChangeAt Go.RowKit
set_option linter.unusedVariables false
set_option linter.unusedSimpArgs false

def drawnC (a b c d : Nat) : Cf := ⟨1 + ((a % 9223372036854775807 : Nat) : Int), 1 + ((b % 16384 : Nat) : Int), 2 + ((c % 4095 : Nat) : Int), ((d % 16385 : Nat) : Int)⟩
theorem drawn_wrong (a b c d : Nat) : wrong (drawnC a b c d) < 0 := by
  rw [wrong_iff]
  unfold drawnC
  simp only
  omega
theorem drawn_ok (a b c d : Nat) : (drawnC a b c d).ok := by
  constructor <;> (unfold drawnC; simp only; omega)
set_option maxRecDepth 100000 in
set_option maxHeartbeats 4000000 in
theorem pdrawn (a b c d : Nat) (ha : a < 18446744073709551616) (hb : b < 65536) (hc : c < 65536) (hd : d < 65536) (w : World) : Calls Tryd.prog 13 #[.int .u64 (a : Int), .int .u16 (b : Int), .int .u16 (c : Int), .int .u16 (d : Int)] w fun e w' => e = .returned (.agg #[.int .i64 (drawnC a b c d).a, .int .i64 (drawnC a b c d).b, .int .i64 (drawnC a b c d).c, .int .i64 (drawnC a b c d).d]) ∧ Below w.heap.size w w' := by
  go_enter Tryd.func13, Tryd.ntmps13
  go_wp2_with fail
  have hy := block_new w (.cells #[.int .i64 (1 + (a : Int) % 9223372036854775807), .int .i64 (1 + (b : Int) % 16384), .int .i64 (2 + (c : Int) % 4095), .int .i64 ((d : Int) % 16385)] 25)
  have B : Below w.heap.size w (w.alloc (.cells #[.int .i64 (1 + (a : Int) % 9223372036854775807), .int .i64 (1 + (b : Int) % 16384), .int .i64 (2 + (c : Int) % 4095), .int .i64 ((d : Int) % 16385)] 25)) := Below.alloc (Below.refl _ _) (Nat.le_refl _) _
  generalize w.alloc (.cells #[.int .i64 (1 + (a : Int) % 9223372036854775807), .int .i64 (1 + (b : Int) % 16384), .int .i64 (2 + (c : Int) % 4095), .int .i64 ((d : Int) % 16385)] 25) = W at *
  have y0 : W.cell? ⟨w.heap.size, 0, none⟩ = some (.int .i64 (1 + (a : Int) % 9223372036854775807)) := cell_of hy 0
  have y1 : W.cell? ⟨w.heap.size, 1, none⟩ = some (.int .i64 (1 + (b : Int) % 16384)) := cell_of hy 1
  have y2 : W.cell? ⟨w.heap.size, 2, none⟩ = some (.int .i64 (2 + (c : Int) % 4095)) := cell_of hy 2
  have y3 : W.cell? ⟨w.heap.size, 3, none⟩ = some (.int .i64 ((d : Int) % 16385)) := cell_of hy 3
  exact bodyPost_ret (v := .agg #[.int .i64 (1 + (a : Int) % 9223372036854775807), .int .i64 (1 + (b : Int) % 16384), .int .i64 (2 + (c : Int) % 4095), .int .i64 ((d : Int) % 16385)]) (by simp [results, Tryd.results13, go_sem, y0, y1, y2, y3]) rfl ⟨by simp [drawnC], B⟩
end Go.Proofs.YtabihdhgonnihaaDoor

/- ConfigReads: the walk. -/
import Derived.Test.YtabihdhgonnihaaDoorU
import Derived.Test.YtabihdhgonnihaaDoorZa
namespace Go.Proofs.YtabihdhgonnihaaDoor
open Go.ChangeShapes Go.WideShapes Go.ChangeAt Go.RowKit
set_option linter.unusedVariables false
set_option linter.unusedSimpArgs false

theorem str_cases (s : ByteArray) : ∃ l : Str, s = ⟨l.toArray⟩ := ⟨s.data.toList, by cases s; rfl⟩
set_option maxRecDepth 100000 in
set_option maxHeartbeats 4000000 in
theorem reads_law (s0 : ByteArray) (w : World) (h : Env w) : Calls Tryd.prog 4 #[.string s0] w fun e w' => e = .returned (.bool true) ∧ Below w.heap.size w w' := by
  obtain ⟨s, rfl⟩ := str_cases s0
  by_cases hl : 2000 < s.length
  · have W := Lib.hid (works_any h)
    have e1 : decide ((2000 : Int) < (s.length : Int)) = true := by simp; omega
    have e2 : decide (2000 < s.length) = true := by simpa using hl
    clear h hl
    go_enter Tryd.func4, Tryd.ntmps4
    go_wp2_with fail
    refine (W.out).mono ?_; rintro e w1 ⟨rfl, hb⟩
    have B := Lib.hid hb
    clear hb
    go_wp2_with fail
    go_ret
    exact ⟨rfl, B.out⟩
  · have e1 : decide ((2000 : Int) < (s.length : Int)) = false := by simp; omega
    have e2 : decide (2000 < s.length) = false := by simpa using hl
    have P1 := Lib.hid (pparse h (s := s) (by omega))
    have P2 := Lib.hid (fun w' => rparse s (by omega) w')
    have HE := Lib.hid h
    generalize parse s = R at *
    obtain ⟨f, er⟩ := R
    unfold ParR at P1 P2
    dsimp only at P1 P2
    clear h hl
    go_enter Tryd.func4, Tryd.ntmps4
    go_wp2_with fail
    refine (P1.out).mono ?_; rintro e w1 ⟨rfl, hb1⟩
    have X1 := Lib.hid (block_new w1 (.cells #[.int .i64 f.a, .int .i64 f.b, .int .i64 f.c, .int .i64 f.d] 25))
    have B1 := Lib.hid (hb1.alloc hb1.size (.cells #[.int .i64 f.a, .int .i64 f.b, .int .i64 f.c, .int .i64 f.d] 25))
    have P3 := Lib.hid (P2.out (w1.alloc (.cells #[.int .i64 f.a, .int .i64 f.b, .int .i64 f.c, .int .i64 f.d] 25)))
    clear hb1 P1 P2
    go_wp2_with fail
    refine (P3.out).mono ?_; rintro e w2 ⟨rfl, hb2⟩
    have B2 := Lib.hid (B1.out.trans (hb2.mono B1.out.size))
    have B3 := Lib.hid (B2.out.alloc B2.out.size (.cells #[.int .i64 f.a, .int .i64 f.b, .int .i64 f.c, .int .i64 f.d] 25))
    have X2 := Lib.hid (block_old ((hb2.block _ (lt_of_block X1.out)).trans X1.out) (.cells #[.int .i64 f.a, .int .i64 f.b, .int .i64 f.c, .int .i64 f.d] 25))
    have Y2 := Lib.hid (block_new w2 (.cells #[.int .i64 f.a, .int .i64 f.b, .int .i64 f.c, .int .i64 f.d] 25))
    have W := Lib.hid (works_any (HE.out.below B3.out))
    obtain ⟨W3, hW3⟩ : ∃ W, W = w2.alloc (.cells #[.int .i64 f.a, .int .i64 f.b, .int .i64 f.c, .int .i64 f.d] 25) := ⟨_, rfl⟩
    have HW3 := Lib.hid hW3
    rw [← hW3] at W X2 Y2 B3
    have hx := (hb2.block _ (lt_of_block X1.out)).trans X1.out
    have x0 : w2.cell? ⟨w1.heap.size, 0, none⟩ = some (.int .i64 f.a) := cell_of hx 0
    have x1 : w2.cell? ⟨w1.heap.size, 1, none⟩ = some (.int .i64 f.b) := cell_of hx 1
    have x2 : w2.cell? ⟨w1.heap.size, 2, none⟩ = some (.int .i64 f.c) := cell_of hx 2
    have x3 : w2.cell? ⟨w1.heap.size, 3, none⟩ = some (.int .i64 f.d) := cell_of hx 3
    have hlx := lt_of_block hx
    clear hb2 P3 hW3 hx
    go_wp2_with fail
    rw [← HW3.out]
    refine (W.out).mono ?_; rintro e w4 ⟨rfl, hb4⟩
    have B4 := Lib.hid (B3.out.trans (hb4.mono B3.out.size))
    clear hb4 W
    go_wp2_with fail
    go_ret
    exact ⟨rfl, B4.out⟩
end Go.Proofs.YtabihdhgonnihaaDoor

/- The examples of the chapter hold. -/
import Derived.Test.YtabihdhgonnihaaDoorQ
import Derived.Test.YtabihdhgonnihaaDoorT
import Derived.StillTailTactics
import Derived.BigQuiet
import Derived.Deep.RegionHeld3
namespace Go.Proofs.YtabihdhgonnihaaDoor
open Go.ChangeShapes Go.WideShapes Go.ChangeAt Go.RowKit
set_option linter.unusedVariables false
set_option linter.unusedSimpArgs false

theorem itoa_nat (u : Nat) : Lib.itoa (u : Int) = Lib.decDigits u := Lib.itoa_nonneg u
theorem itoa_60 : Lib.itoa 60 = [54, 48] := by
  have h := itoa_nat 60
  rw [dec_big (by decide), dec_one (by decide)] at h
  exact h
theorem itoa_1024 : Lib.itoa 1024 = [49, 48, 50, 52] := by
  have h := itoa_nat 1024
  rw [dec_big (by decide), dec_big (by decide), dec_big (by decide), dec_one (by decide)] at h
  exact h
def exampleT : Str := [119, 105, 110, 100, 111, 119, 61, 54, 48, 32, 101, 100, 103, 101, 115, 61, 49, 48, 50, 52, 32, 118, 101, 114, 116, 115, 61, 49, 48, 50, 52, 32, 100, 114, 97, 119, 115, 61, 49, 48, 50, 52]
theorem text_dflt : txt dflt 4 = exampleT := by
  unfold txt txt txt txt txt
  simp only [Cf.at, dflt, itoa_60, itoa_1024, nm]
  rfl
theorem ex1 : parse [100, 114, 97, 119, 115, 61, 48, 32, 119, 105, 110, 100, 111, 119, 61, 53] = (⟨5, 1024, 1024, 0⟩, 0) := by decide +kernel
theorem ex2 : parse [] = (⟨60, 1024, 1024, 1024⟩, 0) := by decide +kernel
theorem ex3 : parse [119, 105, 110, 100, 111, 119, 61, 48, 53] = (⟨0, 0, 0, 0⟩, 15) := by decide +kernel
theorem ex4 : parse [118, 101, 114, 116, 115, 61, 49] = (⟨0, 0, 0, 0⟩, 2) := by decide +kernel
theorem keep8 {W W' : World} {b1 b2 : Nat} {v0 v1 v2 v3 u0 u1 u2 u3 : Option Value} (hb : Below W.drew.heap.size W.drew W') (h1 : b1 < W.heap.size) (h2 : b2 < W.heap.size)
    (h : W.cell? ⟨b1, 0, none⟩ = v0 ∧ W.cell? ⟨b1, 1, none⟩ = v1 ∧ W.cell? ⟨b1, 2, none⟩ = v2 ∧ W.cell? ⟨b1, 3, none⟩ = v3 ∧ W.cell? ⟨b2, 0, none⟩ = u0 ∧ W.cell? ⟨b2, 1, none⟩ = u1 ∧ W.cell? ⟨b2, 2, none⟩ = u2 ∧ W.cell? ⟨b2, 3, none⟩ = u3) :
    W'.cell? ⟨b1, 0, none⟩ = v0 ∧ W'.cell? ⟨b1, 1, none⟩ = v1 ∧ W'.cell? ⟨b1, 2, none⟩ = v2 ∧ W'.cell? ⟨b1, 3, none⟩ = v3 ∧ W'.cell? ⟨b2, 0, none⟩ = u0 ∧ W'.cell? ⟨b2, 1, none⟩ = u1 ∧ W'.cell? ⟨b2, 2, none⟩ = u2 ∧ W'.cell? ⟨b2, 3, none⟩ = u3 := by
  have k1 := fun o => (bcell (W := W.drew) hb).1 b1 o h1
  have k2 := fun o => (bcell (W := W.drew) hb).1 b2 o h2
  rw [k1 0, k1 1, k1 2, k1 3, k2 0, k2 1, k2 2, k2 3]
  exact h
set_option maxRecDepth 100000 in
set_option maxHeartbeats 4000000 in
theorem works_any {w : World} (h : Env w) : Calls Tryd.prog 21 #[] w fun e w' => e = .returned (.bool true) ∧ Below w.heap.size w w' := by
  have P0 := Lib.hid (pdefault w)
  have HE := Lib.hid h
  have PT := Lib.hid (fun w' (hb : Below w.heap.size w w') => ptext_ok (h.below hb) dflt dflt_ok (by decide))
  have P1 := Lib.hid (fun w' (hb : Below w.heap.size w w') => pparse (h.below hb) (s := [100, 114, 97, 119, 115, 61, 48, 32, 119, 105, 110, 100, 111, 119, 61, 53]) (by decide))
  have P2 := Lib.hid (fun w' (hb : Below w.heap.size w w') => pparse (h.below hb) (s := []) (by decide))
  have P3 := Lib.hid (fun w' (hb : Below w.heap.size w w') => pparse (h.below hb) (s := [119, 105, 110, 100, 111, 119, 61, 48, 53]) (by decide))
  have P4 := Lib.hid (fun w' (hb : Below w.heap.size w w') => pparse (h.below hb) (s := [118, 101, 114, 116, 115, 61, 49]) (by decide))
  rw [text_dflt] at PT
  unfold exampleT at PT
  simp only [dflt] at PT
  rw [ex1] at P1
  rw [ex2] at P2
  rw [ex3] at P3
  rw [ex4] at P4
  unfold ParR at P1 P2 P3 P4
  dsimp only at P1 P2 P3 P4
  clear h
  go_enter Tryd.func21, Tryd.ntmps21
  go_wp2_with fail
  refine (P0.out).mono ?_; rintro e w1 ⟨rfl, hb1⟩
  have B1 := Lib.hid hb1
  have QT := Lib.hid (PT.out w1 hb1)
  clear hb1 P0 PT
  go_wp2_with fail
  refine (QT.out).mono ?_; rintro e w2 ⟨rfl, hb2⟩
  have B2 := Lib.hid (B1.out.trans (hb2.mono B1.out.size))
  have Q1 := Lib.hid (P1.out w2 B2.out)
  clear hb2 QT P1
  go_wp2_with fail
  refine (Q1.out).mono ?_; rintro e w3 ⟨rfl, hb3⟩
  have B3 := Lib.hid ((B2.out.trans (hb3.mono B2.out.size)).alloc (Nat.le_trans B2.out.size hb3.size) (.cells #[.int .i64 5, .int .i64 1024, .int .i64 1024, .int .i64 0] 25))
  have X3 := Lib.hid (block_new w3 (.cells #[.int .i64 5, .int .i64 1024, .int .i64 1024, .int .i64 0] 25))
  have Q2 := Lib.hid (P2.out _ B3.out)
  clear hb3 Q1 P2
  go_wp2_with fail
  refine (Q2.out).mono ?_; rintro e w4 ⟨rfl, hb4⟩
  have hb4' := hb4.alloc hb4.size (.cells #[.int .i64 60, .int .i64 1024, .int .i64 1024, .int .i64 1024] 25)
  have B4 := Lib.hid (B3.out.trans (hb4'.mono B3.out.size))
  have X4 := Lib.hid (block_new w4 (.cells #[.int .i64 60, .int .i64 1024, .int .i64 1024, .int .i64 1024] 25))
  have X3b := Lib.hid ((hb4'.block _ (lt_of_block X3.out)).trans X3.out)
  have Q3 := Lib.hid (P3.out _ B4.out)
  clear hb4 hb4' Q2 P3
  go_wp2_with fail
  refine (Q3.out).mono ?_; rintro e w5 ⟨rfl, hb5⟩
  have hb5' := hb5.alloc hb5.size (.cells #[.int .i64 0, .int .i64 0, .int .i64 0, .int .i64 0] 25)
  have B5 := Lib.hid (B4.out.trans (hb5'.mono B4.out.size))
  have X4b := Lib.hid ((hb5'.block _ (lt_of_block X4.out)).trans X4.out)
  have X3c := Lib.hid ((hb5'.block _ (lt_of_block (block_old X3b.out (.cells #[] 0)) |> fun _ => by have := lt_of_block X3b.out; omega)).trans X3b.out)
  have Q4 := Lib.hid (P4.out _ B5.out)
  clear hb5 hb5' Q3 P4
  go_wp2_with fail
  refine (Q4.out).mono ?_; rintro e w6 ⟨rfl, hb6⟩
  have hb6' := hb6.alloc hb6.size (.cells #[.int .i64 0, .int .i64 0, .int .i64 0, .int .i64 0] 25)
  have B6 := Lib.hid (B5.out.trans (hb6'.mono B5.out.size))
  have X4c := Lib.hid ((hb6'.block _ (by have := lt_of_block X4b.out; omega)).trans X4b.out)
  have X3d := Lib.hid ((hb6'.block _ (by have := lt_of_block X3c.out; omega)).trans X3c.out)
  clear hb6 hb6' Q4
  go_wp2_with fail
  have hx := X3d.out
  have hy := X4c.out
  have BW := B6.out
  clear B1 B2 B3 B4 B5 B6 X3 X3b X3c X3d X4 X4b X4c HE
  generalize w6.alloc (.cells #[.int .i64 0, .int .i64 0, .int .i64 0, .int .i64 0] 25) = W at *
  have BB := Lib.hid BW
  have x0 : W.cell? ⟨w3.heap.size, 0, none⟩ = some (.int .i64 5) := cell_of hx 0
  have x1 : W.cell? ⟨w3.heap.size, 1, none⟩ = some (.int .i64 1024) := cell_of hx 1
  have x2 : W.cell? ⟨w3.heap.size, 2, none⟩ = some (.int .i64 1024) := cell_of hx 2
  have x3 : W.cell? ⟨w3.heap.size, 3, none⟩ = some (.int .i64 0) := cell_of hx 3
  have y0 : W.cell? ⟨w4.heap.size, 0, none⟩ = some (.int .i64 60) := cell_of hy 0
  have y1 : W.cell? ⟨w4.heap.size, 1, none⟩ = some (.int .i64 1024) := cell_of hy 1
  have y2 : W.cell? ⟨w4.heap.size, 2, none⟩ = some (.int .i64 1024) := cell_of hy 2
  have y3 : W.cell? ⟨w4.heap.size, 3, none⟩ = some (.int .i64 1024) := cell_of hy 3
  have lx := lt_of_block hx
  have ly := lt_of_block hy
  have PD := Lib.hid (pdefault W.drew)
  have KX := Lib.hid hx
  have KY := Lib.hid hy
  clear hx hy BW
  go_region_held3 (fun w' => w'.cell? ⟨w3.heap.size, 0, none⟩ = some (.int .i64 5) ∧ w'.cell? ⟨w3.heap.size, 1, none⟩ = some (.int .i64 1024) ∧ w'.cell? ⟨w3.heap.size, 2, none⟩ = some (.int .i64 1024) ∧ w'.cell? ⟨w3.heap.size, 3, none⟩ = some (.int .i64 0) ∧
      w'.cell? ⟨w4.heap.size, 0, none⟩ = some (.int .i64 60) ∧ w'.cell? ⟨w4.heap.size, 1, none⟩ = some (.int .i64 1024) ∧ w'.cell? ⟨w4.heap.size, 2, none⟩ = some (.int .i64 1024) ∧ w'.cell? ⟨w4.heap.size, 3, none⟩ = some (.int .i64 1024))
    (first | go_keep | exact keep8 hb7 lx ly ⟨x0, x1, x2, x3, y0, y1, y2, y3⟩)
    (first | (go_at_call 14; refine (PD.out).mono ?_; rintro e w7 ⟨rfl, hb7⟩))
  have B7 := Lib.hid ((Below.drew BB.out).trans (hb7.mono BB.out.size))
  go_wp2_with fail
  go_ret
  exact ⟨rfl, B7.out⟩
end Go.Proofs.YtabihdhgonnihaaDoor

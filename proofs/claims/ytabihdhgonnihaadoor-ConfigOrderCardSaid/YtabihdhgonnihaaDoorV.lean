/- The document's rows, fields, Made, Default, Field, Check. -/
import Derived.Test.YtabihdhgonnihaaDoorO
import Derived.BigQuiet
namespace Go.Proofs.YtabihdhgonnihaaDoor
open Go.ChangeShapes Go.WideShapes Go.ChangeAt Go.RowKit
set_option linter.unusedVariables false
set_option linter.unusedSimpArgs false

set_option maxRecDepth 100000 in
set_option maxHeartbeats 4000000 in
theorem rrows (w : World) : Calls Tryd.prog 55 #[] w fun e w' => e = .returned (.slice (some ⟨w.heap.size, 0, none⟩) 4 4) ∧ w' = w.alloc (.cells #[.string ⟨#[119, 105, 110, 100, 111, 119]⟩, .int .i64 1, .int .i64 9223372036854775807, .string ⟨#[101, 100, 103, 101, 115]⟩, .int .i64 1, .int .i64 16384, .string ⟨#[118, 101, 114, 116, 115]⟩, .int .i64 2, .int .i64 4096, .string ⟨#[100, 114, 97, 119, 115]⟩, .int .i64 0, .int .i64 16384] 91) := by
  go_enter Tryd.func55, Tryd.ntmps55
  go_wp2_with fail
  go_ret
  exact ⟨rfl, rfl⟩
set_option maxRecDepth 100000 in
set_option maxHeartbeats 4000000 in
theorem rfields (f : Cf) (w : World) : Calls Tryd.prog 51 #[.agg #[.int .i64 f.a, .int .i64 f.b, .int .i64 f.c, .int .i64 f.d]] w fun e w' => e = .returned (.slice (some ⟨w.heap.size + 1, 0, none⟩) 4 4) ∧ w' = (w.alloc (.cells #[.int .i64 f.a, .int .i64 f.b, .int .i64 f.c, .int .i64 f.d] 25)).alloc (.cells #[.int .i64 f.a, .int .i64 f.b, .int .i64 f.c, .int .i64 f.d] 2) := by
  go_enter Tryd.func51, Tryd.ntmps51
  go_wp2_with fail
  go_ret
  exact ⟨rfl, rfl⟩
set_option maxRecDepth 100000 in
set_option maxHeartbeats 4000000 in
theorem rmade {w : World} {g : Nat} (f : Cf) (h : w.heap[g]? = some (.cells #[.int .i64 f.a, .int .i64 f.b, .int .i64 f.c, .int .i64 f.d] 2 (0, 0))) : Calls Tryd.prog 54 #[.slice (some ⟨g, 0, none⟩) 4 4] w fun e w' => e = .returned (.agg #[.int .i64 f.a, .int .i64 f.b, .int .i64 f.c, .int .i64 f.d]) ∧ Below w.heap.size w w' := by
  have A : Hid (Below w.heap.size w (w.alloc (.cells #[.int .i64 f.a, .int .i64 f.b, .int .i64 f.c, .int .i64 f.d] 25)).drew) := Lib.hid ((Below.alloc (Below.refl _ _) (Nat.le_refl _) _).drew)
  have x0 : w.cell? ⟨g, 0, none⟩ = some (.int .i64 f.a) := cell_of h 0
  have x1 : w.cell? ⟨g, 1, none⟩ = some (.int .i64 f.b) := cell_of h 1
  have x2 : w.cell? ⟨g, 2, none⟩ = some (.int .i64 f.c) := cell_of h 2
  have x3 : w.cell? ⟨g, 3, none⟩ = some (.int .i64 f.d) := cell_of h 3
  have hl := lt_of_block h
  clear h
  go_enter Tryd.func54, Tryd.ntmps54
  go_wp2_with fail
  go_region
  go_wp2_with fail
  exact bodyPost_ret (v := .agg #[.int .i64 f.a, .int .i64 f.b, .int .i64 f.c, .int .i64 f.d]) (by simp [results, Tryd.results54, go_sem]) rfl ⟨rfl, A.out⟩
set_option maxRecDepth 100000 in
set_option maxHeartbeats 4000000 in
theorem rdefault (w : World) : Calls Tryd.prog 36 #[] w fun e w' => e = .returned (.agg #[.int .i64 60, .int .i64 1024, .int .i64 1024, .int .i64 1024]) ∧ Below w.heap.size w w' := by
  have X := Lib.hid (block_new (w.alloc (.cells #[.int .i64 0, .int .i64 0, .int .i64 0, .int .i64 0] 25)) (.cells #[.int .i64 60, .int .i64 1024, .int .i64 1024, .int .i64 1024] 2))
  have A : Hid (Below w.heap.size w ((w.alloc (.cells #[.int .i64 0, .int .i64 0, .int .i64 0, .int .i64 0] 25)).alloc (.cells #[.int .i64 60, .int .i64 1024, .int .i64 1024, .int .i64 1024] 2))) := Lib.hid ((Below.alloc (Below.refl _ _) (Nat.le_refl _) _).alloc (by simp) _)
  have Y : Hid (((w.alloc (.cells #[.int .i64 0, .int .i64 0, .int .i64 0, .int .i64 0] 25)).alloc (.cells #[.int .i64 60, .int .i64 1024, .int .i64 1024, .int .i64 1024] 2)).heap[w.heap.size]? = some (.cells #[.int .i64 0, .int .i64 0, .int .i64 0, .int .i64 0] 25 (0, 0))) := Lib.hid (block_old (block_new _ _) _)
  have P := Lib.hid (rmade dflt X.out)
  simp only [dflt] at P
  rw [show (w.alloc (.cells #[.int .i64 0, .int .i64 0, .int .i64 0, .int .i64 0] 25)).heap.size = w.heap.size + 1 by simp] at P
  go_enter Tryd.func36, Tryd.ntmps36
  go_wp2_with fail
  refine (P.out).mono ?_; rintro e w5 ⟨rfl, hb5⟩
  have hx := (hb5.block _ (lt_of_block Y.out)).trans Y.out
  have B5 := Lib.hid (A.out.trans (hb5.mono A.out.size))
  have y0 : w5.cell? ⟨w.heap.size, 0, none⟩ = some (.int .i64 0) := cell_of hx 0
  have y1 : w5.cell? ⟨w.heap.size, 1, none⟩ = some (.int .i64 0) := cell_of hx 1
  have y2 : w5.cell? ⟨w.heap.size, 2, none⟩ = some (.int .i64 0) := cell_of hx 2
  have y3 : w5.cell? ⟨w.heap.size, 3, none⟩ = some (.int .i64 0) := cell_of hx 3
  have z0 : w5.frozen? ⟨w.heap.size, 0, none⟩ = false := free_of hx 0
  have z1 : w5.frozen? ⟨w.heap.size, 1, none⟩ = false := free_of hx 1
  have z2 : w5.frozen? ⟨w.heap.size, 2, none⟩ = false := free_of hx 2
  have z3 : w5.frozen? ⟨w.heap.size, 3, none⟩ = false := free_of hx 3
  have B6 : Hid (Below w.heap.size w ((((w5.setCell ⟨w.heap.size, 0, none⟩ (.int .i64 60)).setCell ⟨w.heap.size, 1, none⟩ (.int .i64 1024)).setCell ⟨w.heap.size, 2, none⟩ (.int .i64 1024)).setCell ⟨w.heap.size, 3, none⟩ (.int .i64 1024))) := Lib.hid ((((B5.out.setCell (by simp) _).setCell (by simp) _).setCell (by simp) _).setCell (by simp) _)
  have HY := Lib.hid (set4 hx rfl (.int .i64 60) (.int .i64 1024) (.int .i64 1024) (.int .i64 1024))
  clear hb5 P hx
  go_wp2_with fail
  clear y0 y1 y2 y3 z0 z1 z2 z3
  have hy := HY.out
  clear HY
  generalize (((w5.setCell ⟨w.heap.size, 0, none⟩ (.int .i64 60)).setCell ⟨w.heap.size, 1, none⟩ (.int .i64 1024)).setCell ⟨w.heap.size, 2, none⟩ (.int .i64 1024)).setCell ⟨w.heap.size, 3, none⟩ (.int .i64 1024) = W6 at *
  have y0 : W6.cell? ⟨w.heap.size, 0, none⟩ = some (.int .i64 60) := cell_of hy 0
  have y1 : W6.cell? ⟨w.heap.size, 1, none⟩ = some (.int .i64 1024) := cell_of hy 1
  have y2 : W6.cell? ⟨w.heap.size, 2, none⟩ = some (.int .i64 1024) := cell_of hy 2
  have y3 : W6.cell? ⟨w.heap.size, 3, none⟩ = some (.int .i64 1024) := cell_of hy 3
  exact bodyPost_ret (v := .agg #[.int .i64 60, .int .i64 1024, .int .i64 1024, .int .i64 1024]) (by simp [results, Tryd.results36, go_sem, y0, y1, y2, y3]) rfl ⟨rfl, B6.out⟩
/-- The document's fields and rows, in blocks g and k. -/
structure FiB (w : World) (g k : Nat) (f : Cf) (wr : World) : Prop where
  f : wr.heap[g]? = some (.cells #[.int .i64 f.a, .int .i64 f.b, .int .i64 f.c, .int .i64 f.d] 2 (0, 0))
  r : wr.heap[k]? = some (.cells #[.string ⟨#[119, 105, 110, 100, 111, 119]⟩, .int .i64 1, .int .i64 9223372036854775807, .string ⟨#[101, 100, 103, 101, 115]⟩, .int .i64 1, .int .i64 16384, .string ⟨#[118, 101, 114, 116, 115]⟩, .int .i64 2, .int .i64 4096, .string ⟨#[100, 114, 97, 119, 115]⟩, .int .i64 0, .int .i64 16384] 91 (0, 0))
  below : Below w.heap.size w wr
theorem FiB.drew {w : World} {g k : Nat} {f : Cf} {wr : World} (h : FiB w g k f wr) : FiB w g k f wr.drew := ⟨h.f, h.r, h.below.drew⟩
theorem FiB.drewN {w : World} {g k : Nat} {f : Cf} {wr : World} (h : FiB w g k f wr) (n : Nat) : FiB w g k f (wr.drewN n) := ⟨h.f, h.r, below_drewN h.below n⟩
def FiRel (w : World) (g k : Nat) (f : Cf) (vi : Value) (wr : World) : Prop := ∃ i : Nat, i ≤ 4 ∧ vi = .int .i64 (i : Int) ∧ (∀ j, j < i → okf f j = true) ∧ FiB w g k f wr
theorem field_at {f : Cf} {i : Nat} (hi : i < 4) (h : ∀ j, j < i → okf f j = true) (hb : okf f i = false) : field f = nm i := by
  unfold field
  rw [wrong_at hi h hb, if_neg (by omega), Int.toNat_natCast]
theorem field_no {f : Cf} (h : ∀ j, j < 4 → okf f j = true) : field f = [] := by
  unfold field
  rw [wrong_no h, if_pos (by decide)]
set_option maxRecDepth 100000 in
set_option maxHeartbeats 4000000 in
theorem rfield (f : Cf) (hf : f.ok) (w : World) : Calls Tryd.prog 34 #[.agg #[.int .i64 f.a, .int .i64 f.b, .int .i64 f.c, .int .i64 f.d]] w fun e w' => e = .returned (.string ⟨(field f).toArray⟩) ∧ Below w.heap.size w w' := by
  have N := Lib.hid (new25 w f)
  have P1 := Lib.hid (rfields f (w.alloc (.cells #[.int .i64 f.a, .int .i64 f.b, .int .i64 f.c, .int .i64 f.d] 25)))
  have P2 := Lib.hid (fun w' => rrows w')
  have HF := Lib.hid hf
  clear hf
  go_enter Tryd.func34, Tryd.ntmps34
  go_wp2_with fail
  refine (P1.out).mono ?_; rintro e w1 ⟨rfl, hw1⟩
  have X1 : Hid (w1.heap[w.heap.size + 1 + 1]? = some (.cells #[.int .i64 f.a, .int .i64 f.b, .int .i64 f.c, .int .i64 f.d] 2 (0, 0))) := Lib.hid (by
    rw [hw1]
    have := block_new ((w.alloc (.cells #[.int .i64 f.a, .int .i64 f.b, .int .i64 f.c, .int .i64 f.d] 25)).alloc (.cells #[.int .i64 f.a, .int .i64 f.b, .int .i64 f.c, .int .i64 f.d] 25)) (.cells #[.int .i64 f.a, .int .i64 f.b, .int .i64 f.c, .int .i64 f.d] 2)
    rwa [show ((w.alloc (.cells #[.int .i64 f.a, .int .i64 f.b, .int .i64 f.c, .int .i64 f.d] 25)).alloc (.cells #[.int .i64 f.a, .int .i64 f.b, .int .i64 f.c, .int .i64 f.d] 25)).heap.size = w.heap.size + 1 + 1 by simp] at this)
  have B1 : Hid (Below w.heap.size w w1) := Lib.hid (by rw [hw1]; exact (N.out.alloc (by simp) _).alloc (by simp; omega) _)
  have P3 := Lib.hid (P2.out w1)
  clear hw1 P1 P2
  go_wp2_with fail
  refine (P3.out).mono ?_; rintro e w2 ⟨rfl, hw2⟩
  have FB : Hid (FiB w (w.heap.size + 1 + 1) w1.heap.size f w2) := Lib.hid (by
    rw [hw2]
    exact ⟨block_old X1.out _, block_new _ _, B1.out.alloc B1.out.size _⟩)
  clear hw2 P3
  go_wp2_with fail
  generalize w.heap.size + 1 + 1 = g at *
  generalize w1.heap.size = k at *
  go_loopw [5] (fun v5 wr => FiRel w g k f v5 wr) (fun v5 _ => 4 - (intOf v5).toNat)
  case atStart => exact ⟨0, by omega, rfl, fun j hj => absurd hj (by omega), FB.out⟩
  case round =>
    obtain ⟨i, hi4, rfl, hno, hb⟩ := hrel
    have B := Lib.hid hb
    have NO := Lib.hid hno
    have x0 : wr.cell? ⟨g, 0, none⟩ = some (.int .i64 f.a) := cell_of hb.f 0
    have x1 : wr.cell? ⟨g, 1, none⟩ = some (.int .i64 f.b) := cell_of hb.f 1
    have x2 : wr.cell? ⟨g, 2, none⟩ = some (.int .i64 f.c) := cell_of hb.f 2
    have x3 : wr.cell? ⟨g, 3, none⟩ = some (.int .i64 f.d) := cell_of hb.f 3
    have y0 : wr.cell? ⟨k, 0, none⟩ = some (.string ⟨#[119, 105, 110, 100, 111, 119]⟩) := cell_of hb.r 0
    have y1 : wr.cell? ⟨k, 1, none⟩ = some (.int .i64 1) := cell_of hb.r 1
    have y2 : wr.cell? ⟨k, 2, none⟩ = some (.int .i64 9223372036854775807) := cell_of hb.r 2
    have y3 : wr.cell? ⟨k, 3, none⟩ = some (.string ⟨#[101, 100, 103, 101, 115]⟩) := cell_of hb.r 3
    have y4 : wr.cell? ⟨k, 4, none⟩ = some (.int .i64 1) := cell_of hb.r 4
    have y5 : wr.cell? ⟨k, 5, none⟩ = some (.int .i64 16384) := cell_of hb.r 5
    have y6 : wr.cell? ⟨k, 6, none⟩ = some (.string ⟨#[118, 101, 114, 116, 115]⟩) := cell_of hb.r 6
    have y7 : wr.cell? ⟨k, 7, none⟩ = some (.int .i64 2) := cell_of hb.r 7
    have y8 : wr.cell? ⟨k, 8, none⟩ = some (.int .i64 4096) := cell_of hb.r 8
    have y9 : wr.cell? ⟨k, 9, none⟩ = some (.string ⟨#[100, 114, 97, 119, 115]⟩) := cell_of hb.r 9
    have y10 : wr.cell? ⟨k, 10, none⟩ = some (.int .i64 0) := cell_of hb.r 10
    have y11 : wr.cell? ⟨k, 11, none⟩ = some (.int .i64 16384) := cell_of hb.r 11
    clear hb hno
    have h5 : i = 0 ∨ i = 1 ∨ i = 2 ∨ i = 3 ∨ i = 4 := by omega
    rcases h5 with rfl | rfl | rfl | rfl | rfl
    · by_cases h1 : f.a < 1
      · have e1 : decide (f.a < 1) = true := by simpa using h1
        have WR := Lib.hid (field_at (f := f) (i := 0) (by omega) NO.out (by unfold okf lo Cf.at; simp; omega))
        clear h1
        go_wp2_with fail
        go_quiet (fail)
        go_wp2_with fail
        go_ret
        exact ⟨by rw [WR.out]; rfl, (B.out.drewN _).below⟩
      · have e1 : decide (f.a < 1) = false := by simp; omega
        by_cases h2 : 9223372036854775807 < f.a
        · have e2 : decide (9223372036854775807 < f.a) = true := by simpa using h2
          have WR := Lib.hid (field_at (f := f) (i := 0) (by omega) NO.out (by unfold okf hi Cf.at; simp; omega))
          clear h1 h2
          go_wp2_with fail
          go_quiet (fail)
          go_wp2_with fail
          go_ret
          exact ⟨by rw [WR.out]; rfl, (B.out.drewN _).below⟩
        · have e2 : decide (9223372036854775807 < f.a) = false := by simp; omega
          have OKK : Hid (okf f 0 = true) := Lib.hid (by unfold okf lo hi Cf.at; simp; omega)
          clear h1 h2
          go_wp2_with fail
          go_quiet (fail)
          go_wp2_with fail
          go_roundw
          case rel => exact ⟨0 + 1, by omega, by go_num, fun j hj => by
            rcases Nat.lt_or_ge j 0 with h | h
            · exact NO.out j h
            · rw [show j = 0 by omega]; exact OKK.out, B.out.drewN _⟩
          case measure => simp [intOf]
    · by_cases h1 : f.b < 1
      · have e1 : decide (f.b < 1) = true := by simpa using h1
        have WR := Lib.hid (field_at (f := f) (i := 1) (by omega) NO.out (by unfold okf lo Cf.at; simp; omega))
        clear h1
        go_wp2_with fail
        go_quiet (fail)
        go_wp2_with fail
        go_ret
        exact ⟨by rw [WR.out]; rfl, (B.out.drewN _).below⟩
      · have e1 : decide (f.b < 1) = false := by simp; omega
        by_cases h2 : 16384 < f.b
        · have e2 : decide (16384 < f.b) = true := by simpa using h2
          have WR := Lib.hid (field_at (f := f) (i := 1) (by omega) NO.out (by unfold okf hi Cf.at; simp; omega))
          clear h1 h2
          go_wp2_with fail
          go_quiet (fail)
          go_wp2_with fail
          go_ret
          exact ⟨by rw [WR.out]; rfl, (B.out.drewN _).below⟩
        · have e2 : decide (16384 < f.b) = false := by simp; omega
          have OKK : Hid (okf f 1 = true) := Lib.hid (by unfold okf lo hi Cf.at; simp; omega)
          clear h1 h2
          go_wp2_with fail
          go_quiet (fail)
          go_wp2_with fail
          go_roundw
          case rel => exact ⟨1 + 1, by omega, by go_num, fun j hj => by
            rcases Nat.lt_or_ge j 1 with h | h
            · exact NO.out j h
            · rw [show j = 1 by omega]; exact OKK.out, B.out.drewN _⟩
          case measure => simp [intOf]
    · by_cases h1 : f.c < 2
      · have e1 : decide (f.c < 2) = true := by simpa using h1
        have WR := Lib.hid (field_at (f := f) (i := 2) (by omega) NO.out (by unfold okf lo Cf.at; simp; omega))
        clear h1
        go_wp2_with fail
        go_quiet (fail)
        go_wp2_with fail
        go_ret
        exact ⟨by rw [WR.out]; rfl, (B.out.drewN _).below⟩
      · have e1 : decide (f.c < 2) = false := by simp; omega
        by_cases h2 : 4096 < f.c
        · have e2 : decide (4096 < f.c) = true := by simpa using h2
          have WR := Lib.hid (field_at (f := f) (i := 2) (by omega) NO.out (by unfold okf hi Cf.at; simp; omega))
          clear h1 h2
          go_wp2_with fail
          go_quiet (fail)
          go_wp2_with fail
          go_ret
          exact ⟨by rw [WR.out]; rfl, (B.out.drewN _).below⟩
        · have e2 : decide (4096 < f.c) = false := by simp; omega
          have OKK : Hid (okf f 2 = true) := Lib.hid (by unfold okf lo hi Cf.at; simp; omega)
          clear h1 h2
          go_wp2_with fail
          go_quiet (fail)
          go_wp2_with fail
          go_roundw
          case rel => exact ⟨2 + 1, by omega, by go_num, fun j hj => by
            rcases Nat.lt_or_ge j 2 with h | h
            · exact NO.out j h
            · rw [show j = 2 by omega]; exact OKK.out, B.out.drewN _⟩
          case measure => simp [intOf]
    · by_cases h1 : f.d < 0
      · have e1 : decide (f.d < 0) = true := by simpa using h1
        have WR := Lib.hid (field_at (f := f) (i := 3) (by omega) NO.out (by unfold okf lo Cf.at; simp; omega))
        clear h1
        go_wp2_with fail
        go_quiet (fail)
        go_wp2_with fail
        go_ret
        exact ⟨by rw [WR.out]; rfl, (B.out.drewN _).below⟩
      · have e1 : decide (f.d < 0) = false := by simp; omega
        by_cases h2 : 16384 < f.d
        · have e2 : decide (16384 < f.d) = true := by simpa using h2
          have WR := Lib.hid (field_at (f := f) (i := 3) (by omega) NO.out (by unfold okf hi Cf.at; simp; omega))
          clear h1 h2
          go_wp2_with fail
          go_quiet (fail)
          go_wp2_with fail
          go_ret
          exact ⟨by rw [WR.out]; rfl, (B.out.drewN _).below⟩
        · have e2 : decide (16384 < f.d) = false := by simp; omega
          have OKK : Hid (okf f 3 = true) := Lib.hid (by unfold okf lo hi Cf.at; simp; omega)
          clear h1 h2
          go_wp2_with fail
          go_quiet (fail)
          go_wp2_with fail
          go_roundw
          case rel => exact ⟨3 + 1, by omega, by go_num, fun j hj => by
            rcases Nat.lt_or_ge j 3 with h | h
            · exact NO.out j h
            · rw [show j = 3 by omega]; exact OKK.out, B.out.drewN _⟩
          case measure => simp [intOf]
    · have WR := Lib.hid (field_no NO.out)
      go_wp2_with fail
      go_ret
      exact ⟨by rw [WR.out]; rfl, B.out.below⟩
set_option maxRecDepth 100000 in
set_option maxHeartbeats 4000000 in
theorem rcheck (f : Cf) (hf : f.ok) (w : World) : Calls Tryd.prog 33 #[.agg #[.int .i64 f.a, .int .i64 f.b, .int .i64 f.c, .int .i64 f.d]] w fun e w' => e = .returned (.int .i64 (chk f)) ∧ Below w.heap.size w w' := by
  have N := Lib.hid (new25 w f)
  have P := Lib.hid (rfield f hf (w.alloc (.cells #[.int .i64 f.a, .int .i64 f.b, .int .i64 f.c, .int .i64 f.d] 25)))
  have hr := wrong_range f
  unfold field at P
  unfold chk
  clear hf
  generalize wrong f = k at *
  rcases hr with rfl | rfl | rfl | rfl | rfl
  all_goals
    go_enter Tryd.func33, Tryd.ntmps33
    go_wp2_with fail
    refine (P.out).mono ?_; rintro e w1 ⟨rfl, hb1⟩
    have B1 := Lib.hid (N.out.trans (hb1.mono N.out.size))
    clear hb1 P
    go_wp2_with fail
    go_ret
    exact ⟨rfl, B1.out⟩
end Go.Proofs.YtabihdhgonnihaaDoor

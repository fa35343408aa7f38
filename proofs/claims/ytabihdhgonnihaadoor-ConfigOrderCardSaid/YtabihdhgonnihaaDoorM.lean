/- Fields of a configuration; the first that is wrong; Default, Check and Field of the program. -/
import Derived.Test.YtabihdhgonnihaaDoorL
namespace Go.Proofs.YtabihdhgonnihaaDoor
open Go.ChangeShapes Go.WideShapes Go.ChangeAt Go.RowKit
set_option linter.unusedVariables false
set_option linter.unusedSimpArgs false

set_option maxRecDepth 100000 in
set_option maxHeartbeats 4000000 in
theorem psplit (a b c d : Int) (w : World) : Calls Tryd.prog 38 #[.agg #[.int .i64 a, .int .i64 b, .int .i64 c, .int .i64 d]] w fun e w' => e = .returned (.agg #[.int .i64 a, .int .i64 b, .int .i64 c, .int .i64 d]) ∧ Below w.heap.size w w' := by
  have A : Hid (Below w.heap.size w ((w.alloc (.cells #[.int .i64 a, .int .i64 b, .int .i64 c, .int .i64 d] 25)).alloc (.cells #[.int .i64 a, .int .i64 b, .int .i64 c, .int .i64 d] 60))) := Lib.hid (((Below.alloc (Below.refl _ _) (Nat.le_refl _) _).alloc (by simp) _))
  go_enter Tryd.func38, Tryd.ntmps38
  go_wp2_with fail
  exact bodyPost_ret (v := .agg #[.int .i64 a, .int .i64 b, .int .i64 c, .int .i64 d]) (by simp [results, Tryd.results38, go_sem]) rfl ⟨rfl, A.out⟩
set_option maxRecDepth 100000 in
set_option maxHeartbeats 4000000 in
theorem pjoin (a b c d : Int) (w : World) : Calls Tryd.prog 43 #[.agg #[.int .i64 a, .int .i64 b, .int .i64 c, .int .i64 d]] w fun e w' => e = .returned (.agg #[.int .i64 a, .int .i64 b, .int .i64 c, .int .i64 d]) ∧ Below w.heap.size w w' := by
  have A : Hid (Below w.heap.size w ((w.alloc (.cells #[.int .i64 a, .int .i64 b, .int .i64 c, .int .i64 d] 60)).alloc (.cells #[.int .i64 a, .int .i64 b, .int .i64 c, .int .i64 d] 25))) := Lib.hid (((Below.alloc (Below.refl _ _) (Nat.le_refl _) _).alloc (by simp) _))
  go_enter Tryd.func43, Tryd.ntmps43
  go_wp2_with fail
  exact bodyPost_ret (v := .agg #[.int .i64 a, .int .i64 b, .int .i64 c, .int .i64 d]) (by simp [results, Tryd.results43, go_sem]) rfl ⟨rfl, A.out⟩
set_option maxRecDepth 100000 in
set_option maxHeartbeats 4000000 in
theorem pdefault (w : World) : Calls Tryd.prog 14 #[] w fun e w' => e = .returned (.agg #[.int .i64 60, .int .i64 1024, .int .i64 1024, .int .i64 1024]) ∧ Below w.heap.size w w' := by
  have A : Hid (Below w.heap.size w (w.alloc (.cells #[.int .i64 60, .int .i64 1024, .int .i64 1024, .int .i64 1024] 25))) := Lib.hid ((Below.alloc (Below.refl _ _) (Nat.le_refl _) _))
  go_enter Tryd.func14, Tryd.ntmps14
  go_wp2_with fail
  exact bodyPost_ret (v := .agg #[.int .i64 60, .int .i64 1024, .int .i64 1024, .int .i64 1024]) (by simp [results, Tryd.results14, go_sem]) rfl ⟨rfl, A.out⟩
/-- The table of the fields, cell by cell. -/
theorem Env.cells {w : World} (h : Env w) : w.cell? ⟨0, 0, none⟩ = some (.string ⟨#[119, 105, 110, 100, 111, 119]⟩) ∧ w.cell? ⟨0, 1, none⟩ = some (.int .i64 1) ∧ w.cell? ⟨0, 2, none⟩ = some (.int .i64 9223372036854775807) ∧
    w.cell? ⟨0, 3, none⟩ = some (.string ⟨#[101, 100, 103, 101, 115]⟩) ∧ w.cell? ⟨0, 4, none⟩ = some (.int .i64 1) ∧ w.cell? ⟨0, 5, none⟩ = some (.int .i64 16384) ∧
    w.cell? ⟨0, 6, none⟩ = some (.string ⟨#[118, 101, 114, 116, 115]⟩) ∧ w.cell? ⟨0, 7, none⟩ = some (.int .i64 2) ∧ w.cell? ⟨0, 8, none⟩ = some (.int .i64 4096) ∧
    w.cell? ⟨0, 9, none⟩ = some (.string ⟨#[100, 114, 97, 119, 115]⟩) ∧ w.cell? ⟨0, 10, none⟩ = some (.int .i64 0) ∧ w.cell? ⟨0, 11, none⟩ = some (.int .i64 16384) ∧ 0 < w.heap.size := by
  obtain ⟨t, f, hr⟩ := h.rows
  have hc := fun o => cell_of hr o
  have hl := lt_of_block hr
  exact ⟨hc 0, hc 1, hc 2, hc 3, hc 4, hc 5, hc 6, hc 7, hc 8, hc 9, hc 10, hc 11, hl⟩
structure WrB (w : World) (f : Cf) (wr : World) : Prop where
  box : wr.heap[w.heap.size]? = some (.cells #[.int .i64 f.a, .int .i64 f.b, .int .i64 f.c, .int .i64 f.d] 60 (0, 0))
  below : Below w.heap.size w wr
theorem WrB.new (w : World) (f : Cf) : WrB w f (w.alloc (.cells #[.int .i64 f.a, .int .i64 f.b, .int .i64 f.c, .int .i64 f.d] 60)) := ⟨block_new _ _, Below.alloc (Below.refl _ _) (Nat.le_refl _) _⟩
theorem WrB.alloc {w : World} {f : Cf} {wr : World} (h : WrB w f wr) (o : Obj) : WrB w f (wr.alloc o) := ⟨block_old h.box _, h.below.alloc h.below.size _⟩
theorem WrB.drew {w : World} {f : Cf} {wr : World} (h : WrB w f wr) : WrB w f wr.drew := ⟨h.box, h.below.drew⟩
theorem WrB.cells {w : World} {f : Cf} {wr : World} (h : WrB w f wr) : wr.cell? ⟨w.heap.size, 0, none⟩ = some (.int .i64 f.a) ∧ wr.cell? ⟨w.heap.size, 1, none⟩ = some (.int .i64 f.b) ∧ wr.cell? ⟨w.heap.size, 2, none⟩ = some (.int .i64 f.c) ∧ wr.cell? ⟨w.heap.size, 3, none⟩ = some (.int .i64 f.d) ∧ w.heap.size < wr.heap.size :=
  ⟨cell_of h.box 0, cell_of h.box 1, cell_of h.box 2, cell_of h.box 3, lt_of_block h.box⟩
def WrRel (w : World) (f : Cf) (vi : Value) (wr : World) : Prop := ∃ i : Nat, i ≤ 4 ∧ vi = .int .i64 (i : Int) ∧ (∀ j, j < i → okf f j = true) ∧ WrB w f wr
theorem wrong_at {f : Cf} {i : Nat} (hi : i < 4) (h : ∀ j, j < i → okf f j = true) (hb : okf f i = false) : wrong f = i := by
  unfold wrong
  have : i = 0 ∨ i = 1 ∨ i = 2 ∨ i = 3 := by omega
  rcases this with rfl | rfl | rfl | rfl
  · rw [if_pos hb]; rfl
  · rw [if_neg (by rw [h 0 (by omega)]; decide), if_pos hb]; rfl
  · rw [if_neg (by rw [h 0 (by omega)]; decide), if_neg (by rw [h 1 (by omega)]; decide), if_pos hb]; rfl
  · rw [if_neg (by rw [h 0 (by omega)]; decide), if_neg (by rw [h 1 (by omega)]; decide), if_neg (by rw [h 2 (by omega)]; decide), if_pos hb]; rfl
theorem wrong_no {f : Cf} (h : ∀ j, j < 4 → okf f j = true) : wrong f = -1 := by
  unfold wrong
  rw [if_neg (by rw [h 0 (by omega)]; decide), if_neg (by rw [h 1 (by omega)]; decide), if_neg (by rw [h 2 (by omega)]; decide), if_neg (by rw [h 3 (by omega)]; decide)]
set_option maxRecDepth 100000 in
set_option maxHeartbeats 16000000 in
theorem pwrong {w : World} (h : Env w) (f : Cf) (hf : f.ok) : Calls Tryd.prog 39 #[.agg #[.int .i64 f.a, .int .i64 f.b, .int .i64 f.c, .int .i64 f.d]] w fun e w' => e = .returned (.int .i64 (wrong f)) ∧ Below w.heap.size w w' := by
  obtain ⟨c0, c1, c2, c3, c4, c5, c6, c7, c8, c9, c10, c11, c12⟩ := (h.below (WrB.new w f).below).cells
  have HF := Lib.hid hf
  have N := Lib.hid (WrB.new w f)
  clear h hf
  go_enter Tryd.func39, Tryd.ntmps39
  go_wp2_with fail
  go_loopw [6] (fun v6 wr => WrRel w f v6 wr) (fun v6 _ => 4 - (intOf v6).toNat)
  case atStart => exact ⟨0, by omega, rfl, fun j hj => absurd hj (by omega), N.out⟩
  case round =>
    obtain ⟨i, hi4, rfl, hno, hb⟩ := hrel
    have B := Lib.hid hb
    have NO := Lib.hid hno
    obtain ⟨x0, x1, x2, x3, x4⟩ := hb.cells
    clear hb hno c0 c1 c2 c3 c4 c5 c6 c7 c8 c9 c10 c11 c12
    have h5 : i = 0 ∨ i = 1 ∨ i = 2 ∨ i = 3 ∨ i = 4 := by omega
    rcases h5 with rfl | rfl | rfl | rfl | rfl
    · have hix := idx0
      have B2 := Lib.hid ((B.out.alloc (.cells #[.string ⟨#[119, 105, 110, 100, 111, 119]⟩, .int .i64 1, .int .i64 9223372036854775807] 64)).drew)
      by_cases h1 : f.a < 1
      · have e1 : decide (f.a < 1) = true := by simpa using h1
        have WR := Lib.hid (wrong_at (f := f) (i := 0) (by omega) NO.out (by unfold okf lo Cf.at; simp; omega))
        clear h1
        go_wp2_with fail
        go_region
        go_wp2_with fail
        go_ret
        exact ⟨by rw [WR.out]; rfl, B2.out.below⟩
      · have e1 : decide (f.a < 1) = false := by simp; omega
        by_cases h2 : 9223372036854775807 < f.a
        · have e2 : decide (9223372036854775807 < f.a) = true := by simpa using h2
          have WR := Lib.hid (wrong_at (f := f) (i := 0) (by omega) NO.out (by unfold okf hi Cf.at; simp; omega))
          clear h1 h2
          go_wp2_with fail
          go_region
          go_wp2_with fail
          go_ret
          exact ⟨by rw [WR.out]; rfl, B2.out.below⟩
        · have e2 : decide (9223372036854775807 < f.a) = false := by simp; omega
          have OKK : Hid (okf f 0 = true) := Lib.hid (by unfold okf lo hi Cf.at; simp; omega)
          clear h1 h2
          go_wp2_with fail
          go_region
          go_wp2_with fail
          go_roundw
          case rel => exact ⟨0 + 1, by omega, by go_num, fun j hj => by
            rcases Nat.lt_or_ge j 0 with h | h
            · exact NO.out j h
            · rw [show j = 0 by omega]; exact OKK.out, B2.out⟩
          case measure => simp [intOf]
    · have hix := idx1
      have B2 := Lib.hid ((B.out.alloc (.cells #[.string ⟨#[101, 100, 103, 101, 115]⟩, .int .i64 1, .int .i64 16384] 64)).drew)
      by_cases h1 : f.b < 1
      · have e1 : decide (f.b < 1) = true := by simpa using h1
        have WR := Lib.hid (wrong_at (f := f) (i := 1) (by omega) NO.out (by unfold okf lo Cf.at; simp; omega))
        clear h1
        go_wp2_with fail
        go_region
        go_wp2_with fail
        go_ret
        exact ⟨by rw [WR.out]; rfl, B2.out.below⟩
      · have e1 : decide (f.b < 1) = false := by simp; omega
        by_cases h2 : 16384 < f.b
        · have e2 : decide (16384 < f.b) = true := by simpa using h2
          have WR := Lib.hid (wrong_at (f := f) (i := 1) (by omega) NO.out (by unfold okf hi Cf.at; simp; omega))
          clear h1 h2
          go_wp2_with fail
          go_region
          go_wp2_with fail
          go_ret
          exact ⟨by rw [WR.out]; rfl, B2.out.below⟩
        · have e2 : decide (16384 < f.b) = false := by simp; omega
          have OKK : Hid (okf f 1 = true) := Lib.hid (by unfold okf lo hi Cf.at; simp; omega)
          clear h1 h2
          go_wp2_with fail
          go_region
          go_wp2_with fail
          go_roundw
          case rel => exact ⟨1 + 1, by omega, by go_num, fun j hj => by
            rcases Nat.lt_or_ge j 1 with h | h
            · exact NO.out j h
            · rw [show j = 1 by omega]; exact OKK.out, B2.out⟩
          case measure => simp [intOf]
    · have hix := idx2
      have B2 := Lib.hid ((B.out.alloc (.cells #[.string ⟨#[118, 101, 114, 116, 115]⟩, .int .i64 2, .int .i64 4096] 64)).drew)
      by_cases h1 : f.c < 2
      · have e1 : decide (f.c < 2) = true := by simpa using h1
        have WR := Lib.hid (wrong_at (f := f) (i := 2) (by omega) NO.out (by unfold okf lo Cf.at; simp; omega))
        clear h1
        go_wp2_with fail
        go_region
        go_wp2_with fail
        go_ret
        exact ⟨by rw [WR.out]; rfl, B2.out.below⟩
      · have e1 : decide (f.c < 2) = false := by simp; omega
        by_cases h2 : 4096 < f.c
        · have e2 : decide (4096 < f.c) = true := by simpa using h2
          have WR := Lib.hid (wrong_at (f := f) (i := 2) (by omega) NO.out (by unfold okf hi Cf.at; simp; omega))
          clear h1 h2
          go_wp2_with fail
          go_region
          go_wp2_with fail
          go_ret
          exact ⟨by rw [WR.out]; rfl, B2.out.below⟩
        · have e2 : decide (4096 < f.c) = false := by simp; omega
          have OKK : Hid (okf f 2 = true) := Lib.hid (by unfold okf lo hi Cf.at; simp; omega)
          clear h1 h2
          go_wp2_with fail
          go_region
          go_wp2_with fail
          go_roundw
          case rel => exact ⟨2 + 1, by omega, by go_num, fun j hj => by
            rcases Nat.lt_or_ge j 2 with h | h
            · exact NO.out j h
            · rw [show j = 2 by omega]; exact OKK.out, B2.out⟩
          case measure => simp [intOf]
    · have hix := idx3
      have B2 := Lib.hid ((B.out.alloc (.cells #[.string ⟨#[100, 114, 97, 119, 115]⟩, .int .i64 0, .int .i64 16384] 64)).drew)
      by_cases h1 : f.d < 0
      · have e1 : decide (f.d < 0) = true := by simpa using h1
        have WR := Lib.hid (wrong_at (f := f) (i := 3) (by omega) NO.out (by unfold okf lo Cf.at; simp; omega))
        clear h1
        go_wp2_with fail
        go_region
        go_wp2_with fail
        go_ret
        exact ⟨by rw [WR.out]; rfl, B2.out.below⟩
      · have e1 : decide (f.d < 0) = false := by simp; omega
        by_cases h2 : 16384 < f.d
        · have e2 : decide (16384 < f.d) = true := by simpa using h2
          have WR := Lib.hid (wrong_at (f := f) (i := 3) (by omega) NO.out (by unfold okf hi Cf.at; simp; omega))
          clear h1 h2
          go_wp2_with fail
          go_region
          go_wp2_with fail
          go_ret
          exact ⟨by rw [WR.out]; rfl, B2.out.below⟩
        · have e2 : decide (16384 < f.d) = false := by simp; omega
          have OKK : Hid (okf f 3 = true) := Lib.hid (by unfold okf lo hi Cf.at; simp; omega)
          clear h1 h2
          go_wp2_with fail
          go_region
          go_wp2_with fail
          go_roundw
          case rel => exact ⟨3 + 1, by omega, by go_num, fun j hj => by
            rcases Nat.lt_or_ge j 3 with h | h
            · exact NO.out j h
            · rw [show j = 3 by omega]; exact OKK.out, B2.out⟩
          case measure => simp [intOf]
    · have WR := Lib.hid (wrong_no NO.out)
      go_wp2_with fail
      go_ret
      exact ⟨by rw [WR.out]; rfl, B.out.below⟩
end Go.Proofs.YtabihdhgonnihaaDoor

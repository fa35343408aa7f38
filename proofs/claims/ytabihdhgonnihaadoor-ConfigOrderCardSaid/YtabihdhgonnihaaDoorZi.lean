/- Put of a configuration that is not valid; the same bytes. -/
import Derived.Test.YtabihdhgonnihaaDoorZd
import Derived.WalkSmall
namespace Go.Proofs.YtabihdhgonnihaaDoor
open Go.ChangeShapes Go.WideShapes Go.ChangeAt Go.RowKit
set_option linter.unusedVariables false
set_option linter.unusedSimpArgs false

set_option maxRecDepth 100000 in
set_option maxHeartbeats 4000000 in
theorem pput_bad {w : World} (h : Env w) (f : Cf) (hf : f.ok) (hk : ¬ wrong f < 0) : Calls Tryd.prog 30 #[.agg #[.int .i64 f.a, .int .i64 f.b, .int .i64 f.c, .int .i64 f.d]] w fun e w' => e = .returned (.tuple #[.slice none 0 0, .int .i64 2]) ∧ Below w.heap.size w w' := by
  have N := Lib.hid (new25 w f)
  have P1 := Lib.hid (psplit f.a f.b f.c f.d (w.alloc (.cells #[.int .i64 f.a, .int .i64 f.b, .int .i64 f.c, .int .i64 f.d] 25)))
  have P2 := Lib.hid (fun w' (hb : Below w.heap.size w w') => pwrong (h.below hb) f hf)
  have e1 : decide (0 ≤ wrong f) = true := by simp; omega
  generalize wrong f = k at *
  clear hk h hf
  go_enter Tryd.func30, Tryd.ntmps30
  go_wp2_with fail
  refine (P1.out).mono ?_; rintro e w1 ⟨rfl, hb1⟩
  have B1 := Lib.hid (N.out.trans (hb1.mono N.out.size))
  have A1 := Lib.hid (B1.out.alloc B1.out.size (.cells #[.int .i64 f.a, .int .i64 f.b, .int .i64 f.c, .int .i64 f.d] 60))
  have P3 := Lib.hid (P2.out _ A1.out)
  clear hb1 P1 P2
  go_wp2_with fail
  refine (P3.out).mono ?_; rintro e w2 ⟨rfl, hb2⟩
  have B2 := Lib.hid (A1.out.trans (hb2.mono A1.out.size))
  clear hb2
  go_wp2_with fail
  go_ret2
  exact ⟨rfl, B2.out⟩
def ByRel (w : World) (len : Nat) (zs ys : List Int) (vi : Value) (wr : World) : Prop := ∃ k : Nat, k ≤ len ∧ vi = .int .i64 k ∧ zs.take k = ys.take k ∧ Below w.heap.size w wr
theorem psame {w : World} {aa ab : Option Addr} {la lb ca cb : Nat} {zs ys : List Int} (ha : IsK .u8 w aa la ca zs) (hb : IsK .u8 w ab lb cb ys) :
    Calls Tryd.prog 25 #[.slice aa la ca, .slice ab lb cb] w fun e w' => e = .returned (.bool (decide (zs = ys))) ∧ Below w.heap.size w w' := by
  have hal := ha.hlen; have hac := ha.hle; have ham := ha.hmax; have hbl := hb.hlen; have hbc := hb.hle; have hbm := hb.hmax
  unfold maxLen at ham hbm
  have HA := Lib.hid ha; have HB := Lib.hid hb; have HAL := Lib.hid hal; have HBL := Lib.hid hbl
  obtain ⟨R, hR⟩ : ∃ R, R = decide (zs = ys) := ⟨_, rfl⟩
  rw [← hR]
  have HR := Lib.hid hR
  clear hR
  by_cases hne : la = lb
  · subst hne
    have HD : Hid (∀ k, zs.take k = ys.take k → la ≤ k → R = true) := Lib.hid (fun k h hk => by
      rw [HR.out]
      rw [List.take_of_length_le (by omega), List.take_of_length_le (by omega)] at h
      simp [h])
    have HN : Hid (∀ k, zs.getD k 0 ≠ ys.getD k 0 → R = false) := Lib.hid (fun k h => by rw [HR.out]; simp; intro e; rw [e] at h; exact h rfl)
    clear ha hb hal hbl
    go_enter Tryd.func25, Tryd.ntmps25
    go_wp2_with fail
    go_loopw [5] (fun vi wr => ByRel w la zs ys vi wr) (fun vi _ => la - (intOf vi).toNat)
    case atStart => exact ⟨0, Nat.zero_le _, rfl, by simp, Below.refl _ _⟩
    case round =>
      obtain ⟨k, hk, rfl, htk, hbl⟩ := hrel
      have BL := Lib.hid hbl; have TK := Lib.hid htk; clear hbl htk
      by_cases hlt : k < la
      · have hkl : k < zs.length := by have := HAL.out; omega
        have hkl2 : k < ys.length := by have := HBL.out; omega
        obtain ⟨b, off, rfl, _, _⟩ := HA.out.at_ (by intro h; rw [h, List.length_nil] at hkl; omega)
        obtain ⟨b', off', rfl, _, _⟩ := HB.out.at_ (by intro h; rw [h, List.length_nil] at hkl2; omega)
        have x0 := (HA.out.below BL.out).cellK (i := k) hkl
        have y0 := (HB.out.below BL.out).cellK (i := k) hkl2
        by_cases he : zs.getD k 0 = ys.getD k 0
        · have TK2 : Hid (zs.take (k + 1) = ys.take (k + 1)) := Lib.hid (by
            rw [List.take_succ_eq_append_getElem hkl, List.take_succ_eq_append_getElem hkl2, TK.out]
            congr 2
            simpa [hkl, hkl2] using he)
          rw [he] at x0
          clear he
          generalize ys.getD k 0 = x at *
          go_wp2_with fail
          go_quiet (fail)
          go_wp2_with fail
          go_roundw
          case rel => exact ⟨k + 1, by omega, by go_num, TK2.out, below_drewN BL.out _⟩
          case measure => simp [intOf]; omega
        · have HF := Lib.hid (HN.out k he)
          generalize zs.getD k 0 = x at *
          generalize ys.getD k 0 = y at *
          have hxy : (x == y) = false := by simpa using he
          clear HN HD HR
          go_wp2_with fail
          go_quiet (fail)
          go_wp2_with fail
          go_ret
          exact ⟨ret_bool HF.out.symm, below_drewN BL.out _⟩
      · have HF := Lib.hid (HD.out k TK.out (by omega))
        clear HD HN HR
        go_wp2_with fail
        go_ret
        exact ⟨ret_bool HF.out.symm, BL.out⟩
  · have HF : Hid (R = false) := Lib.hid (by rw [HR.out]; simp; intro e; rw [e] at hal; omega)
    have hne2 : ((la : Int) == (lb : Int)) = false := by simp; omega
    clear ha hb hal hbl HR
    go_enter Tryd.func25, Tryd.ntmps25
    go_wp2_with fail
    go_ret
    exact ⟨ret_bool HF.out.symm, Below.refl _ _⟩
end Go.Proofs.YtabihdhgonnihaaDoor

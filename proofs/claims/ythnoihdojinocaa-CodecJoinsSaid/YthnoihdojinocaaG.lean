/- Numbers are written, by the document; signed ones by both; equal bytes. -/
import Derived.Test.YthnoihdojinocaaF
import Derived.Lib.Zigzag
namespace Go.Proofs.Ythnoihdojinocaa
open Go.ChangeShapes Go.WideShapes Go.ChangeAt Go.RowKit
set_option linter.unusedVariables false
set_option linter.unusedSimpArgs false

/-- An empty slice of its own, that is not nil. -/
theorem own_empty (w : World) (e : TypeId) : OutR 1 (encK .u8) e (w.alloc (.cells #[] e)) w.heap.size (.slice (some ⟨w.heap.size, 0, none⟩) 0 0) (ns []) :=
  ⟨⟨rfl, Or.inr ⟨w.heap.size, 0, #[], rfl, Nat.zero_le _, block_new _ _, Nat.le_refl _, Nat.zero_le _, rfl, rfl⟩⟩, fun g hg => by cases hg; exact Nat.le_refl _⟩
set_option maxRecDepth 100000 in
set_option maxHeartbeats 2000000 in
theorem rpu {w : World} {a : Option Addr} {n c : Nat} {zs : List Nat} {x : Nat} (h : IsK .u8 w a n c (ns zs)) (hx : x < 18446744073709551616) (hl : zs.length ≤ 1000000) :
    Calls Try.prog 29 #[.slice a n c, .int .u64 (x : Int)] w (NwR w (zs ++ vi x)) := by
  obtain ⟨i0, hi, hz0, hz1, hz2⟩ := info_parts info5
  have hn := h.u8; have hle := h.hle; have hmx := h.hmax
  unfold maxLen at hmx
  have hrl : (zs ++ vi x).length ≤ 10000010 := by rw [List.length_append]; have := vi_len hx; omega
  have hn2 : n ≤ 1000000 := by omega
  obtain ⟨res, hres⟩ : ∃ r, r = zs ++ vi x := ⟨_, rfl⟩
  rw [← hres] at hrl ⊢
  have HRES := Lib.hid hres
  have HX := Lib.hid hx
  have A1 := Lib.hid (Below.alloc (Below.refl w.heap.size w) (Nat.le_refl _) (.cells #[] 5))
  have E1 := Lib.hid (own_empty w 5)
  have H1 := Lib.hid (h.below A1.out)
  clear h hres hn
  go_enter Try.func29, Try.ntmps29
  go_wp2_with (at_builtin; refine wpList_appS rfl (.tmp 6) (.tmp 7) 29 rfl 5 i0 .u8 1 Try.underlying29 hi hz0 hz1 hz2 (by decide) rfl E1.out A1.out.size H1.out rfl (by simp [ns]; omega) ?_)
  intro v2 w2 h1 h2 h3 h4
  have O2 : Hid (OutR 1 (encK .u8) 5 w2 w.heap.size v2 (ns zs)) := Lib.hid (by simpa [ns] using h1)
  have B2 := Lib.hid (A1.out.trans h3)
  clear h1 h2 h3 h4 E1 H1 A1
  go_wp2_with fail
  go_loopw [1, 5] (fun vx v' wr => AuRel w.heap.size v2 w2 res v' vx wr) (fun vx _ _ => natOf vx)
  case atStart => exact ⟨x, zs, rfl, HX.out, HRES.out.symm, ApW.refl O2.out⟩
  case round =>
    clear O2 hl
    obtain ⟨y, zs, rfl, hy, hzs, hap⟩ := hrel
    have AP := Lib.hid hap; have HZ := Lib.hid hzs
    clear hap hzs
    have hzl : zs.length ≤ 10000010 := by have := congrArg List.length HZ.out; rw [List.length_append] at this; omega
    have hBr : w.heap.size ≤ wr.heap.size := Nat.le_trans B2.out.size AP.out.touch.size
    by_cases hlt : 128 ≤ y
    · obtain ⟨c, cap, rfl⟩ := own_shape AP.out.out.row
      have hq : (y : Int) / 128 = ((y / 128 : Nat) : Int) := by omega
      have hm : (y : Int) % 128 = ((y % 128 : Nat) : Int) := by omega
      have HQ : Hid (y / 128 < y ∧ y / 128 < 18446744073709551616) := Lib.hid (by omega)
      have hm2 : y % 128 < 128 := Nat.mod_lt _ (by decide)
      have HZ2 : Hid (zs ++ ((y % 128 + 128) :: vi (y / 128)) = res) := Lib.hid (by rw [← HZ.out, vi_ge hlt])
      generalize y / 128 = q at *
      generalize y % 128 = r at *
      go_wp2_with (at_builtin; refine wpList_app rfl (.tmp 11) (.tmp 16) 29 rfl 5 i0 .u8 1 Try.underlying29 hi hz0 hz1 hz2 (by decide) rfl AP.out.out hBr ((r : Int) + 128) rfl (by rw [ns_len]; omega) ?_)
      intro v5 w5 h1 h2 h3 h4
      have AP2 : Hid (ApW w.heap.size v2 w2 v5 (zs ++ [r + 128]) w5) := Lib.hid (AP.out.trans ⟨by rw [← ns_app]; exact h1, h2, h3, h4⟩)
      clear h1 h2 h3 h4
      go_wp2_with fail
      go_roundw
      case rel => exact ⟨q, zs ++ [r + 128], by simp, HQ.out.2, by rw [← HZ2.out]; simp, AP2.out⟩
      case measure => simp [natOf, intOf]; exact HQ.out.1
    · go_wp2_with (at_builtin; refine wpList_app rfl (.tmp 20) (.tmp 23) 29 rfl 5 i0 .u8 1 Try.underlying29 hi hz0 hz1 hz2 (by decide) rfl AP.out.out hBr y rfl (by rw [ns_len]; omega) ?_)
      intro v5 w5 h1 h2 h3 h4
      have AP2 : Hid (ApW w.heap.size v2 w2 v5 res w5) := Lib.hid (AP.out.trans ⟨by rw [← HZ.out, vi_lt (by omega), ← ns_app]; exact h1, h2, h3, h4⟩)
      go_wp2_with fail
      go_ret
      exact ⟨v5, rfl, AP2.out.out, B2.out.trans AP2.out.below⟩
theorem fold_zig (x : Int) : fold x = Lib.zigzag x := by
  unfold fold Lib.zigzag
  split <;> split <;> omega
theorem pfold {x : Int} (hx : -9223372036854775808 ≤ x ∧ x ≤ 9223372036854775807) (w : World) : Calls Try.prog 46 #[.int .i64 x] w fun e w' => e = .returned (.int .u64 (fold x : Nat)) ∧ w = w' := by
  rw [fold_zig]
  by_cases h : x < 0
  · have e := Lib.hid (Lib.zigzag_neg hx.1 h)
    go_enter Try.func46, Try.ntmps46
    go_wp2_with fail
    go_ret
    exact ⟨ret_int e.out, rfl⟩
  · have e := Lib.hid (Lib.zigzag_nonneg (x := x) (by omega))
    go_enter Try.func46, Try.ntmps46
    go_wp2_with fail
    go_ret
    exact ⟨ret_int e.out.symm, rfl⟩
theorem ppi {w : World} {a : Option Addr} {n c : Nat} {zs : List Nat} {x : Int} (h : IsK .u8 w a n c (ns zs)) (hx : -9223372036854775808 ≤ x ∧ x ≤ 9223372036854775807) (hl : zs.length ≤ 1000000) :
    Calls Try.prog 30 #[.slice a n c, .int .i64 x] w (NwR w (zs ++ vf x)) := by
  have P1 := Lib.hid (pfold hx w)
  have P2 := Lib.hid (ppu h (fold_lt hx) hl)
  unfold vf
  generalize vi (fold x) = vx at *
  generalize fold x = f at *
  clear h hl
  go_enter Try.func30, Try.ntmps30
  go_wp2_with fail
  refine (P1.out).mono ?_; rintro e w1 ⟨rfl, rfl⟩
  go_wp2_with fail
  refine (P2.out).mono ?_; rintro e w2 ⟨v2, rfl, ho, hb⟩
  have O := Lib.hid ho; have B := Lib.hid hb
  clear ho hb
  go_wp2_with fail
  go_ret
  exact ⟨v2, rfl, O.out, B.out⟩
theorem rpi {w : World} {a : Option Addr} {n c : Nat} {zs : List Nat} {x : Int} (h : IsK .u8 w a n c (ns zs)) (hx : -9223372036854775808 ≤ x ∧ x ≤ 9223372036854775807) (hl : zs.length ≤ 1000000) :
    Calls Try.prog 31 #[.slice a n c, .int .i64 x] w (NwR w (zs ++ vf x)) := by
  have P2 := Lib.hid (rpu h (fold_lt hx) hl)
  unfold vf
  generalize vi (fold x) = vx at *
  clear h hl
  by_cases hn : x < 0
  · obtain ⟨m, rfl⟩ : ∃ m : Nat, x = -(m : Int) - 1 := ⟨(-(x + 1)).toNat, by omega⟩
    rw [show fold (-(m : Int) - 1) = 2 * m + 1 by unfold fold; split <;> omega] at P2
    go_enter Try.func31, Try.ntmps31
    go_wp2_with fail
    refine (P2.out).mono ?_; rintro e w2 ⟨v2, rfl, ho, hb⟩
    have O := Lib.hid ho; have B := Lib.hid hb
    clear ho hb
    go_wp2_with fail
    go_ret
    exact ⟨v2, rfl, O.out, B.out⟩
  · obtain ⟨m, rfl⟩ : ∃ m : Nat, x = (m : Int) := ⟨x.toNat, by omega⟩
    rw [show fold (m : Int) = 2 * m by unfold fold; split <;> omega] at P2
    go_enter Try.func31, Try.ntmps31
    go_wp2_with fail
    refine (P2.out).mono ?_; rintro e w2 ⟨v2, rfl, ho, hb⟩
    have O := Lib.hid ho; have B := Lib.hid hb
    clear ho hb
    go_wp2_with fail
    go_ret
    exact ⟨v2, rfl, O.out, B.out⟩
def ByRel (w : World) (len : Nat) (zs ys : List Nat) (vi : Value) (wr : World) : Prop := ∃ k : Nat, k ≤ len ∧ vi = .int .i64 k ∧ zs.take k = ys.take k ∧ Below w.heap.size w wr
theorem bytes_any {w : World} {aa ab : Option Addr} {la lb ca cb : Nat} {zs ys : List Nat} (ha : IsK .u8 w aa la ca (ns zs)) (hb : IsK .u8 w ab lb cb (ns ys)) :
    Calls Try.prog 18 #[.slice aa la ca, .slice ab lb cb] w fun e w' => e = .returned (.bool (decide (zs = ys))) ∧ Below w.heap.size w w' := by
  have hal := ha.u8; have hac := ha.hle; have ham := ha.hmax; have hbl := hb.u8; have hbc := hb.hle; have hbm := hb.hmax
  unfold maxLen at ham hbm
  have HA := Lib.hid ha; have HB := Lib.hid hb; have HAL := Lib.hid hal; have HBL := Lib.hid hbl
  obtain ⟨R, hR⟩ : ∃ R, R = decide (zs = ys) := ⟨_, rfl⟩
  rw [← hR]
  have HR := Lib.hid hR
  clear hR
  by_cases hne : la = lb
  · subst hne
    have HD : Hid (∀ k, zs.take k = ys.take k → la ≤ k → R = true) := Lib.hid (fun k h hk => by
      rw [HR.out]
      rw [List.take_of_length_le (by omega), List.take_of_length_le (by omega)] at h
      simp [h])
    have HN : Hid (∀ k, zs.getD k 0 ≠ ys.getD k 0 → R = false) := Lib.hid (fun k h => by rw [HR.out]; simp; intro e; rw [e] at h; exact h rfl)
    clear ha hb hal hbl
    go_enter Try.func18, Try.ntmps18
    go_wp2_with fail
    go_loopw [5] (fun vi wr => ByRel w la zs ys vi wr) (fun vi _ => la - (intOf vi).toNat)
    case atStart => exact ⟨0, Nat.zero_le _, rfl, by simp, Below.refl _ _⟩
    case round =>
      obtain ⟨k, hk, rfl, htk, hbl⟩ := hrel
      have BL := Lib.hid hbl; have TK := Lib.hid htk; clear hbl htk
      by_cases hlt : k < la
      · have hkl : k < zs.length := by have := HAL.out; omega
        have hkl2 : k < ys.length := by have := HBL.out; omega
        obtain ⟨b, off, rfl, _, _⟩ := HA.out.at_ (by intro h; have h1 := ns_len zs; rw [h, List.length_nil] at h1; omega)
        obtain ⟨b', off', rfl, _, _⟩ := HB.out.at_ (by intro h; have h1 := ns_len ys; rw [h, List.length_nil] at h1; omega)
        have x0 := (HA.out.below BL.out).cellK (i := k) (by rw [ns_len]; exact hkl)
        have y0 := (HB.out.below BL.out).cellK (i := k) (by rw [ns_len]; exact hkl2)
        rw [ns_get] at x0 y0
        by_cases he : zs.getD k 0 = ys.getD k 0
        · have TK2 : Hid (zs.take (k + 1) = ys.take (k + 1)) := Lib.hid (by
            rw [List.take_succ_eq_append_getElem hkl, List.take_succ_eq_append_getElem hkl2, TK.out]
            congr 2
            simpa [hkl, hkl2] using he)
          rw [he] at x0
          clear he
          generalize ys.getD k 0 = x at *
          go_wp2_with fail
          go_quiet (fail)
          go_wp2_with fail
          go_roundw
          case rel => exact ⟨k + 1, by omega, by go_num, TK2.out, below_drewN BL.out _⟩
          case measure => simp [intOf]; omega
        · have HF := Lib.hid (HN.out k he)
          generalize zs.getD k 0 = x at *
          generalize ys.getD k 0 = y at *
          have hxy : ((x : Int) == (y : Int)) = false := by simp; omega
          have hxy2 : (x == y) = false := by simp; omega
          clear HN HD HR
          go_wp2_with fail
          go_quiet (fail)
          go_wp2_with fail
          go_ret
          exact ⟨ret_bool HF.out.symm, below_drewN BL.out _⟩
      · have HF := Lib.hid (HD.out k TK.out (by omega))
        clear HD HN HR
        go_wp2_with fail
        go_ret
        exact ⟨ret_bool HF.out.symm, BL.out⟩
  · have HF : Hid (R = false) := Lib.hid (by rw [HR.out]; simp; intro e; rw [e] at hal; omega)
    have hne2 : ((la : Int) == (lb : Int)) = false := by simp; omega
    clear ha hb hal hbl HR
    go_enter Try.func18, Try.ntmps18
    go_wp2_with fail
    go_ret
    exact ⟨ret_bool HF.out.symm, Below.refl _ _⟩
end Go.Proofs.Ythnoihdojinocaa

/- CodecReads, CodecNumbers, CodecOne: the walks. -/
import Derived.Test.YthnoihdojinocaaZm
namespace Go.Proofs.Ythnoihdojinocaa
open Go.ChangeShapes Go.WideShapes Go.ChangeAt Go.RowKit
set_option linter.unusedVariables false
set_option linter.unusedSimpArgs false

set_option maxRecDepth 100000 in
set_option maxHeartbeats 8000000 in
theorem reads_law (a : Option Addr) (n c : Nat) (zs : List Int) (w : World) (h : IsInts .u8 w a n c zs) :
    Calls Try.prog 5 #[.slice a n c] w fun e w' => e = .returned (.bool true) ∧ Below w.heap.size w w' := by
  obtain ⟨b, hS, hb⟩ := ints_by h
  have hn := hS.u8; have hnc := hS.hle; have hmx := hS.hmax
  unfold maxLen at hmx
  have W := Lib.hid (works_any w)
  by_cases hl : 1000 < n
  · have e1 : decide ((1000 : Int) < (n : Int)) = true := by simp; omega
    have e2 : decide (1000 < n) = true := by simp; omega
    clear h hS hb hn
    go_enter Try.func5, Try.ntmps5
    go_wp2_with fail
    refine (W.out).mono ?_; rintro e w1 ⟨rfl, hb⟩
    have B := Lib.hid hb
    clear hb
    go_wp2_with fail
    go_ret
    exact ⟨rfl, B.out⟩
  · have e1 : decide ((1000 : Int) < (n : Int)) = false := by simp; omega
    have e2 : decide (1000 < n) = false := by simp; omega
    have P1 := Lib.hid (pgu hS hb)
    have P2 := Lib.hid (rgu hS hb)
    have P3 := Lib.hid (pgi hS hb)
    have P4 := Lib.hid (rgi hS hb)
    clear h hS hb hn hl
    cases hg : gu b with
    | none =>
      rw [hg] at P1 P2 P3 P4
      unfold guV at P1 P2
      unfold giV at P3 P4
      clear hg
      go_enter Try.func5, Try.ntmps5
      go_wp2_with fail
      refine (P1.out).mono ?_; rintro e w1 ⟨rfl, rfl⟩
      go_wp2_with fail
      refine (P2.out).mono ?_; rintro e w1 ⟨rfl, rfl⟩
      go_wp2_with fail
      refine (P3.out).mono ?_; rintro e w1 ⟨rfl, rfl⟩
      go_wp2_with fail
      refine (P4.out).mono ?_; rintro e w1 ⟨rfl, rfl⟩
      go_wp2_with fail
      refine (W.out).mono ?_; rintro e w1 ⟨rfl, hb⟩
      have B := Lib.hid hb
      clear hb
      go_wp2_with fail
      go_ret
      exact ⟨rfl, B.out⟩
    | some p =>
      obtain ⟨x, k⟩ := p
      rw [hg] at P1 P2 P3 P4
      unfold guV at P1 P2
      unfold giV at P3 P4
      generalize unf x = y at *
      clear hg
      go_enter Try.func5, Try.ntmps5
      go_wp2_with fail
      refine (P1.out).mono ?_; rintro e w1 ⟨rfl, rfl⟩
      go_wp2_with fail
      refine (P2.out).mono ?_; rintro e w1 ⟨rfl, rfl⟩
      go_wp2_with fail
      refine (P3.out).mono ?_; rintro e w1 ⟨rfl, rfl⟩
      go_wp2_with fail
      refine (P4.out).mono ?_; rintro e w1 ⟨rfl, rfl⟩
      go_wp2_with fail
      refine (W.out).mono ?_; rintro e w1 ⟨rfl, hb⟩
      have B := Lib.hid hb
      clear hb
      go_wp2_with fail
      go_ret
      exact ⟨rfl, B.out⟩
theorem u64_of {x : Int} (h : (Lit.int .u64 x).wf = true) : ∃ n : Nat, x = (n : Int) ∧ n < 18446744073709551616 := by
  simp only [Lit.wf, Bool.and_eq_true, decide_eq_true_eq] at h
  rw [show IntKind.u64.min = 0 from rfl, show IntKind.u64.max = 18446744073709551615 from rfl] at h
  exact ⟨x.toNat, by omega, by omega⟩
theorem i64_of {x : Int} (h : (Lit.int .i64 x).wf = true) : -9223372036854775808 ≤ x ∧ x ≤ 9223372036854775807 := by
  simp only [Lit.wf, Bool.and_eq_true, decide_eq_true_eq] at h
  rw [show IntKind.i64.min = -9223372036854775808 from rfl, show IntKind.i64.max = 9223372036854775807 from rfl] at h
  exact h
theorem bytes_yes {w : World} {aa ab : Option Addr} {la lb ca cb : Nat} {zs : List Nat} (ha : IsK .u8 w aa la ca (ns zs)) (hb : IsK .u8 w ab lb cb (ns zs)) :
    Calls Try.prog 18 #[.slice aa la ca, .slice ab lb cb] w fun e w' => e = .returned (.bool true) ∧ Below w.heap.size w w' := by
  have := bytes_any ha hb
  rwa [decide_eq_true rfl] at this
set_option maxRecDepth 100000 in
set_option maxHeartbeats 8000000 in
theorem numbers_law (a : Option Addr) (n c : Nat) (zs : List Int) (x y : Int) (w : World) (h : IsInts .u8 w a n c zs) (hx : (Lit.int .u64 x).wf = true) (hy : (Lit.int .i64 y).wf = true) :
    Calls Try.prog 9 #[.slice a n c, .int .u64 x, .int .i64 y] w fun e w' => e = .returned (.bool true) ∧ Below w.heap.size w w' := by
  obtain ⟨i0, hi, hz0, hz1, hz2⟩ := info_parts info5
  obtain ⟨b, hS, hb⟩ := ints_by h
  obtain ⟨xn, rfl, hxn⟩ := u64_of hx
  have hyb := i64_of hy
  have hn := hS.u8; have hnc := hS.hle; have hmx := hS.hmax
  unfold maxLen at hmx
  by_cases hl : 1000 < n
  · have W := Lib.hid (works_any w)
    have e1 : decide ((1000 : Int) < (n : Int)) = true := by simp; omega
    have e2 : decide (1000 < n) = true := by simp; omega
    clear h hS hb hn hx hy
    go_enter Try.func9, Try.ntmps9
    go_wp2_with fail
    refine (W.out).mono ?_; rintro e w1 ⟨rfl, hb⟩
    have B := Lib.hid hb
    clear hb
    go_wp2_with fail
    go_ret
    exact ⟨rfl, B.out⟩
  · have e1 : decide ((1000 : Int) < (n : Int)) = false := by simp; omega
    have e2 : decide (1000 < n) = false := by simp; omega
    have hn9 : n ≤ 1000 := by omega
    have HBL : Hid (b.length ≤ 1000) := Lib.hid (by omega)
    have A1 := Lib.hid (Below.alloc (Below.refl w.heap.size w) (Nat.le_refl _) (.cells #[] 5))
    have E1 := Lib.hid (own_empty w 5)
    have S1 := Lib.hid (hS.below A1.out)
    have HX := Lib.hid hxn; have HY := Lib.hid hyb
    have HS := Lib.hid hS
    clear h hb hn hx hy hl hS hxn hyb
    go_enter Try.func9, Try.ntmps9
    go_wp2_with (at_builtin; refine wpList_appS rfl (.tmp 12) (.tmp 13) 29 rfl 5 i0 .u8 1 Try.underlying29 hi hz0 hz1 hz2 (by decide) rfl E1.out A1.out.size S1.out rfl (by simp [ns]; omega) ?_)
    intro v2 w2 h1 h2 h3 h4
    have O2 : Hid (OutR 1 (encK .u8) 5 w2 w.heap.size v2 (ns b)) := Lib.hid (by simpa [ns] using h1)
    have B2 := Lib.hid (A1.out.trans h3)
    obtain ⟨a2, c2, rfl, hS2⟩ := O2.out.sl
    rw [ns_len] at hS2
    have S2 := Lib.hid hS2
    have hl2 : (ns b).length = b.length := ns_len b
    rw [hl2]
    generalize hbl : b.length = bl at *
    have HBL2 := Lib.hid hbl
    have P1 := Lib.hid (ppu (HS.out.below B2.out) HX.out (by have := HBL.out; omega))
    clear h1 h2 h3 h4 hS2 hl2 hbl
    go_wp2_with fail
    refine (P1.out).mono ?_; rintro e w3 ⟨v3, rfl, ho3, hb3⟩
    obtain ⟨a3, c3, rfl, hS3⟩ := ho3.sl
    have S3 := Lib.hid hS3
    have B3 := Lib.hid (B2.out.trans (hb3.mono B2.out.size))
    have S2b := Lib.hid (S2.out.below hb3)
    have P2 := Lib.hid (rpu (HS.out.below B3.out) HX.out (by have := HBL.out; have := HBL2.out; omega))
    generalize (ns (b ++ vi xn)).length = l3 at *
    clear ho3 hb3 hS3 P1
    go_wp2_with fail
    refine (P2.out).mono ?_; rintro e w4 ⟨v4, rfl, ho4, hb4⟩
    obtain ⟨a4, c4, rfl, hS4⟩ := ho4.sl
    have B4 := Lib.hid (B3.out.trans (hb4.mono B3.out.size))
    have S2c := Lib.hid (S2b.out.below hb4)
    have Q1 := Lib.hid (bytes_yes (S3.out.below hb4) hS4)
    generalize (ns (b ++ vi xn)).length = l4 at *
    clear ho4 hb4 hS4 P2
    go_wp2_with fail
    refine (Q1.out).mono ?_; rintro e w5 ⟨rfl, hb5⟩
    have B5 := Lib.hid (B4.out.trans (hb5.mono B4.out.size))
    have S2d := Lib.hid (S2c.out.below hb5)
    have P3 := Lib.hid (ppi (HS.out.below B5.out) HY.out (by have := HBL.out; have := HBL2.out; omega))
    clear hb5 Q1
    go_wp2_with fail
    refine (P3.out).mono ?_; rintro e w6 ⟨v6, rfl, ho6, hb6⟩
    obtain ⟨a6, c6, rfl, hS6⟩ := ho6.sl
    have S6 := Lib.hid hS6
    have B6 := Lib.hid (B5.out.trans (hb6.mono B5.out.size))
    have S2e := Lib.hid (S2d.out.below hb6)
    have P4 := Lib.hid (rpi (HS.out.below B6.out) HY.out (by have := HBL.out; have := HBL2.out; omega))
    generalize (ns (b ++ vf y)).length = l6 at *
    clear ho6 hb6 hS6 P3
    go_wp2_with fail
    refine (P4.out).mono ?_; rintro e w7 ⟨v7, rfl, ho7, hb7⟩
    obtain ⟨a7, c7, rfl, hS7⟩ := ho7.sl
    have B7 := Lib.hid (B6.out.trans (hb7.mono B6.out.size))
    have S2f := Lib.hid (S2e.out.below hb7)
    have Q2 := Lib.hid (bytes_yes (S6.out.below hb7) hS7)
    generalize (ns (b ++ vf y)).length = l7 at *
    clear ho7 hb7 hS7 P4
    go_wp2_with fail
    refine (Q2.out).mono ?_; rintro e w8 ⟨rfl, hb8⟩
    have B8 := Lib.hid (B7.out.trans (hb8.mono B7.out.size))
    have Q3 := Lib.hid (bytes_yes (HS.out.below B8.out) (S2f.out.below hb8))
    clear hb8 Q2
    go_wp2_with fail
    refine (Q3.out).mono ?_; rintro e w9 ⟨rfl, hb9⟩
    have B9 := Lib.hid (B8.out.trans (hb9.mono B8.out.size))
    have W := Lib.hid (works_any w9)
    clear hb9 Q3
    go_wp2_with fail
    refine (W.out).mono ?_; rintro e w10 ⟨rfl, hb10⟩
    have B10 := Lib.hid (B9.out.trans (hb10.mono B9.out.size))
    clear hb10 W
    go_wp2_with fail
    go_ret
    exact ⟨rfl, B10.out⟩
end Go.Proofs.Ythnoihdojinocaa

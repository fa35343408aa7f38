/- CodecVarints: the walk. -/
import Derived.Test.YthnoihdojinocaaZo
namespace Go.Proofs.Ythnoihdojinocaa
open Go.ChangeShapes Go.WideShapes Go.ChangeAt Go.RowKit
set_option linter.unusedVariables false
set_option linter.unusedSimpArgs false

def VsRel (x : Nat) (w9 : World) (v15 v16 : Value) (wr : World) : Prop := ∃ z s : Nat, v16 = .int .u64 (z : Int) ∧ v15 = .int .i64 (s : Int) ∧ s + (vi z).length = 1 + (vi x).length ∧ z < 18446744073709551616 ∧ s ≤ 20 ∧ w9 = wr
set_option maxRecDepth 100000 in
set_option maxHeartbeats 8000000 in
theorem varints_law (x y : Int) (a : Option Addr) (n c : Nat) (zs : List Int) (w : World) (hx : (Lit.int .u64 x).wf = true) (hy : (Lit.int .i64 y).wf = true) (h : IsInts .u8 w a n c zs) :
    Calls Try.prog 10 #[.int .u64 x, .int .i64 y, .slice a n c] w fun e w' => e = .returned (.bool true) ∧ Below w.heap.size w w' := by
  obtain ⟨i0, hi, hz0, hz1, hz2⟩ := info_parts info5
  obtain ⟨b, hS, hb⟩ := ints_by h
  obtain ⟨xn, rfl, hxn⟩ := u64_of hx
  have hyb := i64_of hy
  have hn := hS.u8; have hnc := hS.hle; have hmx := hS.hmax
  unfold maxLen at hmx
  by_cases hl : 100 < n
  · have W := Lib.hid (works_any w)
    have e1 : decide ((100 : Int) < (n : Int)) = true := by simp; omega
    have e2 : decide (100 < n) = true := by simp; omega
    clear h hS hb hn hx hy
    go_enter Try.func10, Try.ntmps10
    go_wp2_with fail
    refine (W.out).mono ?_; rintro e w1 ⟨rfl, hb⟩
    have B := Lib.hid hb
    clear hb
    go_wp2_with fail
    go_ret
    exact ⟨rfl, B.out⟩
  · have e1 : decide ((100 : Int) < (n : Int)) = false := by simp; omega
    have e2 : decide (100 < n) = false := by simp; omega
    have hn9 : n ≤ 100 := by omega
    have HN := Lib.hid hn; have HB := Lib.hid hb; have HS := Lib.hid hS
    have HX := Lib.hid hxn; have HY := Lib.hid hyb
    have P1 := Lib.hid (ppu (nil8 w) hxn (Nat.zero_le _))
    clear h hb hn hx hy hl hS hxn hyb
    go_enter Try.func10, Try.ntmps10
    go_wp2_with fail
    refine (P1.out).mono ?_; rintro e w1 ⟨v1, rfl, ho1, hb1⟩
    have e1' : [] ++ vi xn = vi xn := rfl
    rw [e1'] at ho1
    obtain ⟨a1, c1, rfl, hS1⟩ := ho1.sl
    have S1 := Lib.hid hS1
    have B1 := Lib.hid hb1
    have HVX := Lib.hid (vi_len HX.out)
    rw [ns_len] at hS1 ⊢
    have S1' := Lib.hid hS1
    generalize hlx : (vi xn).length = lx at *
    have HLX := Lib.hid hlx
    have P2 := Lib.hid (ppi (nil8 w1) HY.out (Nat.zero_le _))
    clear ho1 hb1 hS1 P1 hlx e1' S1
    go_wp2_with fail
    refine (P2.out).mono ?_; rintro e w2 ⟨v2, rfl, ho2, hb2⟩
    rw [show [] ++ vf y = vf y from rfl] at ho2
    obtain ⟨a2, c2, rfl, hS2⟩ := ho2.sl
    have B2 := Lib.hid (B1.out.trans (hb2.mono B1.out.size))
    have S1b := Lib.hid (S1'.out.below hb2)
    rw [ns_len] at hS2 ⊢
    have S2 := Lib.hid hS2
    have HVY : Hid ((vf y).length ≤ 10) := Lib.hid (vi_len (fold_lt HY.out))
    generalize hly : (vf y).length = ly at *
    have HLY := Lib.hid hly
    have A3 := Lib.hid (Below.alloc (Below.refl w2.heap.size w2) (Nat.le_refl _) (.cells #[] 5))
    have E3 := Lib.hid (own_empty w2 5)
    have S1c := Lib.hid (S1b.out.below A3.out)
    clear ho2 hb2 hS2 P2 hly
    go_wp2_with (at_builtin; refine wpList_appS rfl (.tmp 26) (.tmp 27) 29 rfl 5 i0 .u8 1 Try.underlying29 hi hz0 hz1 hz2 (by decide) rfl E3.out A3.out.size S1c.out rfl (by have := HVX.out; simp [ns]; omega) ?_)
    intro v3 w3 h1 h2 h3 h4
    have O3 : Hid (OutR 1 (encK .u8) 5 w3 w2.heap.size v3 (ns (vi xn))) := Lib.hid (by simpa [ns] using h1)
    have B3 := Lib.hid (A3.out.trans h3)
    have hB3 := B3.out.size
    have SM3 := Lib.hid (HS.out.below (B2.out.trans (B3.out.mono B2.out.size)))
    clear h1 h2 h3 h4
    obtain ⟨a3, l3, c3, rfl⟩ : ∃ a l c, v3 = .slice a l c := by obtain ⟨a, c, e⟩ := own_shape O3.out.row; exact ⟨a, _, c, e⟩
    go_wp2_with (at_builtin; refine wpList_appS rfl (.tmp 28) (.tmp 29) 29 rfl 5 i0 .u8 1 Try.underlying29 hi hz0 hz1 hz2 (by decide) rfl O3.out hB3 SM3.out rfl (by have := HVX.out; have := HLX.out; rw [ns_len]; omega) ?_)
    intro v4 w4 h1 h2 h3 h4
    have O4 : Hid (OutR 1 (encK .u8) 5 w4 w2.heap.size v4 (ns (vi xn ++ b))) := Lib.hid (by rw [ns_cat]; exact h1)
    have B4 := Lib.hid (B3.out.trans h3)
    obtain ⟨a4, c4, rfl, hS4⟩ := O4.out.sl
    have P4 := Lib.hid (pgu hS4 (By.app (fun q hq => vi_byte xn q hq) HB.out))
    rw [gu_vi HX.out, HLX.out] at P4
    generalize (ns (vi xn ++ b)).length = l4 at *
    clear h1 h2 h3 h4 hS4
    go_wp2_with fail
    refine (P4.out).mono ?_; rintro e w5 ⟨rfl, rfl⟩
    unfold guV
    have S2b := Lib.hid (S2.out.below B4.out)
    have A5 := Lib.hid (Below.alloc (Below.refl w4.heap.size w4) (Nat.le_refl _) (.cells #[] 5))
    have E5 := Lib.hid (own_empty w4 5)
    have S2c := Lib.hid (S2b.out.below A5.out)
    have B5 := Lib.hid (B2.out.trans (B4.out.mono B2.out.size))
    clear P4
    go_wp2_with (at_builtin; refine wpList_appS rfl (.tmp 36) (.tmp 37) 29 rfl 5 i0 .u8 1 Try.underlying29 hi hz0 hz1 hz2 (by decide) rfl E5.out A5.out.size S2c.out rfl (by have := HVY.out; simp [ns]; omega) ?_)
    intro v6 w6 h1 h2 h3 h4
    have O6 : Hid (OutR 1 (encK .u8) 5 w6 w4.heap.size v6 (ns (vf y))) := Lib.hid (by simpa [ns] using h1)
    have B6 := Lib.hid (A5.out.trans h3)
    have hB6 := B6.out.size
    have SM6 := Lib.hid (HS.out.below (B5.out.trans (B6.out.mono B5.out.size)))
    clear h1 h2 h3 h4
    obtain ⟨a6, l6, c6, rfl⟩ : ∃ a l c, v6 = .slice a l c := by obtain ⟨a, c, e⟩ := own_shape O6.out.row; exact ⟨a, _, c, e⟩
    go_wp2_with (at_builtin; refine wpList_appS rfl (.tmp 38) (.tmp 39) 29 rfl 5 i0 .u8 1 Try.underlying29 hi hz0 hz1 hz2 (by decide) rfl O6.out hB6 SM6.out rfl (by have := HVY.out; have := HLY.out; rw [ns_len]; omega) ?_)
    intro v7 w7 h1 h2 h3 h4
    have O7 : Hid (OutR 1 (encK .u8) 5 w7 w4.heap.size v7 (ns (vf y ++ b))) := Lib.hid (by rw [ns_cat]; exact h1)
    have B7 := Lib.hid (B6.out.trans h3)
    obtain ⟨a7, c7, rfl, hS7⟩ := O7.out.sl
    have P7 := Lib.hid (pgi hS7 (By.app (fun q hq => vi_byte _ q hq) HB.out))
    have hgy : gu (vf y ++ b) = some (fold y, ly) := by rw [← HLY.out]; exact gu_vi (fold_lt HY.out) b
    rw [hgy] at P7
    unfold giV at P7
    simp only [unf_fold] at P7
    generalize (ns (vf y ++ b)).length = l7 at *
    clear h1 h2 h3 h4 hS7 hgy
    go_wp2_with fail
    refine (P7.out).mono ?_; rintro e w8 ⟨rfl, rfl⟩
    have B8 := Lib.hid (B5.out.trans (B7.out.mono B5.out.size))
    have hlx10 : lx ≤ 10 := HVX.out
    clear P7
    go_wp2_with fail
    go_loopw [15, 16] (fun v15 v16 wr => VsRel xn w7 v15 v16 wr) (fun _ v16 _ => natOf v16)
    case atStart => exact ⟨xn, 1, rfl, rfl, rfl, HX.out, by omega, rfl⟩
    case round =>
      obtain ⟨z, s, rfl, rfl, hz, hz64, hs20, rfl⟩ := hrel
      have HZ := Lib.hid hz
      clear hz
      by_cases hlt : 128 ≤ z
      · have hq : (z : Int) / 128 = ((z / 128 : Nat) : Int) := by omega
        have HQ : Hid (z / 128 < z ∧ z / 128 < 18446744073709551616 ∧ s + 1 ≤ 20 ∧ (s + 1) + (vi (z / 128)).length = 1 + (vi xn).length) := Lib.hid (by
          have h1 := HZ.out
          rw [vi_ge hlt, List.length_cons] at h1
          have h2 := HLX.out
          have h3 := vi_pos (z / 128)
          omega)
        generalize z / 128 = q at *
        go_wp2_with fail
        go_roundw
        case rel => exact ⟨q, s + 1, by simp, by go_num, HQ.out.2.2.2, HQ.out.2.1, HQ.out.2.2.1, rfl⟩
        case measure => simp [natOf, intOf]; exact HQ.out.1
      · have hsl : s = lx := by
          have h1 := HZ.out
          rw [vi_lt (by omega), HLX.out] at h1
          simp at h1
          omega
        subst hsl
        have W := Lib.hid (works_any w7)
        go_wp2_with fail
        refine (W.out).mono ?_; rintro e w9 ⟨rfl, hb9⟩
        have B9 := Lib.hid (B8.out.trans (hb9.mono B8.out.size))
        clear hb9 W
        go_wp2_with fail
        go_ret
        exact ⟨rfl, B9.out⟩
end Go.Proofs.Ythnoihdojinocaa

/- CodecBack: the walk. -/
import Derived.Test.YthnoihdojinocaaZs
namespace Go.Proofs.Ythnoihdojinocaa
open Go.ChangeShapes Go.WideShapes Go.ChangeAt Go.RowKit
set_option linter.unusedVariables false
set_option linter.unusedSimpArgs false

set_option maxRecDepth 100000 in
set_option maxHeartbeats 16000000 in
theorem back_law (c : Cm) (ad : Option Addr) (cd : Nat) (ab : Option Addr) (cb : Nat) (am : Option Addr) (nm cm : Nat) (zs : List Int) (w : World) (hL : LsAt w c ad cd ab cb) (hc : c.ok) (hM : IsInts .u8 w am nm cm zs) :
    Calls Try.prog 6 #[.agg (cmV c (.slice ad c.d.length cd) (.slice ab c.b.length cb)), .slice am nm cm] w fun e w' => e = .returned (.bool true) ∧ Below w.heap.size w w' := by
  obtain ⟨i0, hi, hz0, hz1, hz2⟩ := info_parts info5
  obtain ⟨bm, hSM, hbm⟩ := ints_by hM
  have hnm := hSM.u8; have hncm := hSM.hle; have hmxm := hSM.hmax
  unfold maxLen at hmxm
  obtain ⟨W1, hW1⟩ : ∃ W1, W1 = w.alloc (.cells (cmV c (.slice ad c.d.length cd) (.slice ab c.b.length cb)) 27) := ⟨_, rfl⟩
  have A1 : Below w.heap.size w W1 := by rw [hW1]; exact Below.alloc (Below.refl _ _) (Nat.le_refl _) _
  have AW := Lib.hid A1
  have HX : W1.heap[w.heap.size]? = some (.cells (cmV c (.slice ad c.d.length cd) (.slice ab c.b.length cb)) 27 (0, 0)) := by rw [hW1]; exact block_new _ _
  have BX := Lib.hid (box_of HX)
  have HL1 := Lib.hid (hL.keep A1)
  have HW1 := Lib.hid hW1
  have HC := Lib.hid hc
  obtain ⟨x0, x1, x2, x3, x4, x5, x6⟩ := BX.out W1 (Below.refl _ _)
  have SM := Lib.hid (hSM.below A1); have BM := Lib.hid hbm
  by_cases hbad : 1000 < c.d.length ∨ 1000 < c.b.length ∨ 1000 < nm
  · have W := Lib.hid (works_any W1)
    by_cases h1 : 1000 < c.d.length
    · have e1 : decide ((1000 : Int) < (c.d.length : Int)) = true := by simp; omega
      have e2 : decide (1000 < c.d.length) = true := by simp; omega
      clear hbad hM hSM hbm hnm hL hc A1 hW1 HX
      generalize c.d.length = dl at *
      generalize c.b.length = bl at *
      unfold cmV at *
      go_enter Try.func6, Try.ntmps6
      go_wp2_with fail
      rw [← HW1.out]
      refine (W.out).mono ?_; rintro e w1 ⟨rfl, hb⟩
      have B := Lib.hid (AW.out.trans (hb.mono AW.out.size))
      clear hb
      go_wp2_with fail
      go_ret
      exact ⟨rfl, B.out⟩
    · have e1 : decide ((1000 : Int) < (c.d.length : Int)) = false := by simp; omega
      have e2 : decide (1000 < c.d.length) = false := by simp; omega
      by_cases h2 : 1000 < c.b.length
      · have e3 : decide ((1000 : Int) < (c.b.length : Int)) = true := by simp; omega
        have e4 : decide (1000 < c.b.length) = true := by simp; omega
        clear hbad hM hSM hbm hnm hL hc A1 hW1 HX
        generalize c.d.length = dl at *
        generalize c.b.length = bl at *
        unfold cmV at *
        go_enter Try.func6, Try.ntmps6
        go_wp2_with fail
        rw [← HW1.out]
        refine (W.out).mono ?_; rintro e w1 ⟨rfl, hb⟩
        have B := Lib.hid (AW.out.trans (hb.mono AW.out.size))
        clear hb
        go_wp2_with fail
        go_ret
        exact ⟨rfl, B.out⟩
      · have e3 : decide ((1000 : Int) < (c.b.length : Int)) = false := by simp; omega
        have e4 : decide (1000 < c.b.length) = false := by simp; omega
        have e5 : decide ((1000 : Int) < (nm : Int)) = true := by simp; omega
        have e6 : decide (1000 < nm) = true := by simp; omega
        clear hbad hM hSM hbm hnm hL hc A1 hW1 HX
        generalize c.d.length = dl at *
        generalize c.b.length = bl at *
        unfold cmV at *
        go_enter Try.func6, Try.ntmps6
        go_wp2_with fail
        rw [← HW1.out]
        refine (W.out).mono ?_; rintro e w1 ⟨rfl, hb⟩
        have B := Lib.hid (AW.out.trans (hb.mono AW.out.size))
        clear hb
        go_wp2_with fail
        go_ret
        exact ⟨rfl, B.out⟩
  · have e1 : decide ((1000 : Int) < (c.d.length : Int)) = false := by simp; omega
    have e2 : decide (1000 < c.d.length) = false := by simp; omega
    have e3 : decide ((1000 : Int) < (c.b.length : Int)) = false := by simp; omega
    have e4 : decide (1000 < c.b.length) = false := by simp; omega
    have e5 : decide ((1000 : Int) < (nm : Int)) = false := by simp; omega
    have e6 : decide (1000 < nm) = false := by simp; omega
    have hnm9 : nm ≤ 1000 := by omega
    have P1 := Lib.hid (pput HL1.out HC.out (by omega) (by omega))
    have C1 := Lib.hid (fun w' => pcheck_c (w := w') (c := c) (ad := ad) (ab := ab) (cd := cd) (cb := cb) (by omega) (by omega))
    have GB : Hid (chk c = 0 → get (frm c ++ bm) = some (c, (frm c).length)) := Lib.hid (fun h => get_back HC.out h bm)
    have FL : Hid (chk c = 0 → (frm c).length ≤ 1000010) := Lib.hid (fun h => by
      obtain ⟨fs, hu, _, h3, h4⟩ := chk_ok h
      have h5 := pay_len HC.out h3 h4 hu
      unfold frm; rw [hu]
      show (vi (pay c fs).length ++ pay c fs).length ≤ 1000010
      have h6 := vi_len (x := (pay c fs).length) (by omega)
      rw [List.length_append]; omega)
    have FB : Hid (chk c = 0 → By (frm c)) := Lib.hid (fun h => frm_by h)
    obtain ⟨ck, hck⟩ : ∃ ck, chk c = ck := ⟨_, rfl⟩
    have HCK := Lib.hid hck
    rw [hck] at C1
    clear hbad hL hc A1 hW1 HX hck hM hSM hbm hnm
    unfold cmV at P1 C1 HW1
    unfold cmV
    by_cases hk : ck = 0
    · subst hk
      go_enter Try.func6, Try.ntmps6
      go_wp2_with fail
      rw [← HW1.out]
      refine (P1.out).mono ?_; rintro e w2 ⟨v2, rfl, hb2, ho2, -⟩
      have hO2 := ho2 HCK.out
      obtain ⟨a2, c2, rfl, hS2⟩ := hO2.sl
      rw [HCK.out]
      rw [ns_len] at hS2 ⊢
      have S2 := Lib.hid hS2
      have hB2 := Lib.hid hb2
      have B2 := Lib.hid (AW.out.trans (hb2.mono AW.out.size))
      have G := Lib.hid (GB.out HCK.out)
      have BF := Lib.hid (FB.out HCK.out)
      have FL2 := Lib.hid (FL.out HCK.out)
      generalize frm c = F at *
      generalize hn : F.length = n at *
      have HN := Lib.hid hn
      clear x0 x1 x2 x3 x4 x5 x6 hb2 ho2 hO2 hS2 P1 GB FL FB hn
      obtain ⟨x0, x1, x2, x3, x4, x5, x6⟩ := BX.out w2 hB2.out
      go_wp2_with fail
      refine (C1.out _).mono ?_; rintro e w3 ⟨rfl, hb3⟩
      have hB3 := Lib.hid (hB2.out.trans (hb3.mono hB2.out.size))
      have B3 := Lib.hid (AW.out.trans (hB3.out.mono AW.out.size))
      have S3 := Lib.hid (S2.out.below hb3)
      have A3 := Lib.hid (Below.alloc (Below.refl w3.heap.size w3) (Nat.le_refl _) (.cells #[] 5))
      have E3 := Lib.hid (own_empty w3 5)
      have S3b := Lib.hid (S3.out.below A3.out)
      clear hb3 C1 x0 x1 x2 x3 x4 x5 x6
      go_wp2_with (at_builtin; refine wpList_appS rfl (.tmp 48) (.tmp 49) 29 rfl 5 i0 .u8 1 Try.underlying29 hi hz0 hz1 hz2 (by decide) rfl E3.out A3.out.size S3b.out rfl (by have := FL2.out; simp [ns]; omega) ?_)
      intro v4 w4 h1 h2 h3 h4
      have O4 : Hid (OutR 1 (encK .u8) 5 w4 w3.heap.size v4 (ns F)) := Lib.hid (by simpa [ns] using h1)
      have B4 := Lib.hid (A3.out.trans h3)
      have hB4 := B4.out.size
      have hBB4 := Lib.hid (hB3.out.trans (B4.out.mono hB3.out.size))
      have SM4 := Lib.hid (SM.out.below hBB4.out)
      obtain ⟨a4, l4, c4, rfl⟩ : ∃ a l c, v4 = .slice a l c := by obtain ⟨a, c, e⟩ := own_shape O4.out.row; exact ⟨a, _, c, e⟩
      clear h1 h2 h3 h4
      go_wp2_with (at_builtin; refine wpList_appS rfl (.tmp 50) (.tmp 51) 29 rfl 5 i0 .u8 1 Try.underlying29 hi hz0 hz1 hz2 (by decide) rfl O4.out hB4 SM4.out rfl (by have := FL2.out; have := HN.out; rw [ns_len]; omega) ?_)
      intro v5 w5 h1 h2 h3 h4
      have O5 : Hid (OutR 1 (encK .u8) 5 w5 w3.heap.size v5 (ns (F ++ bm))) := Lib.hid (by rw [ns_cat]; exact h1)
      have B5 := Lib.hid (B4.out.trans h3)
      have hBB5 := Lib.hid (hB3.out.trans (B5.out.mono hB3.out.size))
      obtain ⟨a5, c5, rfl, hS5⟩ := O5.out.sl
      have PG := Lib.hid (pget hS5 (BF.out.app BM.out))
      rw [G.out] at PG
      generalize (ns (F ++ bm)).length = l5 at *
      clear h1 h2 h3 h4 hS5
      go_wp2_with fail
      refine (PG.out).mono ?_; rintro e w6 ⟨ad6, cd6, ab6, cb6, rfl, hls, hb6⟩
      have hBB6 := Lib.hid (hBB5.out.trans (hb6.mono hBB5.out.size))
      have A6 := Lib.hid (Below.alloc (Below.refl w6.heap.size w6) (Nat.le_refl _) (.cells #[.int .i64 c.op, .int .u64 (c.u : Int), .int .u64 (c.v : Int), .int .i64 c.w, .int .i64 c.t, .slice ad6 c.d.length cd6, .slice ab6 c.b.length cb6] 27))
      have hBB7 := Lib.hid (hBB6.out.trans (A6.out.mono hBB6.out.size))
      have LSa : Hid (LsAt w6 c ad6 cd6 ab6 cb6) := Lib.hid hls
      have CY := Lib.hid (cmd_yes (LSa.out.keep A6.out) (HL1.out.keep hBB7.out))
      obtain ⟨x0, x1, x2, x3, x4, x5, x6⟩ := BX.out w6 hBB6.out
      have hxw : w.heap.size < w6.heap.size := lt_of_cell x0
      have hw1 := hBB6.out.size
      clear hls hb6 PG
      unfold cmV at CY
      simp only [getV, cmV]
      go_wp2_with fail
      refine (CY.out).mono ?_; rintro e w7 ⟨rfl, hb7⟩
      have hBB8 := Lib.hid (hBB7.out.trans (hb7.mono hBB7.out.size))
      have W := Lib.hid (works_any w7)
      clear hb7 CY x0 x1 x2 x3 x4 x5 x6
      go_wp2_with fail
      refine (W.out).mono ?_; rintro e w8 ⟨rfl, hb8⟩
      have hBB9 := Lib.hid (hBB8.out.trans (hb8.mono hBB8.out.size))
      clear hb8 W
      go_wp2_with fail
      go_ret
      exact ⟨rfl, AW.out.trans (hBB9.out.mono AW.out.size)⟩
    · have f1 : (ck == 0) = false := by simpa using hk
      have f2 : (ck != 0) = true := by simpa using hk
      have HK := Lib.hid hk
      clear hk
      go_enter Try.func6, Try.ntmps6
      go_wp2_with fail
      rw [← HW1.out]
      refine (P1.out).mono ?_; rintro e w2 ⟨v2, rfl, hb2, -, ho2⟩
      rw [HCK.out]
      have hv2 := ho2 (fun h => HK.out (HCK.out.symm.trans h))
      subst hv2
      have hB2 := Lib.hid hb2
      clear hb2 ho2 P1 x0 x1 x2 x3 x4 x5 x6
      obtain ⟨x0, x1, x2, x3, x4, x5, x6⟩ := BX.out w2 hB2.out
      go_wp2_with fail
      refine (C1.out _).mono ?_; rintro e w3 ⟨rfl, hb3⟩
      have hB3 := Lib.hid (hB2.out.trans (hb3.mono hB2.out.size))
      have W := Lib.hid (works_any w3)
      clear hb3 C1 x0 x1 x2 x3 x4 x5 x6
      go_wp2_with fail
      refine (W.out).mono ?_; rintro e w6 ⟨rfl, hb6⟩
      have B6 := Lib.hid (AW.out.trans ((hB3.out.trans (hb6.mono hB3.out.size)).mono AW.out.size))
      clear hb6 W
      go_wp2_with fail
      go_ret
      exact ⟨rfl, B6.out⟩
end Go.Proofs.Ythnoihdojinocaa

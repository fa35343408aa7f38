/- ConfigBack: the walk. -/
import Derived.Test.YtabihdhgonnihaaDoorZf
import Derived.Test.YtabihdhgonnihaaDoorZq
import Derived.Test.YtabihdhgonnihaaDoorZr
namespace Go.Proofs.YtabihdhgonnihaaDoor
open Go.ChangeShapes Go.WideShapes Go.ChangeAt Go.RowKit
set_option linter.unusedVariables false
set_option linter.unusedSimpArgs false

theorem txt_short {f : Cf} (h : f.ok) : (txt f 4).length ≤ 1000 := by have := txt_len h 4; omega
theorem field_nil {f : Cf} (h : wrong f < 0) : field f = [] := by unfold field; rw [if_pos h]
theorem chk_nil {f : Cf} (h : wrong f < 0) : chk f = 0 := (chk_iff f).2 h
set_option maxRecDepth 100000 in
set_option maxHeartbeats 16000000 in
theorem back_walk (a b c d : Int) (aa : Option Addr) (n ca : Nat) (zs : List Int) (w : World) (hE : Env w) (wa : (Lit.int .u64 a).wf = true) (wb : (Lit.int .u16 b).wf = true) (wc : (Lit.int .u16 c).wf = true) (wd : (Lit.int .u16 d).wf = true) (h : IsInts .u8 w aa n ca zs) :
    Calls Tryd.prog 11 #[.int .u64 a, .int .u16 b, .int .u16 c, .int .u16 d, .slice aa n ca] w fun e w' => e = .returned (.bool true) ∧ Below w.heap.size w w' := by
  obtain ⟨A, rfl, hA⟩ := nat_u64 wa
  obtain ⟨B, rfl, hB⟩ := nat_u16 wb
  obtain ⟨C, rfl, hC⟩ := nat_u16 wc
  obtain ⟨D, rfl, hD⟩ := nat_u16 wd
  obtain ⟨i5, hi, hz0, hz1, hz2⟩ := info_parts info5
  have hS := h.sl
  have hBB := isB_of h
  have hn := hS.hlen; have hnc := hS.hle; have hmx := hS.hmax
  unfold maxLen at hmx
  have HE := Lib.hid hE
  by_cases hl : 100 < n
  · have W := Lib.hid (works_any hE)
    have e1 : decide ((100 : Int) < (n : Int)) = true := by simp; omega
    have e2 : decide (100 < n) = true := by simp; omega
    clear h hE hS hBB hn hl hnc hmx hA hB hC hD wa wb wc wd
    go_enter Tryd.func11, Tryd.ntmps11
    go_wp2_with fail
    refine (W.out).mono ?_; rintro e w1 ⟨rfl, hb⟩
    have B := Lib.hid hb
    clear hb
    go_wp2_with fail
    go_ret
    exact ⟨rfl, B.out⟩
  · have e1 : decide ((100 : Int) < (n : Int)) = false := by simp; omega
    have e2 : decide (100 < n) = false := by simp; omega
    have HN : Hid (n ≤ 100) := Lib.hid (by omega)
    have HS := Lib.hid hS
    have P1 := Lib.hid (pdrawn A B C D hA hB hC hD w)
    have FO := Lib.hid (drawn_ok A B C D)
    have FW := Lib.hid (drawn_wrong A B C D)
    generalize drawnC A B C D = f at *
    have PT := Lib.hid (fun w' (hb : Below w.heap.size w w') => ptext_ok (hE.below hb) f FO.out FW.out)
    have PQ := Lib.hid (fun w' (hb : Below w.heap.size w w') => pparse (hE.below hb) (s := txt f 4) (by have := txt_short FO.out; omega))
    rw [parse_txt FW.out] at PQ
    unfold ParR at PQ
    dsimp only at PQ
    generalize txt f 4 = s at *
    have PP := Lib.hid (fun w' (hb : Below w.heap.size w w') => pput_ok (hE.below hb) f FO.out FW.out)
    have PG := Lib.hid (fun w' (hb : Below w.heap.size w w') (a : Option Addr) (m c : Nat) (hs : IsK .u8 w' a m c (putB f 4 ++ zs)) => pget (hE.below hb) hs (fun y hy => (List.mem_append.1 hy).elim (isB_put f y) (hBB y)))
    rw [get_put FO.out FW.out zs] at PG
    unfold GetR at PG
    dsimp only at PG
    have LP : Hid ((putB f 4).length = 32) := Lib.hid (putB_len f 4)
    generalize putB f 4 = pb at *
    clear h hE hS hBB hn hl hnc hmx hA hB hC hD wa wb wc wd
    go_enter Tryd.func11, Tryd.ntmps11
    go_wp2_with fail
    refine (P1.out).mono ?_; rintro e w1 ⟨rfl, hb1⟩
    have B1 := Lib.hid (hb1.alloc hb1.size (.cells #[.int .i64 f.a, .int .i64 f.b, .int .i64 f.c, .int .i64 f.d] 25))
    have X1 := Lib.hid (block_new w1 (.cells #[.int .i64 f.a, .int .i64 f.b, .int .i64 f.c, .int .i64 f.d] 25))
    have P2 := Lib.hid (PT.out _ B1.out)
    clear hb1 P1 PT
    go_wp2_with fail
    refine (P2.out).mono ?_; rintro e w2 ⟨rfl, hb2⟩
    have B2 := Lib.hid (B1.out.trans (hb2.mono B1.out.size))
    have X2 := Lib.hid ((hb2.block _ (lt_of_block X1.out)).trans X1.out)
    have P3 := Lib.hid (PQ.out _ B2.out)
    clear hb2 P2 PQ X1
    go_wp2_with fail
    refine (P3.out).mono ?_; rintro e w3 ⟨rfl, hb3⟩
    have hb3' := hb3.alloc hb3.size (.cells #[.int .i64 f.a, .int .i64 f.b, .int .i64 f.c, .int .i64 f.d] 25)
    have B3 := Lib.hid (B2.out.trans (hb3'.mono B2.out.size))
    have X3 := Lib.hid ((hb3'.block _ (lt_of_block X2.out)).trans X2.out)
    have Y3 := Lib.hid (block_new w3 (.cells #[.int .i64 f.a, .int .i64 f.b, .int .i64 f.c, .int .i64 f.d] 25))
    have hx3 := (hb3.block _ (lt_of_block X2.out)).trans X2.out
    have hlx := lt_of_block hx3
    have x0 : w3.cell? ⟨w1.heap.size, 0, none⟩ = some (.int .i64 f.a) := cell_of hx3 0
    have x1 : w3.cell? ⟨w1.heap.size, 1, none⟩ = some (.int .i64 f.b) := cell_of hx3 1
    have x2 : w3.cell? ⟨w1.heap.size, 2, none⟩ = some (.int .i64 f.c) := cell_of hx3 2
    have x3 : w3.cell? ⟨w1.heap.size, 3, none⟩ = some (.int .i64 f.d) := cell_of hx3 3
    have P4 := Lib.hid (PP.out _ B3.out)
    clear hb3 hb3' P3 PP X2 hx3
    go_wp2_with fail
    refine (P4.out).mono ?_; rintro e w4 ⟨v, rfl, ho, hb4⟩
    have B4 := Lib.hid (B3.out.trans (hb4.mono B3.out.size))
    have X4 := Lib.hid ((hb4.block _ (lt_of_block X3.out)).trans X3.out)
    have Y4 := Lib.hid ((hb4.block _ (lt_of_block Y3.out)).trans Y3.out)
    obtain ⟨a4, c4, rfl, hS4⟩ := ho.sl
    rw [LP.out] at hS4 ⊢
    have A5 := Lib.hid (Below.alloc (Below.refl w4.heap.size w4) (Nat.le_refl _) (.cells #[] 5))
    have E5 := Lib.hid (own_empty w4 5)
    have S5 := Lib.hid (hS4.below A5.out)
    clear hb4 ho hS4 P4 X3 Y3 x0 x1 x2 x3 hlx
    go_wp2_with (at_builtin; refine wpList_appS rfl (.tmp 46) (.tmp 47) 41 rfl 5 i5 .u8 1 Tryd.underlying41 hi hz0 hz1 hz2 (by decide) rfl E5.out A5.out.size S5.out rfl (by simp) ?_)
    intro v5 w5 h1 h2 h3 h4
    have O5 : Hid (OutR 1 (encK .u8) 5 w5 w4.heap.size v5 pb) := Lib.hid (by simpa using h1)
    have B5 := Lib.hid (A5.out.trans h3)
    have hB5 := B5.out.size
    have S6 := Lib.hid (HS.out.below (B4.out.trans (B5.out.mono B4.out.size)))
    clear h1 h2 h3 h4
    obtain ⟨a5, l5, c5, rfl⟩ : ∃ a l c, v5 = .slice a l c := by obtain ⟨a, c, e⟩ := own_shape O5.out.row; exact ⟨a, _, c, e⟩
    go_wp2_with (at_builtin; refine wpList_appS rfl (.tmp 48) (.tmp 49) 41 rfl 5 i5 .u8 1 Tryd.underlying41 hi hz0 hz1 hz2 (by decide) rfl O5.out hB5 S6.out rfl (by have := LP.out; have := HN.out; omega) ?_)
    intro v6 w6 h1 h2 h3 h4
    have O6 : Hid (OutR 1 (encK .u8) 5 w6 w4.heap.size v6 (pb ++ zs)) := Lib.hid h1
    have B6 := Lib.hid (B5.out.trans h3)
    have B6w := Lib.hid (B4.out.trans (B6.out.mono B4.out.size))
    obtain ⟨a6, c6, rfl, hS6⟩ := O6.out.sl
    have P5 := Lib.hid (PG.out _ B6w.out a6 _ c6 hS6)
    generalize (pb ++ zs).length = l6 at *
    clear h1 h2 h3 h4 hS6 PG
    go_wp2_with fail
    refine (P5.out).mono ?_; rintro e w7 ⟨rfl, hb7⟩
    have hb7' := hb7.alloc hb7.size (.cells #[.int .i64 f.a, .int .i64 f.b, .int .i64 f.c, .int .i64 f.d] 25)
    have B7 := Lib.hid (B6w.out.trans (hb7'.mono B6w.out.size))
    have X7 := Lib.hid ((hb7'.block _ (by have := lt_of_block X4.out; have := B6.out.size; omega)).trans ((B6.out.block _ (lt_of_block X4.out)).trans X4.out))
    have Y7 := Lib.hid ((hb7'.block _ (by have := lt_of_block Y4.out; have := B6.out.size; omega)).trans ((B6.out.block _ (lt_of_block Y4.out)).trans Y4.out))
    have Z7 := Lib.hid (block_new w7 (.cells #[.int .i64 f.a, .int .i64 f.b, .int .i64 f.c, .int .i64 f.d] 25))
    clear hb7 hb7' P5 X4 Y4 E5 A5 S5 O5 hB5 S6 O6 HN HS LP
    go_upto_region 8 with fail
    generalize w7.alloc (.cells #[.int .i64 f.a, .int .i64 f.b, .int .i64 f.c, .int .i64 f.d] 25) = W at *
    have C1 : Hid (Any27 W f 0) := Lib.hid (by have := any27 (HE.out.below B7.out) f FO.out; rwa [chk_nil FW.out] at this)
    have C2 : Hid (Any29 W f []) := Lib.hid (by have := any29 (HE.out.below B7.out) f FO.out; rwa [field_nil FW.out] at this)
    have C3 : Hid (Any26 W f f) := Lib.hid (by have := any26 (HE.out.below B7.out) f FO.out; rwa [clamp_id FW.out] at this)
    have KK := Lib.hid (fun w' (hb : Below W.heap.size W w') => (At4.of X7.out).keep (lt_of_block X7.out) hb)
    have WK := Lib.hid (fun w' (hb : Below W.heap.size W w') => works_any ((HE.out.below B7.out).below hb))
    obtain ⟨x0, x1, x2, x3⟩ := KK.out W (Below.refl _ _)
    have BR := Below.refl W.heap.size W
    go_cut [68] (fun s68 wx => s68 = .bool false ∧ Below W.heap.size W wx)
    case first =>
      go_region_held3 (fun w' => w'.cell? ⟨w1.heap.size, 0, none⟩ = some (.int .i64 f.a) ∧ w'.cell? ⟨w1.heap.size, 1, none⟩ = some (.int .i64 f.b) ∧ w'.cell? ⟨w1.heap.size, 2, none⟩ = some (.int .i64 f.c) ∧ w'.cell? ⟨w1.heap.size, 3, none⟩ = some (.int .i64 f.d))
        (first | exact ⟨x0, x1, x2, x3⟩ | exact KK.out _ (by first | assumption | exact Below.drewR (by assumption)))
        (first
          | (go_at_call 27; refine (C1.out _ (by first | assumption | exact Below.drewR (by assumption))).mono ?_; rintro e w7 ⟨rfl, hb7⟩)
          | (go_at_call 29; refine (C2.out _ (by first | assumption | exact Below.drewR (by assumption))).mono ?_; rintro e w7 ⟨rfl, hb7⟩)
          | (go_at_call 26; refine (C3.out _ (by first | assumption | exact Below.drewR (by assumption))).mono ?_; rintro e w7 ⟨rfl, hb7⟩))
      all_goals
        go_wp2_with fail
        go_meet
        exact ⟨rfl, by first | assumption | exact Below.drewR (by assumption)⟩
    case rest =>
      obtain ⟨rfl, hbx⟩ := hcut
      clear x0 x1 x2 x3 C1 C2 C3 BR
      obtain ⟨x0, x1, x2, x3⟩ := KK.out _ hbx
      obtain ⟨y0, y1, y2, y3⟩ := (At4.of Y7.out).keep (lt_of_block Y7.out) hbx
      obtain ⟨z0, z1, z2, z3⟩ := (At4.of Z7.out).keep (lt_of_block Z7.out) hbx
      have W5 := Lib.hid (WK.out _ hbx)
      have BX := Lib.hid (B7.out.trans (hbx.mono B7.out.size))
      clear KK WK X7 Y7 Z7 hbx
      go_wp2_with fail
      refine (W5.out).mono ?_; rintro e w9 ⟨rfl, hb9⟩
      have B9 := Lib.hid (BX.out.trans (hb9.mono BX.out.size))
      clear hb9 W5
      go_wp2_with fail
      go_ret
      exact ⟨rfl, B9.out⟩
end Go.Proofs.YtabihdhgonnihaaDoor

/- ConfigLast: the walk. -/
import Derived.Test.YtabihdhgonnihaaDoorZs
import Derived.Test.YtabihdhgonnihaaDoorZt
import Derived.Test.YtabihdhgonnihaaDoorY
namespace Go.Proofs.YtabihdhgonnihaaDoor
open Go.ChangeShapes Go.WideShapes Go.ChangeAt Go.RowKit
set_option linter.unusedVariables false
set_option linter.unusedSimpArgs false

theorem one_string (w : World) {M : Nat} (hM : M < 256) : (convert 41 9 (.slice (some ⟨w.heap.size, 0, none⟩) 1 1)).run Tryd.prog (w.alloc (.cells #[.int .u8 (M : Int)] 5)) = .ok (.string ⟨#[UInt8.ofNat M]⟩) (w.alloc (.cells #[.int .u8 (M : Int)] 5)) := by
  refine run_convert_bytes_back (w.alloc (.cells #[.int .u8 (M : Int)] 5)) 41 9 5 ⟨w.heap.size, 0, none⟩ 1 [UInt8.ofNat M] Tryd.underlying41 Tryd.underlying5 Tryd.underlying9 (fun j hj => ?_)
  have hj0 : j = 0 := by simpa using hj
  subst hj0
  have := cell_of (block_new w (.cells #[.int .u8 (M : Int)] 5)) 0
  have hm : (UInt8.ofNat M).toNat = M := by simp [UInt8.toNat_ofNat']; omega
  simp [Addr.add, this, hm]
theorem other_cases {f : Cf} {r : Cf × Int} (h : Other f r) : r = (zero, 15) ∨ r = (zero, 2) ∨ ∃ q, r = (q, 0) ∧ q ≠ f := by
  rcases h with h | h | ⟨h1, h2⟩
  · exact Or.inl h
  · exact Or.inr (Or.inl h)
  · obtain ⟨q, e⟩ := r
    simp only at h1 h2
    exact Or.inr (Or.inr ⟨q, by rw [h1], h2⟩)
set_option maxRecDepth 100000 in
set_option maxHeartbeats 40000000 in
theorem last_walk (a b c d m : Int) (w : World) (hE : Env w) (wa : (Lit.int .u64 a).wf = true) (wb : (Lit.int .u16 b).wf = true) (wc : (Lit.int .u16 c).wf = true) (wd : (Lit.int .u16 d).wf = true) (wm : (Lit.int .u8 m).wf = true) :
    Calls Tryd.prog 5 #[.int .u64 a, .int .u16 b, .int .u16 c, .int .u16 d, .int .u8 m] w fun e w' => e = .returned (.bool true) ∧ Below w.heap.size w w' := by
  obtain ⟨A, rfl, hA⟩ := nat_u64 wa
  obtain ⟨B, rfl, hB⟩ := nat_u16 wb
  obtain ⟨C, rfl, hC⟩ := nat_u16 wc
  obtain ⟨D, rfl, hD⟩ := nat_u16 wd
  obtain ⟨M, rfl, hM⟩ := nat_u8 wm
  have HE := Lib.hid hE
  have P1 := Lib.hid (pdrawn A B C D hA hB hC hD w)
  have FO := Lib.hid (drawn_ok A B C D)
  have FW := Lib.hid (drawn_wrong A B C D)
  generalize drawnC A B C D = f at *
  have PT := Lib.hid (fun w' (hb : Below w.heap.size w w') => ptext_ok (hE.below hb) f FO.out FW.out)
  have hcv := fun w' => one_string w' hM
  have hne := text_ne f
  have MP := more_plain FW.out (UInt8.ofNat M)
  have LP := Lib.hid (other_cases (less_plain FW.out))
  have SL := txt_short FO.out
  have PM := Lib.hid (fun w' (hb : Below w.heap.size w w') => pparse (hE.below hb) (s := txt f 4 ++ [UInt8.ofNat M]) (by have := SL; simp; omega))
  have PL := Lib.hid (fun w' (hb : Below w.heap.size w w') => pparse (hE.below hb) (s := (txt f 4).take ((txt f 4).length - 1)) (by have := SL; simp; omega))
  have hadd := add_str (a := txt f 4) (b := [UInt8.ofNat M]) (by simp; omega)
  have hpos : 0 < (txt f 4).length := List.length_pos_iff.2 hne
  have hex : (⟨(txt f 4).toArray⟩ : ByteArray).extract 0 ((txt f 4).length - 1) = ⟨((txt f 4).take ((txt f 4).length - 1)).toArray⟩ := by
    apply ByteArray.ext
    simp [ByteArray.data_extract, List.dropLast_eq_take]
  have hw1 : wrap64 (((txt f 4).length : Int) - 1) = (((txt f 4).length - 1 : Nat) : Int) := by unfold wrap64; omega
  have hle1 : (txt f 4).length - 1 ≤ (txt f 4).length := by omega
  have hem : (txt f 4).isEmpty = false := by simpa using hne
  have hcd : isD (UInt8.ofNat M) = (decide (48 ≤ M) && decide (M ≤ 57)) := by
    unfold isD
    rw [show (UInt8.ofNat M).toNat = M by simp [UInt8.toNat_ofNat']; omega]
  rw [hcd] at MP
  have HP1 : Hid (parse (txt f 4 ++ [UInt8.ofNat M]) = (zero, 15) ∨ ((decide (48 ≤ M) && decide (M ≤ 57)) = true ∧ (parse (txt f 4 ++ [UInt8.ofNat M]) = (zero, 15) ∨ parse (txt f 4 ++ [UInt8.ofNat M]) = (zero, 2) ∨ ∃ q, parse (txt f 4 ++ [UInt8.ofNat M]) = (q, 0) ∧ q ≠ f))) := Lib.hid (MP.imp id fun h => ⟨h.1, other_cases h.2⟩)
  generalize parse (txt f 4 ++ [UInt8.ofNat M]) = R1 at *
  generalize parse ((txt f 4).take ((txt f 4).length - 1)) = R2 at *
  obtain ⟨x, ex⟩ := R1
  obtain ⟨y, ey⟩ := R2
  unfold ParR at PM PL
  dsimp only at PM PL
  generalize UInt8.ofNat M = mc at *
  generalize txt f 4 = s at *
  generalize s.length - 1 = L1 at *
  have HSL := Lib.hid (And.intro hex (And.intro hw1 hle1))
  have HADD := Lib.hid hadd
  clear hE hA hB hC hD wa wb wc wd wm MP SL hcd hex hw1 hle1 hadd hpos hne
  go_enter Tryd.func5, Tryd.ntmps5
  go_wp2_with fail
  refine (P1.out).mono ?_; rintro e w1 ⟨rfl, hb1⟩
  have B1 := Lib.hid (hb1.alloc hb1.size (.cells #[.int .i64 f.a, .int .i64 f.b, .int .i64 f.c, .int .i64 f.d] 25))
  have X1 := Lib.hid (block_new w1 (.cells #[.int .i64 f.a, .int .i64 f.b, .int .i64 f.c, .int .i64 f.d] 25))
  have P2 := Lib.hid (PT.out _ B1.out)
  clear hb1 P1 PT
  go_wp2_with fail
  refine (P2.out).mono ?_; rintro e w2 ⟨rfl, hb2⟩
  have hcv2 := hcv w2
  have hadd := HADD.out
  have hb2' := hb2.alloc hb2.size (.cells #[.int .u8 (M : Int)] 5)
  have B2 := Lib.hid (B1.out.trans (hb2'.mono B1.out.size))
  have X2 := Lib.hid ((hb2'.block _ (lt_of_block X1.out)).trans X1.out)
  have P3 := Lib.hid (PM.out _ B2.out)
  clear hb2 hb2' P2 PM X1 hcv
  go_wp2_with fail
  refine (P3.out).mono ?_; rintro e w3 ⟨rfl, hb3⟩
  have hb3' := hb3.alloc hb3.size (.cells #[.int .i64 x.a, .int .i64 x.b, .int .i64 x.c, .int .i64 x.d] 25)
  have B3 := Lib.hid (B2.out.trans (hb3'.mono B2.out.size))
  have X3 := Lib.hid ((hb3'.block _ (lt_of_block X2.out)).trans X2.out)
  have Y3 := Lib.hid (block_new w3 (.cells #[.int .i64 x.a, .int .i64 x.b, .int .i64 x.c, .int .i64 x.d] 25))
  have P4 := Lib.hid (PL.out _ B3.out)
  obtain ⟨hex, hw1, hle1⟩ := HSL.out
  clear hb3 hb3' P3 X2 hcv2 hadd HADD HSL PL
  go_wp2_with fail
  refine (P4.out).mono ?_; rintro e w4 ⟨rfl, hb4⟩
  have hb4' := hb4.alloc hb4.size (.cells #[.int .i64 y.a, .int .i64 y.b, .int .i64 y.c, .int .i64 y.d] 25)
  have B4 := Lib.hid (B3.out.trans (hb4'.mono B3.out.size))
  have X4 := Lib.hid ((hb4'.block _ (lt_of_block X3.out)).trans X3.out)
  have Y4 := Lib.hid ((hb4'.block _ (lt_of_block Y3.out)).trans Y3.out)
  have Z4 := Lib.hid (block_new w4 (.cells #[.int .i64 y.a, .int .i64 y.b, .int .i64 y.c, .int .i64 y.d] 25))
  clear hb4 hb4' P4 X3 Y3 hex hw1 hle1
  go_upto_region 7 with fail
  generalize w4.alloc (.cells #[.int .i64 y.a, .int .i64 y.b, .int .i64 y.c, .int .i64 y.d] 25) = W at *
  have W4 := Lib.hid (works_any (HE.out.below B4.out))
  go_cut [18] (fun s18 wx => s18 = .bool (decide (48 ≤ M) && decide (M ≤ 57)) ∧ wx = W)
  case first =>
    clear HP1 LP W4 X4 Y4 Z4 B4
    have hd : M < 48 ∨ 57 < M ∨ (48 ≤ M ∧ M ≤ 57) := by omega
    rcases hd with h | h | ⟨h, h'⟩
    · have e1 : decide (48 ≤ M) = false := by simp; omega
      have e2 : decide ((48 : Int) ≤ (M : Int)) = false := by simp; omega
      clear h
      go_wp2_with fail
      go_meet
      exact ⟨by simp [e1], rfl⟩
    · have e1 : decide (48 ≤ M) = true := by simp; omega
      have e2 : decide ((48 : Int) ≤ (M : Int)) = true := by simp; omega
      have e3 : decide (M ≤ 57) = false := by simp; omega
      have e4 : decide ((M : Int) ≤ 57) = false := by simp; omega
      clear h
      go_wp2_with fail
      go_meet
      exact ⟨by simp [e1, e3], rfl⟩
    · have e1 : decide (48 ≤ M) = true := by simp; omega
      have e2 : decide ((48 : Int) ≤ (M : Int)) = true := by simp; omega
      have e3 : decide (M ≤ 57) = true := by simp; omega
      have e4 : decide ((M : Int) ≤ 57) = true := by simp; omega
      clear h h'
      go_wp2_with fail
      go_meet
      exact ⟨by simp [e1, e3], rfl⟩
  case rest =>
    obtain ⟨rfl, hwx⟩ := hcut
    have hwx2 := hwx.symm
    clear hwx
    subst hwx2
    generalize (decide (48 ≤ M) && decide (M ≤ 57)) = dg at *
    obtain ⟨f0, f1, f2, f3⟩ := At4.of X4.out
    obtain ⟨x0, x1, x2, x3⟩ := At4.of Y4.out
    obtain ⟨y0, y1, y2, y3⟩ := At4.of Z4.out
    have B5 := Lib.hid B4.out
    clear X4 Y4 Z4 B4 HE FO FW
    go_upto_region 8 with fail
    go_cut [86] (fun s86 wx => s86 = .bool false ∧ wx = W)
    case first =>
      have hp := HP1.out
      clear HP1 LP W4 B5 y0 y1 y2 y3
      have hcs : (x = zero ∧ ex = 15) ∨ (dg = true ∧ x = zero ∧ ex = 2) ∨ (dg = true ∧ ex = 0 ∧ x ≠ f) := by
        rcases hp with h | ⟨h0, h | h | ⟨q, h, h1⟩⟩
        · exact Or.inl (Prod.mk.inj h)
        · exact Or.inl (Prod.mk.inj h)
        · exact Or.inr (Or.inl ⟨h0, Prod.mk.inj h⟩)
        · obtain ⟨e1, e2⟩ := Prod.mk.inj h
          exact Or.inr (Or.inr ⟨h0, e2, by rw [e1]; exact h1⟩)
      clear hp
      rcases hcs with ⟨rfl, rfl⟩ | ⟨rfl, rfl, rfl⟩ | ⟨rfl, rfl, hne⟩
      · simp only [zero] at *
        cases dg
        all_goals
          go_wp2_with fail
          go_meet
          exact ⟨rfl, rfl⟩
      · simp only [zero] at *
        go_wp2_with fail
        go_meet
        exact ⟨rfl, rfl⟩
      · have hc := cf_ne hne
        clear hne
        rcases hc with h0 | ⟨h0, h1⟩ | ⟨h0, h1, h2⟩ | ⟨h0, h1, h2, h3⟩
        all_goals
          go_wp2_with fail
          go_meet
          exact ⟨rfl, rfl⟩
    case rest =>
      obtain ⟨rfl, rfl⟩ := hcut
      have hp := LP.out
      clear HP1 LP x0 x1 x2 x3
      have hcs : (y = zero ∧ ey = 15) ∨ (y = zero ∧ ey = 2) ∨ (ey = 0 ∧ y ≠ f) := by
        rcases hp with h | h | ⟨q, h, h1⟩
        · exact Or.inl (Prod.mk.inj h)
        · exact Or.inr (Or.inl (Prod.mk.inj h))
        · obtain ⟨e1, e2⟩ := Prod.mk.inj h
          exact Or.inr (Or.inr ⟨e2, by rw [e1]; exact h1⟩)
      clear hp
      rcases hcs with ⟨rfl, rfl⟩ | ⟨rfl, rfl⟩ | ⟨rfl, hne⟩
      · go_wp2_with fail
        refine (W4.out).mono ?_; rintro e w9 ⟨rfl, hb9⟩
        have B9 := Lib.hid (B5.out.trans (hb9.mono B5.out.size))
        clear hb9 W4
        go_wp2_with fail
        go_ret
        exact ⟨rfl, B9.out⟩
      · go_wp2_with fail
        refine (W4.out).mono ?_; rintro e w9 ⟨rfl, hb9⟩
        have B9 := Lib.hid (B5.out.trans (hb9.mono B5.out.size))
        clear hb9 W4
        go_wp2_with fail
        go_ret
        exact ⟨rfl, B9.out⟩
      · have hc := cf_ne hne
        clear hne
        rcases hc with h0 | ⟨h0, h1⟩ | ⟨h0, h1, h2⟩ | ⟨h0, h1, h2, h3⟩
        all_goals
          go_wp2_with fail
          refine (W4.out).mono ?_; rintro e w9 ⟨rfl, hb9⟩
          have B9 := Lib.hid (B5.out.trans (hb9.mono B5.out.size))
          clear hb9 W4
          go_wp2_with fail
          go_ret
          exact ⟨rfl, B9.out⟩
end Go.Proofs.YtabihdhgonnihaaDoor

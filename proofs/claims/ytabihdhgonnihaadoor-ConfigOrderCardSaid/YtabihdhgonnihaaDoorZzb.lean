/- ConfigAgain: the walk. -/
import Derived.Test.YtabihdhgonnihaaDoorZza
import Derived.Test.YtabihdhgonnihaaDoorZb
import Derived.Test.YtabihdhgonnihaaDoorZs
namespace Go.Proofs.YtabihdhgonnihaaDoor
open Go.ChangeShapes Go.WideShapes Go.ChangeAt Go.RowKit
set_option linter.unusedVariables false
set_option linter.unusedSimpArgs false

theorem ne_nil (g : Nat) (w : World) : (binOp .eql 31 (.slice (some ⟨g, 0, none⟩) 4 4) (.slice none 0 0)).run Tryd.prog w = .ok (.bool false) w := by
  simp [binOp, run_equal_slice_nil (P := Tryd.prog) w 31 9 (some ⟨g, 0, none⟩) 4 4 Tryd.underlying31]
theorem settings_call {w : World} (h : Env w) {s : Str} (hs : s.length < 1000000) (h4 : (sp s).length = 4) : Calls Tryd.prog 16 #[.string ⟨s.toArray⟩] w fun e w' => e = .returned (.slice (some ⟨w.heap.size, 0, none⟩) 4 4) ∧ w' = w.alloc (.cells (strs (sp s)) 9) := by
  have P := Lib.hid (split_call h s hs)
  rw [h4] at P
  clear h hs h4
  go_enter Tryd.func16, Tryd.ntmps16
  go_wp2_with fail
  refine (P.out).mono ?_; rintro e w1 ⟨rfl, hw1⟩
  have HW := Lib.hid hw1
  clear hw1 P
  go_wp2_with fail
  go_ret
  exact ⟨rfl, HW.out⟩
theorem strs_cell {w : World} {g : Nat} {t : TypeId} {f : Nat × Nat} {l : List Str} (h : w.heap[g]? = some (.cells (strs l) t f)) {i : Nat} (hi : i < l.length) : w.cell? ⟨g, i, none⟩ = some (.string ⟨(l[i]).toArray⟩) := by
  rw [cell_of h]; simp [strs, hi]
set_option maxRecDepth 100000 in
set_option maxHeartbeats 40000000 in
theorem again_walk (s0 : ByteArray) (w : World) (h : Env w) : Calls Tryd.prog 12 #[.string s0] w fun e w' => e = .returned (.bool true) ∧ Below w.heap.size w w' := by
  obtain ⟨s, rfl⟩ := str_cases s0
  by_cases hl : 300 < s.length
  · have W := Lib.hid (works_any h)
    have e1 : decide ((300 : Int) < (s.length : Int)) = true := by simp; omega
    have e2 : decide (300 < s.length) = true := by simpa using hl
    clear h hl
    go_enter Tryd.func12, Tryd.ntmps12
    go_wp2_with fail
    refine (W.out).mono ?_; rintro e w1 ⟨rfl, hb⟩
    have B := Lib.hid hb
    clear hb
    go_wp2_with fail
    go_ret
    exact ⟨rfl, B.out⟩
  · have e1 : decide ((300 : Int) < (s.length : Int)) = false := by simp; omega
    have e2 : decide (300 < s.length) = false := by simpa using hl
    have P1 := Lib.hid (pparse h (s := s) (by omega))
    have HE := Lib.hid h
    have HL : Hid (s.length ≤ 300) := Lib.hid (by omega)
    have WK := Lib.hid (fun w' (hb : Below w.heap.size w w') => works_any (h.below hb))
    have hcod := parse_codes s
    have AP := Lib.hid (fun f (h1 : parse s = (f, 0)) (h2 : s ≠ []) => again_plain h1 h2)
    have FO : Hid (parse s).1.ok := Lib.hid parseR_ok
    clear h hl
    rcases hcod with ⟨f, hp⟩ | hp | hp
    · have hw : wrong f < 0 := by
        have h2 := hp
        unfold parse parseR at h2
        split at h2
        · cases (Prod.mk.inj h2).2
        · rename_i q hq
          split at h2
          · rename_i hww; obtain rfl := (Prod.mk.inj h2).1; exact hww
          · cases (Prod.mk.inj h2).2
      have HW := Lib.hid hw
      have HP := Lib.hid hp
      rw [hp] at P1 FO
      unfold ParR at P1
      dsimp only at P1 FO
      have PT := Lib.hid (fun w' (hb : Below w.heap.size w w') => ptext_ok (HE.out.below hb) f FO.out HW.out)
      have PQ := Lib.hid (fun w' (hb : Below w.heap.size w w') => pparse (HE.out.below hb) (s := txt f 4) (by have := txt_short FO.out; omega))
      rw [parse_txt HW.out] at PQ
      unfold ParR at PQ
      dsimp only at PQ
      have hsp4 : sp (txt f 4) = [st f 0, st f 1, st f 2, st f 3] := by
        have := parts_txt HW.out
        unfold parts at this
        rwa [if_neg (text_ne f)] at this
      have PS := Lib.hid (fun w' (hb : Below w.heap.size w w') => settings_call (HE.out.below hb) (s := txt f 4) (by have := txt_short FO.out; omega) (by rw [hsp4]; rfl))
      rw [hsp4] at PS
      have PC := Lib.hid (fun w' (hb : Below w.heap.size w w') => pcheck (HE.out.below hb) f FO.out)
      rw [chk_nil HW.out] at PC
      generalize txt f 4 = t at *
      clear hp hw hsp4
      go_enter Tryd.func12, Tryd.ntmps12
      go_wp2_with fail
      refine (P1.out).mono ?_; rintro e w1 ⟨rfl, hb1⟩
      have B1 := Lib.hid (hb1.alloc hb1.size (.cells #[.int .i64 f.a, .int .i64 f.b, .int .i64 f.c, .int .i64 f.d] 25))
      have X1 := Lib.hid (block_new w1 (.cells #[.int .i64 f.a, .int .i64 f.b, .int .i64 f.c, .int .i64 f.d] 25))
      have Q2 := Lib.hid (PT.out _ B1.out)
      clear hb1 P1 PT
      go_wp2_with fail
      refine (Q2.out).mono ?_; rintro e w2 ⟨rfl, hb2⟩
      have B2 := Lib.hid (B1.out.trans (hb2.mono B1.out.size))
      have X2 := Lib.hid ((hb2.block _ (lt_of_block X1.out)).trans X1.out)
      have Q3 := Lib.hid (PQ.out _ B2.out)
      clear hb2 Q2 PQ X1
      go_wp2_with fail
      refine (Q3.out).mono ?_; rintro e w3 ⟨rfl, hb3⟩
      have hb3' := hb3.alloc hb3.size (.cells #[.int .i64 f.a, .int .i64 f.b, .int .i64 f.c, .int .i64 f.d] 25)
      have B3 := Lib.hid (B2.out.trans (hb3'.mono B2.out.size))
      have X3 := Lib.hid ((hb3'.block _ (lt_of_block X2.out)).trans X2.out)
      have Y3 := Lib.hid (block_new w3 (.cells #[.int .i64 f.a, .int .i64 f.b, .int .i64 f.c, .int .i64 f.d] 25))
      have Q4 := Lib.hid (PS.out _ B3.out)
      clear hb3 hb3' Q3 PS X2
      go_wp2_with fail
      refine (Q4.out).mono ?_; rintro e w4 ⟨rfl, hw4⟩
      have hb4 : Below (w3.alloc (.cells #[.int .i64 f.a, .int .i64 f.b, .int .i64 f.c, .int .i64 f.d] 25)).heap.size (w3.alloc (.cells #[.int .i64 f.a, .int .i64 f.b, .int .i64 f.c, .int .i64 f.d] 25)) w4 := by rw [hw4]; exact Below.alloc (Below.refl _ _) (Nat.le_refl _) _
      have G4 : Hid (w4.heap[(w3.alloc (.cells #[.int .i64 f.a, .int .i64 f.b, .int .i64 f.c, .int .i64 f.d] 25)).heap.size]? = some (.cells (strs [st f 0, st f 1, st f 2, st f 3]) 9 (0, 0))) := Lib.hid (by rw [hw4]; exact block_new _ _)
      have B4 := Lib.hid (B3.out.trans (hb4.mono B3.out.size))
      have X4 := Lib.hid ((hb4.block _ (lt_of_block X3.out)).trans X3.out)
      have Y4 := Lib.hid ((hb4.block _ (lt_of_block Y3.out)).trans Y3.out)
      have Q5 := Lib.hid (PC.out _ B4.out)
      generalize (w3.alloc (.cells #[.int .i64 f.a, .int .i64 f.b, .int .i64 f.c, .int .i64 f.d] 25)).heap.size = g4 at *
      obtain ⟨x0, x1, x2, x3⟩ := At4.of X4.out
      obtain ⟨y0, y1, y2, y3⟩ := At4.of Y4.out
      have hnil := ne_nil g4 w4
      clear hw4 hb4 Q4 X3 Y3 PC
      go_wp2_with fail
      refine (Q5.out).mono ?_; rintro e w5 ⟨rfl, hb5⟩
      have B5 := Lib.hid (B4.out.trans (hb5.mono B4.out.size))
      have X5 := Lib.hid ((hb5.block _ (lt_of_block X4.out)).trans X4.out)
      have G5 := Lib.hid ((hb5.block _ (lt_of_block G4.out)).trans G4.out)
      clear hb5 Q5 X4 Y4 G4 x0 x1 x2 x3 y0 y1 y2 y3
      by_cases hs : s = []
      · subst hs
        rw [parse_empty] at HP
        obtain rfl : dflt = f := (Prod.mk.inj HP.out).1
        have C1 : Hid (∀ w', Below w5.heap.size w5 w' → Calls Tryd.prog 14 #[] w' fun e w'' => e = .returned (.agg #[.int .i64 60, .int .i64 1024, .int .i64 1024, .int .i64 1024]) ∧ Below w5.heap.size w5 w'') := Lib.hid (fun w' hb => (pdefault w').mono fun e w'' ⟨h1, h2⟩ => ⟨h1, hb.trans (h2.mono hb.size)⟩)
        have C2 : Hid (∀ w', Below w5.heap.size w5 w' → Calls Tryd.prog 21 #[] w' fun e w'' => e = .returned (.bool true) ∧ Below w5.heap.size w5 w'') := Lib.hid (fun w' hb => (WK.out w' (B5.out.trans (hb.mono B5.out.size))).mono fun e w'' ⟨h1, h2⟩ => ⟨h1, hb.trans ((h2).mono hb.size)⟩)
        have KK := Lib.hid (fun w' (hb : Below w5.heap.size w5 w') => (At4.of X5.out).keep (lt_of_block X5.out) hb)
        obtain ⟨x0, x1, x2, x3⟩ := KK.out w5 (Below.refl _ _)
        have BR := Below.refl w5.heap.size w5
        simp only [dflt] at x0 x1 x2 x3 KK
        go_upto_region 12 with fail
        go_region_held3 (fun w' => w'.cell? ⟨w1.heap.size, 0, none⟩ = some (.int .i64 60) ∧ w'.cell? ⟨w1.heap.size, 1, none⟩ = some (.int .i64 1024) ∧ w'.cell? ⟨w1.heap.size, 2, none⟩ = some (.int .i64 1024) ∧ w'.cell? ⟨w1.heap.size, 3, none⟩ = some (.int .i64 1024))
          (first | exact ⟨x0, x1, x2, x3⟩ | exact KK.out _ (by first | assumption | exact Below.drewR (by assumption)))
          (first
            | (go_at_call 14; refine (C1.out _ (by first | assumption | exact Below.drewR (by assumption))).mono ?_; rintro e w7 ⟨rfl, hb7⟩)
            | (go_at_call 21; refine (C2.out _ (by first | assumption | exact Below.drewR (by assumption))).mono ?_; rintro e w7 ⟨rfl, hb7⟩))
        all_goals
          go_wp2_with fail
          go_ret
          exact ⟨rfl, B5.out.trans (Below.mono (by first | assumption | exact Below.drewR (by assumption)) B5.out.size)⟩
      · have hem : s.isEmpty = false := by simpa using hs
        have AQ := Lib.hid ((AP.out f HP.out hs).2)
        have Q6 := Lib.hid (split_call (HE.out.below B5.out) s (by have := HL.out; omega))
        have SPL : Hid ((sp s).length ≤ 301) := Lib.hid (by have := (sp_len s).2; have := HL.out; omega)
        clear hs AP HP
        generalize sp s = ps at *
        go_wp2_with fail
        refine (Q6.out).mono ?_; rintro e w6 ⟨rfl, hw6⟩
        have hb6 : Below w5.heap.size w5 w6 := by rw [hw6]; exact Below.alloc (Below.refl _ _) (Nat.le_refl _) _
        have B6 := Lib.hid (B5.out.trans (hb6.mono B5.out.size))
        have G6 := Lib.hid ((hb6.block _ (lt_of_block G5.out)).trans G5.out)
        have Z6 : Hid (w6.heap[w5.heap.size]? = some (.cells (strs ps) 9 (0, 0))) := Lib.hid (by rw [hw6]; exact block_new _ _)
        have W6 := Lib.hid (WK.out _ B6.out)
        clear hw6 hb6 Q6 WK X5 G5
        go_wp2_with fail
        go_loopw [83] (fun v83 wr => ∃ (i : Nat), i ≤ ps.length ∧ v83 = .int .i64 (i : Int) ∧ wr = w6) (fun v83 _ => ps.length - (intOf v83).toNat)
        case atStart => exact ⟨0, by omega, rfl, rfl⟩
        case round =>
          obtain ⟨i, hi, rfl, hwr⟩ := hrel
          have hwr2 := hwr.symm
          clear hwr
          subst hwr2
          by_cases hlt : i < ps.length
          · have cx := strs_cell Z6.out hlt
            obtain ⟨j, hj, hpj⟩ := AQ.out ps[i] (List.getElem_mem hlt)
            rw [hpj] at cx
            have HJ := Lib.hid hj
            have hl5 := lt_of_block Z6.out
            have hl6 := lt_of_block G6.out
            clear hpj hj
            go_wp2_with fail
            clear cx
            go_loopw [12, 89] (fun v12 v89 wr => ∃ (k : Nat) (fb : Bool), k ≤ 4 ∧ v89 = .int .i64 (k : Int) ∧ v12 = .bool fb ∧ (j < k → fb = true) ∧ wr = w6) (fun _ v89 _ => 4 - (intOf v89).toNat)
            case atStart => exact ⟨0, false, by omega, rfl, rfl, fun h => absurd h (by omega), rfl⟩
            case round =>
              obtain ⟨k, fb, hk, rfl, rfl, hfb, hwr⟩ := hrel
              have hwr2 := hwr.symm
              clear hwr
              subst hwr2
              have HFB := Lib.hid hfb
              clear hfb
              by_cases hk4 : k < 4
              · have hki : (k : Int) < 4 := by omega
                have cy : w6.cell? ⟨g4, k, none⟩ = some (.string ⟨(st f k).toArray⟩) := by
                  have := strs_cell G6.out (i := k) hk4
                  rw [this]
                  have h4 : k = 0 ∨ k = 1 ∨ k = 2 ∨ k = 3 := by omega
                  rcases h4 with rfl | rfl | rfl | rfl <;> rfl
                have HK := Lib.hid hk4
                have HNX : Hid (∀ fb' : Bool, (fb = true → fb' = true) → (j = k → fb' = true) → j < k + 1 → fb' = true) := Lib.hid (fun fb' h1 h2 h3 => by
                  by_cases e : j = k
                  · exact h2 e
                  · exact h1 (HFB.out (by omega)))
                by_cases hxy : st f j = st f k
                · rw [← hxy] at cy
                  have hself : (st f j == st f j) = true := by simp
                  clear hxy hk
                  generalize st f j = x at *
                  cases fb
                  all_goals
                    go_wp2_with fail
                    go_roundw
                    case rel => exact ⟨k + 1, true, by have := HK.out; omega, by go_num, rfl, fun _ => rfl, by first | rfl | trivial⟩
                    case measure => simp [intOf]; have := HK.out; omega
                · have hb : (st f j == st f k) = false := beq_str hxy
                  have HJK : Hid (¬ j = k) := Lib.hid (fun e => hxy (by rw [e]))
                  clear hxy hk
                  generalize st f j = x at *
                  generalize st f k = y at *
                  cases fb
                  · go_wp2_with fail
                    go_roundw
                    case rel => exact ⟨k + 1, false, by have := HK.out; omega, by go_num, rfl, HNX.out _ (fun h => h) (fun h => absurd h HJK.out), by first | rfl | trivial⟩
                    case measure => simp [intOf]; have := HK.out; omega
                  · go_wp2_with fail
                    go_roundw
                    case rel => exact ⟨k + 1, true, by have := HK.out; omega, by go_num, rfl, fun _ => rfl, by first | rfl | trivial⟩
                    case measure => simp [intOf]; have := HK.out; omega
              · have hk5 : k = 4 := by omega
                subst hk5
                obtain rfl : fb = true := HFB.out HJ.out
                have HLT := Lib.hid hlt
                have hwi : wrap64 ((i : Int) + 1) = ((i + 1 : Nat) : Int) := by have := SPL.out; unfold wrap64; omega
                clear hk hk4
                go_wp2_with fail
                go_roundw
                case rel => exact ⟨i + 1, by have := HLT.out; omega, by rw [hwi], by first | rfl | trivial⟩
                case measure => rw [hwi]; simp only [intOf, Int.toNat_natCast]; have := HLT.out; omega
          · have hi2 : i = ps.length := by omega
            have e5 : decide ((i : Int) < (ps.length : Int)) = false := by simp; omega
            have e6 : decide (i < ps.length) = false := by simp; omega
            clear hlt hi hi2
            go_wp2_with fail
            refine (W6.out).mono ?_; rintro e w9 ⟨rfl, hb9⟩
            have B9 := Lib.hid (B6.out.trans (hb9.mono B6.out.size))
            clear hb9 W6
            go_wp2_with fail
            go_ret
            exact ⟨rfl, B9.out⟩
    all_goals
      rw [hp] at P1
      unfold ParR at P1
      simp only [zero] at P1
      clear hp AP FO
      go_enter Tryd.func12, Tryd.ntmps12
      go_wp2_with fail
      refine (P1.out).mono ?_; rintro e w1 ⟨rfl, hb1⟩
      have B1 := Lib.hid (hb1.alloc hb1.size (.cells #[.int .i64 0, .int .i64 0, .int .i64 0, .int .i64 0] 25))
      have W1 := Lib.hid (WK.out _ B1.out)
      clear hb1 P1 WK
      go_wp2_with fail
      refine (W1.out).mono ?_; rintro e w9 ⟨rfl, hb9⟩
      have B9 := Lib.hid (B1.out.trans (hb9.mono B1.out.size))
      clear hb9 W1
      go_wp2_with fail
      go_ret
      exact ⟨rfl, B9.out⟩
end Go.Proofs.YtabihdhgonnihaaDoor

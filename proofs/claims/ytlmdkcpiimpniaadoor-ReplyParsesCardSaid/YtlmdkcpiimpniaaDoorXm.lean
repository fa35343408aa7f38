/- Parse of the document: ok with yes or no and numbers. -/
import Derived.Test.YtlmdkcpiimpniaaDoorXi
namespace Go.Proofs.YtlmdkcpiimpniaaDoor
open Go.ChangeShapes Go.WideShapes Go.ChangeAt Go.RowKit
set_option linter.unusedVariables false
set_option linter.unusedSimpArgs false

set_option maxRecDepth 100000 in
set_option maxHeartbeats 16000000 in
theorem rparse_e {w : World} {s : Str} (hs : s.length ≤ 100000) {K : Nat} (hK : K < 16) (hO : opv ((sp s).getD 0 []) 16 = (K : Int)) {IDS : List Nat} {NUMS : List Int} (hl1 : IDS.length ≤ 1000000) (hl2 : NUMS.length ≤ 1000000) {R : Option Rp} (hn0 : 3 ≤ (sp s).length) (h1 : (sp s).getD 1 [] = okW) {Y0 : Bool} (h2 : ((sp s).getD 2 [] == yesW) = Y0) (ha : asksK K = true) (hs : 0 < ki K + en K) (hRES : (IDS, NUMS) = lsG (ki K) (en K) 0 ((sp s).drop 3) ([], [])) (hI : RpIn ⟨(K : Int), 0, Y0, IDS, NUMS⟩) (hR : R = pick s ⟨(K : Int), 0, Y0, IDS, NUMS⟩) :
    Calls Tryd.prog 26 #[.string ⟨s.toArray⟩] w (PaS w R) := by
  have A1 := Lib.hid (Below.alloc (Below.refl w.heap.size w) (Nat.le_refl _) (.cells #[.int .i64 0, .int .i64 0, .bool false, .slice none 0 0, .slice none 0 0] 27))
  have X1 := Lib.hid (block_new w (.cells #[.int .i64 0, .int .i64 0, .bool false, .slice none 0 0, .slice none 0 0] 27))
  have PS := Lib.hid (rsplit s (by omega) (w.alloc (.cells #[.int .i64 0, .int .i64 0, .bool false, .slice none 0 0, .slice none 0 0] 27)))
  have HWL : Hid (∀ i, ((sp s).getD i []).length ≤ 100000) := Lib.hid (fun i => by
    rw [List.getD_eq_getElem?_getD]
    cases hh : (sp s)[i]? with
    | none => simp
    | some x => have := sp_word s x (List.mem_of_getElem? hh); show x.length ≤ 100000; omega)
  have HLN := Lib.hid (sp_len s)
  have HSZ : Hid ((w.alloc (.cells #[.int .i64 0, .int .i64 0, .bool false, .slice none 0 0, .slice none 0 0] 27)).heap.size = w.heap.size + 1) := Lib.hid (by simp)
  obtain ⟨ws, hws⟩ : ∃ ws, ws = sp s := ⟨_, rfl⟩
  rw [← hws] at PS HWL HLN
  have HWS := Lib.hid hws
  have HR := Lib.hid hR
  have HI := Lib.hid hI
  rw [← hws] at hO
  have HO := Lib.hid hO
  obtain ⟨i28, a28, a28z, a28s, a28b⟩ := info_parts info28
  obtain ⟨i2, a2, a2z, a2s, a2b⟩ := info_parts info2
  rw [← hws] at h2
  have HY2 := Lib.hid h2
  clear h2
  rw [← hws] at h1 hn0 hRES
  have HW1 := Lib.hid h1
  have HN0 := Lib.hid hn0
  have HA := Lib.hid ha
  have HRES := Lib.hid hRES
  obtain ⟨hki7, hen7⟩ := kin_le hK
  have hS0 : 0 < ki K + en K := hs
  clear h1 hn0 ha hRES hs
  clear hR hI hO hws
  go_enter Tryd.func26, Tryd.ntmps26
  go_wp2_with fail
  refine (PS.out).mono ?_; rintro e w1 ⟨v, rfl, ho, hb1⟩
  have B1 := Lib.hid (A1.out.trans (hb1.mono A1.out.size))
  have HX := Lib.hid ((hb1.block _ (lt_of_block X1.out)).trans X1.out)
  have hg1 : w.heap.size < w1.heap.size := by have := hb1.size; have := HSZ.out; omega
  obtain ⟨sa, sc, rfl⟩ := own_shape ho.row
  have hS := IsSl.of_own encS_len ho.row rfl
  obtain ⟨g, off, rfl, hgw, _⟩ := hS.at_ (fun e => by have := HLN.out.1; rw [e] at this; simp at this)
  have hsc := hS.hle; have hsm := hS.hmax
  unfold maxLen at hsm
  have SW := Lib.hid hS
  have HN1 := HLN.out
  obtain ⟨n, hn⟩ : ∃ n, ws.length = n := ⟨_, rfl⟩
  rw [hn] at hsc SW HN1 ⊢
  have HN := Lib.hid hn
  obtain ⟨hn1, hn2⟩ := HN1
  have hn0 : 0 < n := by omega
  have WC : Hid (∀ W, Below w1.heap.size w1 W → ∀ i, i < n → W.cell? ⟨g, off + i, none⟩ = some (.string ⟨(ws.getD i []).toArray⟩)) := Lib.hid (fun W hb i hi => sl_words (SW.out.below hb) hi)
  have R0 := Lib.hid (block_new w1 (.cells #[.int .i64 (-1), .int .i64 0, .bool false, .slice none 0 0, .slice none 0 0] 27))
  have B0 := Lib.hid (Below.alloc (Below.refl w1.heap.size w1) (Nat.le_refl _) (.cells #[.int .i64 (-1), .int .i64 0, .bool false, .slice none 0 0, .slice none 0 0] 27))
  clear ho hb1 hS PS hn A1 X1 SW
  go_wp2_with fail
  go_loopw [6] (fun v6 wr => OpRel w1 w1.heap.size (ws.getD 0 []) v6 wr) (fun v6 _ => 16 - (intOf v6).toNat)
  case atStart => exact ⟨0, Nat.zero_le _, rfl, R0.out, B0.out⟩
  case round =>
    obtain ⟨k, hk16, rfl, hbx, hb⟩ := hrel
    have BX := Lib.hid hbx; have B := Lib.hid hb
    have hbl := lt_of_block hbx
    have hgw2 : g < wr.heap.size := by have := hb.size; omega
    clear hbx hb R0 B0
    by_cases hlt : k < 16
    · have d1 : decide ((k : Int) ≤ 15) = true := by simp; omega
      have x0 : wr.cell? ⟨g, off, none⟩ = some (.string ⟨(ws.getD 0 []).toArray⟩) := WC.out wr B.out 0 (by omega)
      have KK := Lib.hid (fun W (hb : Below wr.heap.size wr W) => WC.out W (B.out.trans (hb.mono B.out.size)) 0 (by omega))
      have PK : Hid (∀ W, Below wr.heap.size wr W → Calls Tryd.prog 50 #[.int .i64 (k : Int)] W fun e w' => e = .returned (.string ⟨(kwS k).toArray⟩) ∧ Below wr.heap.size wr w') := Lib.hid (fun W hb => (rword hlt W).mono (fun e w' h => And.intro h.1 (hb.trans (h.2.mono hb.size))))
      have BR := Below.refl wr.heap.size wr
      by_cases hq : kwS k = ws.getD 0 []
      · have OP := Lib.hid (opv_yes hq)
        rw [hq] at PK
        generalize ws.getD 0 [] = W0 at *
        clear hq
        go_wp2_with fail
        go_region_held3 (fun w' => w'.cell? ⟨g, off, none⟩ = some (.string ⟨(W0 : Str).toArray⟩))
          (first | exact x0 | exact KK.out _ (by first | assumption | exact Below.drewR (by assumption)))
          ((go_at_call 50; refine (PK.out _ (by first | assumption | exact Below.drewR (by assumption))).mono ?_; rintro e w3 ⟨rfl, hb3⟩))
        have hx3 := (hb3.block _ hbl).trans BX.out
        have y0 : w3.cell? ⟨w1.heap.size, 0, none⟩ = some (.int .i64 (opv W0 k)) := cell_of hx3 0
        have yf : w3.frozen? ⟨w1.heap.size, 0, none⟩ = false := free_of hx3 0
        have B3 := Lib.hid ((B.out.trans (hb3.mono B.out.size)).setCell (p := ⟨w1.heap.size, 0, none⟩) (Nat.le_refl _) (.int .i64 (k : Int)))
        have R3 := Lib.hid (set_of hx3 0 (.int .i64 (k : Int)))
        clear hb3 PK x0 hx3
        go_wp2_with fail
        go_roundw
        case rel => exact ⟨k + 1, hlt, by go_num, by rw [OP.out]; exact R3.out, B3.out⟩
        case measure => simp [intOf]; omega
      · have OP := Lib.hid (opv_not hq)
        have dq : (ws.getD 0 [] == kwS k) = false := beq_false_of_ne (fun e => hq e.symm)
        generalize ws.getD 0 [] = W0 at *
        generalize kwS k = KW at *
        clear hq
        go_wp2_with fail
        go_region_held3 (fun w' => w'.cell? ⟨g, off, none⟩ = some (.string ⟨(W0 : Str).toArray⟩))
          (first | exact x0 | exact KK.out _ (by first | assumption | exact Below.drewR (by assumption)))
          ((go_at_call 50; refine (PK.out _ (by first | assumption | exact Below.drewR (by assumption))).mono ?_; rintro e w3 ⟨rfl, hb3⟩))
        have hx3 := (hb3.block _ hbl).trans BX.out
        have B3 := Lib.hid (B.out.trans (hb3.mono B.out.size))
        have R3 := Lib.hid hx3
        clear hb3 PK x0 hx3
        go_wp2_with fail
        go_roundw
        case rel => exact ⟨k + 1, hlt, by go_num, by rw [OP.out]; exact R3.out, B3.out⟩
        case measure => simp [intOf]; omega
    · have hk : k = 16 := by omega
      have d1 : decide ((k : Int) ≤ 15) = false := by simp; omega
      have BX : Hid (wr.heap[w1.heap.size]? = some (.cells #[.int .i64 (K : Int), .int .i64 0, .bool false, .slice none 0 0, .slice none 0 0] 27 (0, 0))) := Lib.hid (by have := BX.out; rw [hk, HO.out] at this; exact this)
      have BW := Lib.hid (B1.out.trans (B.out.mono B1.out.size))
      have XW := Lib.hid ((B.out.block _ (lt_of_block HX.out)).trans HX.out)
      clear hk hlt hk16 HX
      have hn1' : 1 < n := by have := HN0.out; have := HN.out; omega
      have d2 : decide ((K : Int) < 0) = false := by simp
      have d3 : decide ((n : Int) < 2) = false := by simp; omega
      have d3' : decide (n < 2) = false := by simp; omega
      have x1 : wr.cell? ⟨g, off + 1, none⟩ = some (.string ⟨(([111, 107] : Str)).toArray⟩) := by have h := WC.out wr B.out 1 hn1'; rw [HW1.out] at h; exact h
      have PA : Hid (∀ W, Calls Tryd.prog 52 #[.int .i64 (K : Int)] W fun e w' => e = .returned (.bool true) ∧ W = w') := Lib.hid (fun W => by have h := rasks (K : Int) W; rw [asks_eq (by omega), Int.toNat_natCast, HA.out] at h; exact h)
      have PE := Lib.hid (fun W => rentry hK W)
      have hn2' : 2 < n := by have := HN0.out; have := HN.out; omega
      have x2 : wr.cell? ⟨g, off + 2, none⟩ = some (.string ⟨(ws.getD 2 []).toArray⟩) := WC.out wr B.out 2 hn2'
      have hy2 : ((ws.getD 2 []) == ([121, 101, 115] : Str)) = Y0 := HY2.out
      generalize ws.getD 2 [] = W2 at *
      generalize ki K = I at *
      generalize en K = M at *
      have hat : 3 ≤ n := by omega
      have z0 : wr.cell? ⟨w1.heap.size, 0, none⟩ = some (.int .i64 (K : Int)) := cell_of BX.out 0
      have z1 : wr.cell? ⟨w1.heap.size, 1, none⟩ = some (.int .i64 0) := cell_of BX.out 1
      have z2 : wr.cell? ⟨w1.heap.size, 2, none⟩ = some (.bool false) := cell_of BX.out 2
      have z3 : wr.cell? ⟨w1.heap.size, 3, none⟩ = some (.slice none 0 0) := cell_of BX.out 3
      have z4 : wr.cell? ⟨w1.heap.size, 4, none⟩ = some (.slice none 0 0) := cell_of BX.out 4
      have zf : ∀ i, wr.frozen? ⟨w1.heap.size, i, none⟩ = false := fun i => free_of BX.out i
      have BXV : Hid ((wr.setCell ⟨w1.heap.size, 2, none⟩ (.bool Y0)).heap[w1.heap.size]? = some (.cells #[.int .i64 (K : Int), .int .i64 0, .bool Y0, .slice none 0 0, .slice none 0 0] 27 (0, 0))) := Lib.hid (set_of BX.out 2 _)
      have XV : Hid ((wr.setCell ⟨w1.heap.size, 2, none⟩ (.bool Y0)).heap[w.heap.size]? = some (.cells #[.int .i64 0, .int .i64 0, .bool false, .slice none 0 0, .slice none 0 0] 27 (0, 0))) := Lib.hid (block_set (p := ⟨w1.heap.size, 2, none⟩) XW.out (show w.heap.size ≠ w1.heap.size by omega) _)
      have BWV : Hid (Below w.heap.size w (wr.setCell ⟨w1.heap.size, 2, none⟩ (.bool Y0))) := Lib.hid (BW.out.setCell (p := ⟨w1.heap.size, 2, none⟩) (show w.heap.size ≤ w1.heap.size by omega) _)
      have BV0 : Hid (Below w1.heap.size w1 (wr.setCell ⟨w1.heap.size, 2, none⟩ (.bool Y0))) := Lib.hid (B.out.setCell (p := ⟨w1.heap.size, 2, none⟩) (Nat.le_refl _) (.bool Y0))
      go_wp2_with fail
      refine (PA.out _).mono ?_; rintro e w' ⟨rfl, rfl⟩
      clear PA
      go_wp2_with fail
      refine (PE.out _).mono ?_; rintro e w' ⟨rfl, rfl⟩
      clear PE BX XW BW x1 x2 z0 z1 z2 z3 z4 zf
      go_wp2_with fail
      generalize hV0 : wr.setCell ⟨w1.heap.size, 2, none⟩ (.bool Y0) = V0 at *
      clear hV0
      obtain ⟨RES, hRES⟩ : ∃ R : List Nat × List Int, R = (IDS, NUMS) := ⟨_, rfl⟩
      rw [← hRES] at HRES
      have HRS := Lib.hid hRES
      clear hRES
      have EBS : Hid (EnB V0 V0.heap.size w1.heap.size K Y0 (.slice none 0 0) (.slice none 0 0) [] [] V0) := Lib.hid ⟨BXV.out, nil_ids _ _, nil_nums _ _, fun g h => (by cases h), Touch.refl _ _⟩
      have hbG : w1.heap.size < V0.heap.size := lt_of_block BXV.out
      go_loopw [7, 10, 11] (fun v7 _ _ wx => PoRel V0 w1.heap.size K Y0 I M 3 n RES ws v7 wx) (fun v7 _ _ _ => n - (intOf v7).toNat)
      case atStart => exact ⟨3, 0, _, _, [], [], rfl, hat, rfl, EBS.out, HRES.out, Or.inl (Nat.zero_mod _), Nat.le_refl _, Nat.le_refl _⟩
      case round =>
        obtain ⟨p, i, v3, v4, ids, nums, hpi, hpn, rfl, hB, hR7, hm, l1, l2⟩ := hrel
        have HPI := Lib.hid hpi
        clear EBS HRES hpi
        by_cases hge : n ≤ p
        · have hlt : ¬ p < n := by omega
          have HRE := Lib.hid (hR7.trans (lsG_end (by have := HN.out; omega)))
          have HPB : Hid (PbRel w1 K 0 Y0 IDS NUMS wr) := Lib.hid (pb_end hB BV0.out (HRE.out.symm.trans HRS.out))
          have BWV := Lib.hid (BWV.out.trans (hB.touch.below BWV.out.size (fun k hk e => by omega)))
          have XV : Hid (wr.heap[w.heap.size]? = some (.cells #[.int .i64 0, .int .i64 0, .bool false, .slice none 0 0, .slice none 0 0] 27 (0, 0))) := Lib.hid (hB.touch.keep XV.out (by omega))
          clear hB hR7 hm l1 l2 HRE HRS BV0 BXV hbG
          obtain ⟨a3, c3, a4, c4, hbx, o3, o4, hbb⟩ := HPB.out
          clear HPB hbb
          obtain ⟨L3, hL3⟩ : ∃ m, IDS.length = m := ⟨_, rfl⟩
          obtain ⟨L4, hL4⟩ : ∃ m, NUMS.length = m := ⟨_, rfl⟩
          rw [hL3] at hbx o3
          rw [hL4] at hbx o4
          have HN3 := Lib.hid hL3
          have HN4 := Lib.hid hL4
          have BXV := Lib.hid hbx
          have O3V := Lib.hid o3
          have O4V := Lib.hid o4
          clear hL3 hL4 hbx o3 o4
          have z0 : wr.cell? ⟨w1.heap.size, 0, none⟩ = some (.int .i64 (K : Int)) := cell_of BXV.out 0
          have z1 : wr.cell? ⟨w1.heap.size, 1, none⟩ = some (.int .i64 0) := cell_of BXV.out 1
          have z2 : wr.cell? ⟨w1.heap.size, 2, none⟩ = some (.bool Y0) := cell_of BXV.out 2
          have z3 : wr.cell? ⟨w1.heap.size, 3, none⟩ = some (.slice a3 L3 c3) := cell_of BXV.out 3
          have z4 : wr.cell? ⟨w1.heap.size, 4, none⟩ = some (.slice a4 L4 c4) := cell_of BXV.out 4
          have zf : ∀ i, wr.frozen? ⟨w1.heap.size, i, none⟩ = false := fun i => free_of BXV.out i
          have PL := Lib.hid (line_any (ls_out (q := (⟨(K : Int), 0, Y0, IDS, NUMS⟩ : Rp)) HN3.out HN4.out O3V.out O4V.out) HI.out hl1 hl2)
          have PL : Hid (Calls Tryd.prog 24 #[.agg #[.int .i64 (K : Int), .int .i64 0, .bool Y0, .slice a3 L3 c3, .slice a4 L4 c4]] wr fun e w' => e = .returned (.tuple #[.string ⟨(lineZ (⟨(K : Int), 0, Y0, IDS, NUMS⟩ : Rp)).toArray⟩, .int .i64 (chk (⟨(K : Int), 0, Y0, IDS, NUMS⟩ : Rp))]) ∧ Below wr.heap.size wr w') := Lib.hid (by
            have h := PL.out
            dsimp only at h
            rw [HN3.out, HN4.out] at h
            exact h)
          by_cases h1 : chk (⟨(K : Int), 0, Y0, IDS, NUMS⟩ : Rp) = 0
          · by_cases h2 : lineS (⟨(K : Int), 0, Y0, IDS, NUMS⟩ : Rp) = s
            · have HRR2 := Lib.hid (HR.out.trans (pick_yes h1 h2))
              rw [show lineZ (⟨(K : Int), 0, Y0, IDS, NUMS⟩ : Rp) = s from (if_pos h1).trans h2, h1] at PL
              clear h1 h2 HR
              go_wp2_with fail
              refine (PL.out).mono ?_; rintro e w6 ⟨rfl, hb6⟩
              have B6 := Lib.hid (BWV.out.trans (hb6.mono BWV.out.size))
              have X6 := Lib.hid ((hb6.block _ (lt_of_block XV.out)).trans XV.out)
              have R6 := Lib.hid ((hb6.block _ (lt_of_block BXV.out)).trans BXV.out)
              have O6 := Lib.hid (And.intro (O3V.out.below hb6) (O4V.out.below hb6))
              clear hb6 PL z0 z1 z2 z3 z4 zf
              have y0 : w6.cell? ⟨w.heap.size, 0, none⟩ = some (.int .i64 0) := cell_of X6.out 0
              have y1 : w6.cell? ⟨w.heap.size, 1, none⟩ = some (.int .i64 0) := cell_of X6.out 1
              have y2 : w6.cell? ⟨w.heap.size, 2, none⟩ = some (.bool false) := cell_of X6.out 2
              have y3 : w6.cell? ⟨w.heap.size, 3, none⟩ = some (.slice none 0 0) := cell_of X6.out 3
              have y4 : w6.cell? ⟨w.heap.size, 4, none⟩ = some (.slice none 0 0) := cell_of X6.out 4
              have qf : ∀ i, w6.frozen? ⟨w.heap.size, i, none⟩ = false := fun i => free_of X6.out i
              have z0 : w6.cell? ⟨w1.heap.size, 0, none⟩ = some (.int .i64 (K : Int)) := cell_of R6.out 0
              have z1 : w6.cell? ⟨w1.heap.size, 1, none⟩ = some (.int .i64 0) := cell_of R6.out 1
              have z2 : w6.cell? ⟨w1.heap.size, 2, none⟩ = some (.bool Y0) := cell_of R6.out 2
              have z3 : w6.cell? ⟨w1.heap.size, 3, none⟩ = some (.slice a3 L3 c3) := cell_of R6.out 3
              have z4 : w6.cell? ⟨w1.heap.size, 4, none⟩ = some (.slice a4 L4 c4) := cell_of R6.out 4
              go_wp2_with fail
              have Q6 := Lib.hid (And.intro (out5 (x := w.heap.size) O6.out.1 hg1 (.int .i64 (K : Int)) (.int .i64 0) (.bool Y0) (.slice a3 L3 c3) (.slice a4 L4 c4)) (out5 (x := w.heap.size) O6.out.2 hg1 (.int .i64 (K : Int)) (.int .i64 0) (.bool Y0) (.slice a3 L3 c3) (.slice a4 L4 c4)))
              have h7 := set5 X6.out rfl (.int .i64 (K : Int)) (.int .i64 0) (.bool Y0) (.slice a3 L3 c3) (.slice a4 L4 c4)
              have B7 := Lib.hid (below5 (x := w.heap.size) B6.out (Nat.le_refl _) (.int .i64 (K : Int)) (.int .i64 0) (.bool Y0) (.slice a3 L3 c3) (.slice a4 L4 c4))
              clear y0 y1 y2 y3 y4 qf z0 z1 z2 z3 z4
              generalize hW6 : ((((w6.setCell ⟨w.heap.size, 0, none⟩ (.int .i64 (K : Int))).setCell ⟨w.heap.size, 1, none⟩ (.int .i64 0)).setCell ⟨w.heap.size, 2, none⟩ (.bool Y0)).setCell ⟨w.heap.size, 3, none⟩ (.slice a3 L3 c3)).setCell ⟨w.heap.size, 4, none⟩ (.slice a4 L4 c4) = W6 at *
              have y0 : W6.cell? ⟨w.heap.size, 0, none⟩ = some (.int .i64 (K : Int)) := cell_of h7 0
              have y1 : W6.cell? ⟨w.heap.size, 1, none⟩ = some (.int .i64 0) := cell_of h7 1
              have y2 : W6.cell? ⟨w.heap.size, 2, none⟩ = some (.bool Y0) := cell_of h7 2
              have y3 : W6.cell? ⟨w.heap.size, 3, none⟩ = some (.slice a3 L3 c3) := cell_of h7 3
              have y4 : W6.cell? ⟨w.heap.size, 4, none⟩ = some (.slice a4 L4 c4) := cell_of h7 4
              exact bodyPost_ret (v := .tuple #[.agg #[.int .i64 (K : Int), .int .i64 0, .bool Y0, .slice a3 L3 c3, .slice a4 L4 c4], .int .i64 0]) (by clear hW6 h7; simp [results, Tryd.results26, go_sem, y0, y1, y2, y3, y4]) rfl (pas_ok2 HRR2.out HN3.out HN4.out Q6.out.1 Q6.out.2 B7.out)
            · have HRR2 := Lib.hid (HR.out.trans (pick_not (fun h => h2 h.2)))
              have dS : (lineZ (⟨(K : Int), 0, Y0, IDS, NUMS⟩ : Rp) != s) = true := by rw [show lineZ (⟨(K : Int), 0, Y0, IDS, NUMS⟩ : Rp) = lineS (⟨(K : Int), 0, Y0, IDS, NUMS⟩ : Rp) from if_pos h1]; exact bne_iff_ne.2 h2
              have dS' : (lineZ (⟨(K : Int), 0, Y0, IDS, NUMS⟩ : Rp) == s) = false := by rw [show lineZ (⟨(K : Int), 0, Y0, IDS, NUMS⟩ : Rp) = lineS (⟨(K : Int), 0, Y0, IDS, NUMS⟩ : Rp) from if_pos h1]; exact beq_false_of_ne h2
              rw [h1] at PL
              generalize lineZ (⟨(K : Int), 0, Y0, IDS, NUMS⟩ : Rp) = SL at *
              clear h1 h2 HR
              go_wp2_with fail
              refine (PL.out).mono ?_; rintro e w6 ⟨rfl, hb6⟩
              have B6 := Lib.hid (BWV.out.trans (hb6.mono BWV.out.size))
              have X6 := Lib.hid ((hb6.block _ (lt_of_block XV.out)).trans XV.out)
              have R6 := Lib.hid ((hb6.block _ (lt_of_block BXV.out)).trans BXV.out)
              have O6 := Lib.hid (And.intro (O3V.out.below hb6) (O4V.out.below hb6))
              clear hb6 PL z0 z1 z2 z3 z4 zf
              have y0 : w6.cell? ⟨w.heap.size, 0, none⟩ = some (.int .i64 0) := cell_of X6.out 0
              have y1 : w6.cell? ⟨w.heap.size, 1, none⟩ = some (.int .i64 0) := cell_of X6.out 1
              have y2 : w6.cell? ⟨w.heap.size, 2, none⟩ = some (.bool false) := cell_of X6.out 2
              have y3 : w6.cell? ⟨w.heap.size, 3, none⟩ = some (.slice none 0 0) := cell_of X6.out 3
              have y4 : w6.cell? ⟨w.heap.size, 4, none⟩ = some (.slice none 0 0) := cell_of X6.out 4
              have qf : ∀ i, w6.frozen? ⟨w.heap.size, i, none⟩ = false := fun i => free_of X6.out i
              have z0 : w6.cell? ⟨w1.heap.size, 0, none⟩ = some (.int .i64 (K : Int)) := cell_of R6.out 0
              have z1 : w6.cell? ⟨w1.heap.size, 1, none⟩ = some (.int .i64 0) := cell_of R6.out 1
              have z2 : w6.cell? ⟨w1.heap.size, 2, none⟩ = some (.bool Y0) := cell_of R6.out 2
              have z3 : w6.cell? ⟨w1.heap.size, 3, none⟩ = some (.slice a3 L3 c3) := cell_of R6.out 3
              have z4 : w6.cell? ⟨w1.heap.size, 4, none⟩ = some (.slice a4 L4 c4) := cell_of R6.out 4
              go_wp2_with fail
              have h7 := set5 X6.out rfl (.int .i64 0) (.int .i64 0) (.bool false) (.slice none 0 0) (.slice none 0 0)
              have B7 := Lib.hid (below5 (x := w.heap.size) B6.out (Nat.le_refl _) (.int .i64 0) (.int .i64 0) (.bool false) (.slice none 0 0) (.slice none 0 0))
              clear y0 y1 y2 y3 y4 qf z0 z1 z2 z3 z4
              generalize hW6 : ((((w6.setCell ⟨w.heap.size, 0, none⟩ (.int .i64 0)).setCell ⟨w.heap.size, 1, none⟩ (.int .i64 0)).setCell ⟨w.heap.size, 2, none⟩ (.bool false)).setCell ⟨w.heap.size, 3, none⟩ (.slice none 0 0)).setCell ⟨w.heap.size, 4, none⟩ (.slice none 0 0) = W6 at *
              have y0 : W6.cell? ⟨w.heap.size, 0, none⟩ = some (.int .i64 0) := cell_of h7 0
              have y1 : W6.cell? ⟨w.heap.size, 1, none⟩ = some (.int .i64 0) := cell_of h7 1
              have y2 : W6.cell? ⟨w.heap.size, 2, none⟩ = some (.bool false) := cell_of h7 2
              have y3 : W6.cell? ⟨w.heap.size, 3, none⟩ = some (.slice none 0 0) := cell_of h7 3
              have y4 : W6.cell? ⟨w.heap.size, 4, none⟩ = some (.slice none 0 0) := cell_of h7 4
              exact bodyPost_ret (v := .tuple #[.agg #[.int .i64 0, .int .i64 0, .bool false, .slice none 0 0, .slice none 0 0], .int .i64 15]) (by clear hW6 h7; simp [results, Tryd.results26, go_sem, y0, y1, y2, y3, y4]) rfl (pas_bad HRR2.out B7.out)
          · have HRR2 := Lib.hid (HR.out.trans (pick_not (fun h => h1 h.1)))
            have dK : (chk (⟨(K : Int), 0, Y0, IDS, NUMS⟩ : Rp) != 0) = true := bne_iff_ne.2 h1
            generalize lineZ (⟨(K : Int), 0, Y0, IDS, NUMS⟩ : Rp) = SL at *
            generalize chk (⟨(K : Int), 0, Y0, IDS, NUMS⟩ : Rp) = CK at *
            clear h1 HR
            go_wp2_with fail
            refine (PL.out).mono ?_; rintro e w6 ⟨rfl, hb6⟩
            have B6 := Lib.hid (BWV.out.trans (hb6.mono BWV.out.size))
            have X6 := Lib.hid ((hb6.block _ (lt_of_block XV.out)).trans XV.out)
            have R6 := Lib.hid ((hb6.block _ (lt_of_block BXV.out)).trans BXV.out)
            have O6 := Lib.hid (And.intro (O3V.out.below hb6) (O4V.out.below hb6))
            clear hb6 PL z0 z1 z2 z3 z4 zf
            have y0 : w6.cell? ⟨w.heap.size, 0, none⟩ = some (.int .i64 0) := cell_of X6.out 0
            have y1 : w6.cell? ⟨w.heap.size, 1, none⟩ = some (.int .i64 0) := cell_of X6.out 1
            have y2 : w6.cell? ⟨w.heap.size, 2, none⟩ = some (.bool false) := cell_of X6.out 2
            have y3 : w6.cell? ⟨w.heap.size, 3, none⟩ = some (.slice none 0 0) := cell_of X6.out 3
            have y4 : w6.cell? ⟨w.heap.size, 4, none⟩ = some (.slice none 0 0) := cell_of X6.out 4
            have qf : ∀ i, w6.frozen? ⟨w.heap.size, i, none⟩ = false := fun i => free_of X6.out i
            have z0 : w6.cell? ⟨w1.heap.size, 0, none⟩ = some (.int .i64 (K : Int)) := cell_of R6.out 0
            have z1 : w6.cell? ⟨w1.heap.size, 1, none⟩ = some (.int .i64 0) := cell_of R6.out 1
            have z2 : w6.cell? ⟨w1.heap.size, 2, none⟩ = some (.bool Y0) := cell_of R6.out 2
            have z3 : w6.cell? ⟨w1.heap.size, 3, none⟩ = some (.slice a3 L3 c3) := cell_of R6.out 3
            have z4 : w6.cell? ⟨w1.heap.size, 4, none⟩ = some (.slice a4 L4 c4) := cell_of R6.out 4
            go_wp2_with fail
            have h7 := set5 X6.out rfl (.int .i64 0) (.int .i64 0) (.bool false) (.slice none 0 0) (.slice none 0 0)
            have B7 := Lib.hid (below5 (x := w.heap.size) B6.out (Nat.le_refl _) (.int .i64 0) (.int .i64 0) (.bool false) (.slice none 0 0) (.slice none 0 0))
            clear y0 y1 y2 y3 y4 qf z0 z1 z2 z3 z4
            generalize hW6 : ((((w6.setCell ⟨w.heap.size, 0, none⟩ (.int .i64 0)).setCell ⟨w.heap.size, 1, none⟩ (.int .i64 0)).setCell ⟨w.heap.size, 2, none⟩ (.bool false)).setCell ⟨w.heap.size, 3, none⟩ (.slice none 0 0)).setCell ⟨w.heap.size, 4, none⟩ (.slice none 0 0) = W6 at *
            have y0 : W6.cell? ⟨w.heap.size, 0, none⟩ = some (.int .i64 0) := cell_of h7 0
            have y1 : W6.cell? ⟨w.heap.size, 1, none⟩ = some (.int .i64 0) := cell_of h7 1
            have y2 : W6.cell? ⟨w.heap.size, 2, none⟩ = some (.bool false) := cell_of h7 2
            have y3 : W6.cell? ⟨w.heap.size, 3, none⟩ = some (.slice none 0 0) := cell_of h7 3
            have y4 : W6.cell? ⟨w.heap.size, 4, none⟩ = some (.slice none 0 0) := cell_of h7 4
            exact bodyPost_ret (v := .tuple #[.agg #[.int .i64 0, .int .i64 0, .bool false, .slice none 0 0, .slice none 0 0], .int .i64 15]) (by clear hW6 h7; simp [results, Tryd.results26, go_sem, y0, y1, y2, y3, y4]) rfl (pas_bad HRR2.out B7.out)
        · have hlt : p < n := by omega
          have HM : Hid (i % (I + M) = 0) := Lib.hid (hm.resolve_right (by omega))
          have EB1 := Lib.hid hB
          have HR1 := Lib.hid hR7
          have HL1 := Lib.hid (And.intro l1 l2)
          clear hB hR7 hm l1 l2
          have ds1 : decide ((0 : Int) < (I : Int) + (M : Int)) = true := by simp; omega
          go_wp2_with fail
          generalize wr = V1 at *
          go_loopw [7, 10] (fun v7 v10 wx => PiRel V0 w1.heap.size K Y0 I M p i n RES ws v7 v10 wx) (fun _ v10 _ => I - (intOf v10).toNat)
          case atStart => exact ⟨p, 0, _, _, ids, nums, rfl, Nat.zero_le _, hpn, rfl, rfl, EB1.out, HR1.out, HL1.out.1, HL1.out.2⟩
          case round =>
            obtain ⟨p2, j, v3, v4, ids, nums, hp2, hj, hp2n, rfl, rfl, hB, hR7, l1', l2'⟩ := hrel
            have HP2 := Lib.hid hp2
            clear EB1 HR1 HL1 hp2
            have hij2 : i + j ≤ n := by have := HPI.out; have := HP2.out; omega
            have EB := Lib.hid hB
            have HR7 := Lib.hid hR7
            have gs : V0.heap.size ≤ wr.heap.size := hB.touch.size
            have BW1 := Lib.hid (BV0.out.trans (hB.touch.below BV0.out.size (fun k hk e => by omega)))
            obtain ⟨a3, c3, rfl⟩ := own_shape hB.o3.row
            obtain ⟨a4, c4, rfl⟩ := own_shape hB.o4.row
            have x3 : wr.cell? ⟨w1.heap.size, 3, none⟩ = some (.slice a3 (ns ids).length c3) := cell_of hB.box 3
            have x4 : wr.cell? ⟨w1.heap.size, 4, none⟩ = some (.slice a4 nums.length c4) := cell_of hB.box 4
            have u3 : wr.frozen? ⟨w1.heap.size, 3, none⟩ = false := free_of hB.box 3
            have u4 : wr.frozen? ⟨w1.heap.size, 4, none⟩ = false := free_of hB.box 4
            have hl3 : (ns ids).length + 1 ≤ 1099511627776 := by rw [ns_len]; omega
            have hl4 : nums.length + 1 ≤ 1099511627776 := by omega
            have hwb := lt_of_block hB.box
            clear hB hR7
            generalize (ns ids).length = n3 at *
            generalize hn4 : nums.length = n4 at *
            have HN4' := Lib.hid hn4
            clear hn4
            by_cases hgo : j < I ∧ p2 < n
            · obtain ⟨hjI, hpn2⟩ := hgo
              have xw : wr.cell? ⟨g, off + p2, none⟩ = some (.string ⟨(ws.getD p2 []).toArray⟩) := WC.out wr BW1.out p2 hpn2
              have hwl := HWL.out p2
              have HNX : Hid (RES = lsG I M (i + (j + 1)) (ws.drop (p2 + 1)) (ids ++ [val 0 (ws.getD p2 [])], nums)) := Lib.hid (HR7.out.trans (lsG_id (by have := HN.out; omega) (by rw [mod_at HM.out (by omega)]; exact hjI)))
              have HL4 : Hid (ids.length + 1 ≤ i + (j + 1) ∧ nums.length ≤ i + (j + 1)) := Lib.hid (by rw [HN4'.out]; omega)
              have hUU := val_lt (ws.getD p2 []) 0 (by decide)
              clear l1' l2' HR7
              obtain ⟨W0, hW0⟩ : ∃ W, ws.getD p2 [] = W := ⟨_, rfl⟩
              rw [hW0] at xw hwl HNX hUU
              clear hW0
              have PV := Lib.hid (fun W => rvalue W0 (by omega) W)
              generalize val 0 W0 = U at *
              have O3 := Lib.hid EB.out.o3
              have O4 := Lib.hid EB.out.o4
              go_wp2_with fail
              go_region_law (first
                | (go_simp; go_at_call 57; refine (PV.out _).mono ?_; rintro e w' ⟨rfl, rfl⟩)
                | (refine step_app rfl (.tmp 99) (.tmp 105) 25 rfl 28 i28 .u64 8 Tryd.underlying25 a28 a28z a28s a28b (by decide) (by simp [Act.eval, Act.put]) O3.out gs (app_new wr _) (U : Int) (app_cell wr _ _) (by simp [Act.eval, Act.put]) (by rw [ns_len]; have := HL4.out; omega) ?_; intro v5 w5 k1 k2 k3 k4; have EN := Lib.hid (EB.out.idStep (x := U) rfl hbG gs k1 k2 k4); have hk5 := k2.keep EB.out.box (fun e => by have := O3.out.blk _ e; omega); have x5 : w5.cell? ⟨w1.heap.size, 3, none⟩ = some (.slice a3 n3 c3) := cell_of hk5 3; have u5 : w5.frozen? ⟨w1.heap.size, 3, none⟩ = false := free_of hk5 3; obtain ⟨a5, c5, rfl⟩ := own_shape k1.row; have hl5 := lt_of_cell x5; clear k1 k2 k3 k4 hk5; generalize (ns ids ++ [(U : Int)]).length = n5 at *))
              all_goals
                go_wp2_with fail
                go_roundw
                case rel => exact ⟨p2 + 1, j + 1, _, _, ids ++ [U], nums, by have := HP2.out; omega, hjI, hpn2, by go_num, by go_num, EN.out, HNX.out, by rw [List.length_append]; exact HL4.out.1, HL4.out.2⟩
                case measure => simp [intOf]; omega
            · by_cases hjI : j < I
              · have hpn2 : ¬ p2 < n := fun h => hgo ⟨hjI, h⟩
                clear hgo
                have HX : Hid (j = I ∨ p2 = n) := Lib.hid (Or.inr (by omega))
                have EB2 := EB
                have HR2 := HR7
                have HL2 : Hid (ids.length ≤ i + j ∧ nums.length ≤ i + j) := Lib.hid ⟨l1', by rw [HN4'.out]; exact l2'⟩
                clear EB HR7 x3 x4 u3 u4 hl3 hl4 BW1 HN4' gs hwb l1' l2'
                go_wp2_with fail
                generalize wr = V2 at *
                go_loopw [7, 11] (fun v7 v11 wx => PnRel V0 w1.heap.size K Y0 I M p2 (i + j) n RES ws v7 v11 wx) (fun _ v11 _ => M - (intOf v11).toNat)
                case atStart => exact ⟨p2, 0, _, _, ids, nums, rfl, Nat.zero_le _, hp2n, rfl, rfl, EB2.out, HR2.out, HL2.out.1, HL2.out.2⟩
                case round =>
                  obtain ⟨p3, j3, v3, v4, ids, nums, hp3, hj3, hp3n, rfl, rfl, hB, hR7, l1', l2'⟩ := hrel
                  have HP3E := Lib.hid hp3
                  clear EB2 HR2 HL2 hp3
                  have hij3 : i + j + j3 ≤ n := by have := HPI.out; have := HP2.out; have := HP3E.out; omega
                  have EB := Lib.hid hB
                  have HR7 := Lib.hid hR7
                  have gs : V0.heap.size ≤ wr.heap.size := hB.touch.size
                  have BW1 := Lib.hid (BV0.out.trans (hB.touch.below BV0.out.size (fun k hk e => by omega)))
                  obtain ⟨a3, c3, rfl⟩ := own_shape hB.o3.row
                  obtain ⟨a4, c4, rfl⟩ := own_shape hB.o4.row
                  have x3 : wr.cell? ⟨w1.heap.size, 3, none⟩ = some (.slice a3 (ns ids).length c3) := cell_of hB.box 3
                  have x4 : wr.cell? ⟨w1.heap.size, 4, none⟩ = some (.slice a4 nums.length c4) := cell_of hB.box 4
                  have u3 : wr.frozen? ⟨w1.heap.size, 3, none⟩ = false := free_of hB.box 3
                  have u4 : wr.frozen? ⟨w1.heap.size, 4, none⟩ = false := free_of hB.box 4
                  have hl3 : (ns ids).length + 1 ≤ 1099511627776 := by rw [ns_len]; omega
                  have hl4 : nums.length + 1 ≤ 1099511627776 := by omega
                  have hwb := lt_of_block hB.box
                  clear hB hR7
                  generalize (ns ids).length = n3 at *
                  generalize hn4 : nums.length = n4 at *
                  have HN4' := Lib.hid hn4
                  clear hn4
                  by_cases hgo : j3 < M ∧ p3 < n
                  · exfalso
                    have := HP3E.out
                    omega
                  · have HY : Hid (j3 = M ∨ p3 = n) := Lib.hid (by omega)
                    have HMX := Lib.hid (round_end HPI.out HP2.out HP3E.out (Or.inl HM.out) hlt HX.out HY.out hp2n hp3n hS0)
                    have HLX : Hid (ids.length ≤ i + j + j3 ∧ nums.length ≤ i + j + j3) := Lib.hid ⟨l1', by rw [HN4'.out]; exact l2'⟩
                    have HP3 : Hid (p3 = 3 + (i + j + j3)) := Lib.hid (by have := HPI.out; have := HP2.out; have := HP3E.out; omega)
                    clear x3 x4 u3 u4 hl3 hl4 BW1 HN4' gs hwb l1' l2' HY
                    by_cases hjM : j3 < M
                    · have hpn : ¬ p3 < n := fun h => hgo ⟨hjM, h⟩
                      clear hgo
                      go_wp2_with fail
                      go_roundw
                      case rel => exact ⟨p3, i + j + j3, _, _, ids, nums, HP3.out, hp3n, rfl, EB.out, HR7.out, HMX.out.1, HLX.out.1, HLX.out.2⟩
                      case measure => have := HMX.out.2; simp [intOf]; omega
                    · clear hgo
                      go_wp2_with fail
                      go_roundw
                      case rel => exact ⟨p3, i + j + j3, _, _, ids, nums, HP3.out, hp3n, rfl, EB.out, HR7.out, HMX.out.1, HLX.out.1, HLX.out.2⟩
                      case measure => have := HMX.out.2; simp [intOf]; omega
              · clear hgo
                have HX : Hid (j = I ∨ p2 = n) := Lib.hid (Or.inl (by omega))
                have EB2 := EB
                have HR2 := HR7
                have HL2 : Hid (ids.length ≤ i + j ∧ nums.length ≤ i + j) := Lib.hid ⟨l1', by rw [HN4'.out]; exact l2'⟩
                clear EB HR7 x3 x4 u3 u4 hl3 hl4 BW1 HN4' gs hwb l1' l2'
                go_wp2_with fail
                generalize wr = V2 at *
                go_loopw [7, 11] (fun v7 v11 wx => PnRel V0 w1.heap.size K Y0 I M p2 (i + j) n RES ws v7 v11 wx) (fun _ v11 _ => M - (intOf v11).toNat)
                case atStart => exact ⟨p2, 0, _, _, ids, nums, rfl, Nat.zero_le _, hp2n, rfl, rfl, EB2.out, HR2.out, HL2.out.1, HL2.out.2⟩
                case round =>
                  obtain ⟨p3, j3, v3, v4, ids, nums, hp3, hj3, hp3n, rfl, rfl, hB, hR7, l1', l2'⟩ := hrel
                  have HP3E := Lib.hid hp3
                  clear EB2 HR2 HL2 hp3
                  have hij3 : i + j + j3 ≤ n := by have := HPI.out; have := HP2.out; have := HP3E.out; omega
                  have EB := Lib.hid hB
                  have HR7 := Lib.hid hR7
                  have gs : V0.heap.size ≤ wr.heap.size := hB.touch.size
                  have BW1 := Lib.hid (BV0.out.trans (hB.touch.below BV0.out.size (fun k hk e => by omega)))
                  obtain ⟨a3, c3, rfl⟩ := own_shape hB.o3.row
                  obtain ⟨a4, c4, rfl⟩ := own_shape hB.o4.row
                  have x3 : wr.cell? ⟨w1.heap.size, 3, none⟩ = some (.slice a3 (ns ids).length c3) := cell_of hB.box 3
                  have x4 : wr.cell? ⟨w1.heap.size, 4, none⟩ = some (.slice a4 nums.length c4) := cell_of hB.box 4
                  have u3 : wr.frozen? ⟨w1.heap.size, 3, none⟩ = false := free_of hB.box 3
                  have u4 : wr.frozen? ⟨w1.heap.size, 4, none⟩ = false := free_of hB.box 4
                  have hl3 : (ns ids).length + 1 ≤ 1099511627776 := by rw [ns_len]; omega
                  have hl4 : nums.length + 1 ≤ 1099511627776 := by omega
                  have hwb := lt_of_block hB.box
                  clear hB hR7
                  generalize (ns ids).length = n3 at *
                  generalize hn4 : nums.length = n4 at *
                  have HN4' := Lib.hid hn4
                  clear hn4
                  by_cases hgo : j3 < M ∧ p3 < n
                  · obtain ⟨hjM, hpn2⟩ := hgo
                    have HIM : Hid (j = I) := Lib.hid (by
                      have := HP3E.out
                      rcases HX.out with h | h
                      · exact h
                      · omega)
                    have xw : wr.cell? ⟨g, off + p3, none⟩ = some (.string ⟨(ws.getD p3 []).toArray⟩) := WC.out wr BW1.out p3 hpn2
                    have hwl := HWL.out p3
                    have HNX : Hid (RES = lsG I M (i + j + (j3 + 1)) (ws.drop (p3 + 1)) (ids, nums ++ [sval (ws.getD p3 [])])) := Lib.hid (HR7.out.trans (lsG_num (by have := HN.out; omega) (by
                      have h0 := HM.out
                      rw [HIM.out, Nat.add_assoc, mod_at h0 (by omega)]
                      omega)))
                    have HL4 : Hid (ids.length ≤ i + j + (j3 + 1) ∧ nums.length + 1 ≤ i + j + (j3 + 1)) := Lib.hid (by rw [HN4'.out]; omega)
                    clear l1' l2' HR7
                    have hsr := sval_rng (ws.getD p3 [])
                    obtain ⟨W0, hW0⟩ : ∃ W, ws.getD p3 [] = W := ⟨_, rfl⟩
                    rw [hW0] at xw hwl HNX hsr
                    clear hW0
                    by_cases hm : ∃ l, W0 = 45 :: l
                    · obtain ⟨l, rfl⟩ := hm
                      rw [sval_minus] at HNX hsr
                      have PV := Lib.hid (fun W => rvalue l (by simp at hwl; omega) W)
                      have hix := ix_minus l
                      have hsl : ∀ W, (Instr.slice 9 (.string ⟨(45 :: l).toArray⟩) (some (.int .i64 1)) none none).run Tryd.prog W = .ok (.string ⟨l.toArray⟩) W := fun W => run_from_ (45 :: l) (i := 1) (by simp) W
                      have hw0 : 0 < (45 :: l).length := by simp
                      have hUU := val_lt l 0 (by decide)
                      generalize val 0 l = U at *
                      obtain ⟨W0, hW0⟩ : ∃ W : Str, 45 :: l = W := ⟨_, rfl⟩
                      rw [hW0] at xw hix hsl hw0 hwl
                      clear hW0
                      obtain ⟨X, hX⟩ : ∃ X, X = w64 (U : Int) := ⟨_, rfl⟩
                      have cv1 : IntKind.i64.wrap (U : Int) = X := (i64_w64 _).trans hX.symm
                      have cv2 : RowKit.wrap64 (U : Int) = X := (w64_wrap _).trans hX.symm
                      rw [← hX] at HNX hsr
                      obtain ⟨Y, hY⟩ : ∃ Y, Y = w64 (-X) := ⟨_, rfl⟩
                      have cv3 : IntKind.i64.wrap (-X) = Y := (i64_w64 _).trans hY.symm
                      have cv4 : RowKit.wrap64 (-X) = Y := (w64_wrap _).trans hY.symm
                      rw [← hY] at HNX hsr
                      clear hX hY
                      have O3 := Lib.hid EB.out.o3
                      have O4 := Lib.hid EB.out.o4
                      go_wp2_with fail
                      go_region_law (first
                        | (go_simp; go_at_call 57; refine (PV.out _).mono ?_; rintro e w' ⟨rfl, rfl⟩)
                        | (refine step_app rfl (.tmp 136) (.tmp 145) 23 rfl 2 i2 .i64 8 Tryd.underlying23 a2 a2z a2s a2b (by decide) (by simp [Act.eval, Act.put]) O4.out gs (app_new wr _) Y (app_cell wr _ _) (by simp [Act.eval, Act.put]) (by have := HL4.out; omega) ?_; intro v5 w5 k1 k2 k3 k4; have EN := Lib.hid (EB.out.numStep (x := Y) rfl hbG gs k1 k2 k4); have hk5 := k2.keep EB.out.box (fun e => by have := O4.out.blk _ e; omega); have x5 : w5.cell? ⟨w1.heap.size, 4, none⟩ = some (.slice a4 n4 c4) := cell_of hk5 4; have u5 : w5.frozen? ⟨w1.heap.size, 4, none⟩ = false := free_of hk5 4; obtain ⟨a5, c5, rfl⟩ := own_shape k1.row; have hl5 := lt_of_cell x5; clear k1 k2 k3 k4 hk5; generalize (nums ++ [Y]).length = n5 at *))
                      all_goals
                        go_wp2_with fail
                        go_roundw
                        case rel => exact ⟨p3 + 1, j3 + 1, _, _, ids, nums ++ [Y], by have := HP3E.out; omega, hjM, hpn2, by go_num, by go_num, EN.out, HNX.out, HL4.out.1, by rw [List.length_append]; exact HL4.out.2⟩
                        case measure => simp [intOf]; omega
                    · rw [sval_plus (not_minus hm)] at HNX hsr
                      have hUU := val_lt W0 0 (by decide)
                      by_cases hw0 : 0 < W0.length
                      · have hne : W0[0] ≠ 45 := not_minus hm hw0
                        have hix : ∀ W, (Instr.index 9 (.string ⟨W0.toArray⟩) (.int .i64 0)).run Tryd.prog W = .ok (.int .u8 ((W0[0]).toNat : Int)) W := fun W => run_ix W0 (i := 0) hw0 W
                        have hne2 : (((W0[0]).toNat : Int) == 45) = false := by
                          simp only [beq_eq_false_iff_ne, ne_eq]
                          intro e
                          exact hne (UInt8.toNat_inj.1 (by show _ = 45; omega))
                        generalize (W0[0]).toNat = C0 at *
                        clear hne hm
                        have PV := Lib.hid (fun W => rvalue W0 (by omega) W)
                        generalize val 0 W0 = U at *
                        obtain ⟨X, hX⟩ : ∃ X, X = w64 (U : Int) := ⟨_, rfl⟩
                        have cv1 : IntKind.i64.wrap (U : Int) = X := (i64_w64 _).trans hX.symm
                        have cv2 : RowKit.wrap64 (U : Int) = X := (w64_wrap _).trans hX.symm
                        rw [← hX] at HNX hsr
                        clear hX
                        have O3 := Lib.hid EB.out.o3
                        have O4 := Lib.hid EB.out.o4
                        go_wp2_with fail
                        go_region_law (first
                          | (go_simp; go_at_call 57; refine (PV.out _).mono ?_; rintro e w' ⟨rfl, rfl⟩)
                          | (refine step_app rfl (.tmp 149) (.tmp 156) 23 rfl 2 i2 .i64 8 Tryd.underlying23 a2 a2z a2s a2b (by decide) (by simp [Act.eval, Act.put]) O4.out gs (app_new wr _) X (app_cell wr _ _) (by simp [Act.eval, Act.put]) (by have := HL4.out; omega) ?_; intro v5 w5 k1 k2 k3 k4; have EN := Lib.hid (EB.out.numStep (x := X) rfl hbG gs k1 k2 k4); have hk5 := k2.keep EB.out.box (fun e => by have := O4.out.blk _ e; omega); have x5 : w5.cell? ⟨w1.heap.size, 4, none⟩ = some (.slice a4 n4 c4) := cell_of hk5 4; have u5 : w5.frozen? ⟨w1.heap.size, 4, none⟩ = false := free_of hk5 4; obtain ⟨a5, c5, rfl⟩ := own_shape k1.row; have hl5 := lt_of_cell x5; clear k1 k2 k3 k4 hk5; generalize (nums ++ [X]).length = n5 at *))
                        all_goals
                          go_wp2_with fail
                          go_roundw
                          case rel => exact ⟨p3 + 1, j3 + 1, _, _, ids, nums ++ [X], by have := HP3E.out; omega, hjM, hpn2, by go_num, by go_num, EN.out, HNX.out, HL4.out.1, by rw [List.length_append]; exact HL4.out.2⟩
                          case measure => simp [intOf]; omega
                      · have hw1 : W0.length = 0 := by omega
                        clear hm hw0
                        have PV := Lib.hid (fun W => rvalue W0 (by omega) W)
                        generalize val 0 W0 = U at *
                        obtain ⟨X, hX⟩ : ∃ X, X = w64 (U : Int) := ⟨_, rfl⟩
                        have cv1 : IntKind.i64.wrap (U : Int) = X := (i64_w64 _).trans hX.symm
                        have cv2 : RowKit.wrap64 (U : Int) = X := (w64_wrap _).trans hX.symm
                        rw [← hX] at HNX hsr
                        clear hX
                        have O3 := Lib.hid EB.out.o3
                        have O4 := Lib.hid EB.out.o4
                        go_wp2_with fail
                        go_region_law (first
                          | (go_simp; go_at_call 57; refine (PV.out _).mono ?_; rintro e w' ⟨rfl, rfl⟩)
                          | (refine step_app rfl (.tmp 149) (.tmp 156) 23 rfl 2 i2 .i64 8 Tryd.underlying23 a2 a2z a2s a2b (by decide) (by simp [Act.eval, Act.put]) O4.out gs (app_new wr _) X (app_cell wr _ _) (by simp [Act.eval, Act.put]) (by have := HL4.out; omega) ?_; intro v5 w5 k1 k2 k3 k4; have EN := Lib.hid (EB.out.numStep (x := X) rfl hbG gs k1 k2 k4); have hk5 := k2.keep EB.out.box (fun e => by have := O4.out.blk _ e; omega); have x5 : w5.cell? ⟨w1.heap.size, 4, none⟩ = some (.slice a4 n4 c4) := cell_of hk5 4; have u5 : w5.frozen? ⟨w1.heap.size, 4, none⟩ = false := free_of hk5 4; obtain ⟨a5, c5, rfl⟩ := own_shape k1.row; have hl5 := lt_of_cell x5; clear k1 k2 k3 k4 hk5; generalize (nums ++ [X]).length = n5 at *))
                        all_goals
                          go_wp2_with fail
                          go_roundw
                          case rel => exact ⟨p3 + 1, j3 + 1, _, _, ids, nums ++ [X], by have := HP3E.out; omega, hjM, hpn2, by go_num, by go_num, EN.out, HNX.out, HL4.out.1, by rw [List.length_append]; exact HL4.out.2⟩
                          case measure => simp [intOf]; omega
                  · have HY : Hid (j3 = M ∨ p3 = n) := Lib.hid (by omega)
                    have HMX := Lib.hid (round_end HPI.out HP2.out HP3E.out (Or.inl HM.out) hlt HX.out HY.out hp2n hp3n hS0)
                    have HLX : Hid (ids.length ≤ i + j + j3 ∧ nums.length ≤ i + j + j3) := Lib.hid ⟨l1', by rw [HN4'.out]; exact l2'⟩
                    have HP3 : Hid (p3 = 3 + (i + j + j3)) := Lib.hid (by have := HPI.out; have := HP2.out; have := HP3E.out; omega)
                    clear x3 x4 u3 u4 hl3 hl4 BW1 HN4' gs hwb l1' l2' HY
                    by_cases hjM : j3 < M
                    · have hpn : ¬ p3 < n := fun h => hgo ⟨hjM, h⟩
                      clear hgo
                      go_wp2_with fail
                      go_roundw
                      case rel => exact ⟨p3, i + j + j3, _, _, ids, nums, HP3.out, hp3n, rfl, EB.out, HR7.out, HMX.out.1, HLX.out.1, HLX.out.2⟩
                      case measure => have := HMX.out.2; simp [intOf]; omega
                    · clear hgo
                      go_wp2_with fail
                      go_roundw
                      case rel => exact ⟨p3, i + j + j3, _, _, ids, nums, HP3.out, hp3n, rfl, EB.out, HR7.out, HMX.out.1, HLX.out.1, HLX.out.2⟩
                      case measure => have := HMX.out.2; simp [intOf]; omega
end Go.Proofs.YtlmdkcpiimpniaaDoor

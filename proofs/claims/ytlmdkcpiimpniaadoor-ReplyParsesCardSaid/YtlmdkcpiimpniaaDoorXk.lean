/- Parse of the document: ok without numbers. -/
import Derived.Test.YtlmdkcpiimpniaaDoorXi
namespace Go.Proofs.YtlmdkcpiimpniaaDoor
open Go.ChangeShapes Go.WideShapes Go.ChangeAt Go.RowKit
set_option linter.unusedVariables false
set_option linter.unusedSimpArgs false

set_option maxRecDepth 100000 in
set_option maxHeartbeats 16000000 in
theorem rparse_d2 {w : World} {s : Str} (hs : s.length ≤ 100000) {K : Nat} (hK : K < 16) (hO : opv ((sp s).getD 0 []) 16 = (K : Int)) {IDS : List Nat} {NUMS : List Int} (hl1 : IDS.length ≤ 1000000) (hl2 : NUMS.length ≤ 1000000) {R : Option Rp} (i3 : IDS = []) (i4 : NUMS = []) (hn0 : (sp s).length = 2) (h1 : (sp s).getD 1 [] = okW) (ha : asksK K = true) (hI : RpIn ⟨(K : Int), 0, false, IDS, NUMS⟩) (hR : R = pick s ⟨(K : Int), 0, false, IDS, NUMS⟩) :
    Calls Tryd.prog 26 #[.string ⟨s.toArray⟩] w (PaS w R) := by
  have A1 := Lib.hid (Below.alloc (Below.refl w.heap.size w) (Nat.le_refl _) (.cells #[.int .i64 0, .int .i64 0, .bool false, .slice none 0 0, .slice none 0 0] 27))
  have X1 := Lib.hid (block_new w (.cells #[.int .i64 0, .int .i64 0, .bool false, .slice none 0 0, .slice none 0 0] 27))
  have PS := Lib.hid (rsplit s (by omega) (w.alloc (.cells #[.int .i64 0, .int .i64 0, .bool false, .slice none 0 0, .slice none 0 0] 27)))
  have HWL : Hid (∀ i, ((sp s).getD i []).length ≤ 100000) := Lib.hid (fun i => by
    rw [List.getD_eq_getElem?_getD]
    cases hh : (sp s)[i]? with
    | none => simp
    | some x => have := sp_word s x (List.mem_of_getElem? hh); show x.length ≤ 100000; omega)
  have HLN := Lib.hid (sp_len s)
  have HSZ : Hid ((w.alloc (.cells #[.int .i64 0, .int .i64 0, .bool false, .slice none 0 0, .slice none 0 0] 27)).heap.size = w.heap.size + 1) := Lib.hid (by simp)
  obtain ⟨ws, hws⟩ : ∃ ws, ws = sp s := ⟨_, rfl⟩
  rw [← hws] at PS HWL HLN
  have HWS := Lib.hid hws
  have HR := Lib.hid hR
  have HI := Lib.hid hI
  rw [← hws] at hO
  have HO := Lib.hid hO
  have HI3 := Lib.hid i3
  have HI4 := Lib.hid i4
  clear i3 i4
  rw [← hws] at h1 hn0
  have HW1 := Lib.hid h1
  have HN0 := Lib.hid hn0
  have HA := Lib.hid ha
  clear h1 hn0 ha
  clear hR hI hO hws
  go_enter Tryd.func26, Tryd.ntmps26
  go_wp2_with fail
  refine (PS.out).mono ?_; rintro e w1 ⟨v, rfl, ho, hb1⟩
  have B1 := Lib.hid (A1.out.trans (hb1.mono A1.out.size))
  have HX := Lib.hid ((hb1.block _ (lt_of_block X1.out)).trans X1.out)
  have hg1 : w.heap.size < w1.heap.size := by have := hb1.size; have := HSZ.out; omega
  obtain ⟨sa, sc, rfl⟩ := own_shape ho.row
  have hS := IsSl.of_own encS_len ho.row rfl
  obtain ⟨g, off, rfl, hgw, _⟩ := hS.at_ (fun e => by have := HLN.out.1; rw [e] at this; simp at this)
  have hsc := hS.hle; have hsm := hS.hmax
  unfold maxLen at hsm
  have SW := Lib.hid hS
  have HN1 := HLN.out
  obtain ⟨n, hn⟩ : ∃ n, ws.length = n := ⟨_, rfl⟩
  rw [hn] at hsc SW HN1 ⊢
  have HN := Lib.hid hn
  obtain ⟨hn1, hn2⟩ := HN1
  have hn0 : 0 < n := by omega
  have WC : Hid (∀ W, Below w1.heap.size w1 W → ∀ i, i < n → W.cell? ⟨g, off + i, none⟩ = some (.string ⟨(ws.getD i []).toArray⟩)) := Lib.hid (fun W hb i hi => sl_words (SW.out.below hb) hi)
  have R0 := Lib.hid (block_new w1 (.cells #[.int .i64 (-1), .int .i64 0, .bool false, .slice none 0 0, .slice none 0 0] 27))
  have B0 := Lib.hid (Below.alloc (Below.refl w1.heap.size w1) (Nat.le_refl _) (.cells #[.int .i64 (-1), .int .i64 0, .bool false, .slice none 0 0, .slice none 0 0] 27))
  clear ho hb1 hS PS hn A1 X1 SW
  go_wp2_with fail
  go_loopw [6] (fun v6 wr => OpRel w1 w1.heap.size (ws.getD 0 []) v6 wr) (fun v6 _ => 16 - (intOf v6).toNat)
  case atStart => exact ⟨0, Nat.zero_le _, rfl, R0.out, B0.out⟩
  case round =>
    obtain ⟨k, hk16, rfl, hbx, hb⟩ := hrel
    have BX := Lib.hid hbx; have B := Lib.hid hb
    have hbl := lt_of_block hbx
    have hgw2 : g < wr.heap.size := by have := hb.size; omega
    clear hbx hb R0 B0
    by_cases hlt : k < 16
    · have d1 : decide ((k : Int) ≤ 15) = true := by simp; omega
      have x0 : wr.cell? ⟨g, off, none⟩ = some (.string ⟨(ws.getD 0 []).toArray⟩) := WC.out wr B.out 0 (by omega)
      have KK := Lib.hid (fun W (hb : Below wr.heap.size wr W) => WC.out W (B.out.trans (hb.mono B.out.size)) 0 (by omega))
      have PK : Hid (∀ W, Below wr.heap.size wr W → Calls Tryd.prog 50 #[.int .i64 (k : Int)] W fun e w' => e = .returned (.string ⟨(kwS k).toArray⟩) ∧ Below wr.heap.size wr w') := Lib.hid (fun W hb => (rword hlt W).mono (fun e w' h => And.intro h.1 (hb.trans (h.2.mono hb.size))))
      have BR := Below.refl wr.heap.size wr
      by_cases hq : kwS k = ws.getD 0 []
      · have OP := Lib.hid (opv_yes hq)
        rw [hq] at PK
        generalize ws.getD 0 [] = W0 at *
        clear hq
        go_wp2_with fail
        go_region_held3 (fun w' => w'.cell? ⟨g, off, none⟩ = some (.string ⟨(W0 : Str).toArray⟩))
          (first | exact x0 | exact KK.out _ (by first | assumption | exact Below.drewR (by assumption)))
          ((go_at_call 50; refine (PK.out _ (by first | assumption | exact Below.drewR (by assumption))).mono ?_; rintro e w3 ⟨rfl, hb3⟩))
        have hx3 := (hb3.block _ hbl).trans BX.out
        have y0 : w3.cell? ⟨w1.heap.size, 0, none⟩ = some (.int .i64 (opv W0 k)) := cell_of hx3 0
        have yf : w3.frozen? ⟨w1.heap.size, 0, none⟩ = false := free_of hx3 0
        have B3 := Lib.hid ((B.out.trans (hb3.mono B.out.size)).setCell (p := ⟨w1.heap.size, 0, none⟩) (Nat.le_refl _) (.int .i64 (k : Int)))
        have R3 := Lib.hid (set_of hx3 0 (.int .i64 (k : Int)))
        clear hb3 PK x0 hx3
        go_wp2_with fail
        go_roundw
        case rel => exact ⟨k + 1, hlt, by go_num, by rw [OP.out]; exact R3.out, B3.out⟩
        case measure => simp [intOf]; omega
      · have OP := Lib.hid (opv_not hq)
        have dq : (ws.getD 0 [] == kwS k) = false := beq_false_of_ne (fun e => hq e.symm)
        generalize ws.getD 0 [] = W0 at *
        generalize kwS k = KW at *
        clear hq
        go_wp2_with fail
        go_region_held3 (fun w' => w'.cell? ⟨g, off, none⟩ = some (.string ⟨(W0 : Str).toArray⟩))
          (first | exact x0 | exact KK.out _ (by first | assumption | exact Below.drewR (by assumption)))
          ((go_at_call 50; refine (PK.out _ (by first | assumption | exact Below.drewR (by assumption))).mono ?_; rintro e w3 ⟨rfl, hb3⟩))
        have hx3 := (hb3.block _ hbl).trans BX.out
        have B3 := Lib.hid (B.out.trans (hb3.mono B.out.size))
        have R3 := Lib.hid hx3
        clear hb3 PK x0 hx3
        go_wp2_with fail
        go_roundw
        case rel => exact ⟨k + 1, hlt, by go_num, by rw [OP.out]; exact R3.out, B3.out⟩
        case measure => simp [intOf]; omega
    · have hk : k = 16 := by omega
      have d1 : decide ((k : Int) ≤ 15) = false := by simp; omega
      have BX : Hid (wr.heap[w1.heap.size]? = some (.cells #[.int .i64 (K : Int), .int .i64 0, .bool false, .slice none 0 0, .slice none 0 0] 27 (0, 0))) := Lib.hid (by have := BX.out; rw [hk, HO.out] at this; exact this)
      have BW := Lib.hid (B1.out.trans (B.out.mono B1.out.size))
      have XW := Lib.hid ((B.out.block _ (lt_of_block HX.out)).trans HX.out)
      clear hk hlt hk16 HX
      have hn1' : 1 < n := by have := HN0.out; have := HN.out; omega
      have d2 : decide ((K : Int) < 0) = false := by simp
      have d3 : decide ((n : Int) < 2) = false := by simp; omega
      have d3' : decide (n < 2) = false := by simp; omega
      have x1 : wr.cell? ⟨g, off + 1, none⟩ = some (.string ⟨(([111, 107] : Str)).toArray⟩) := by have h := WC.out wr B.out 1 hn1'; rw [HW1.out] at h; exact h
      have hnn : n = 2 := by have := HN0.out; have := HN.out; omega
      have PA : Hid (∀ W, Calls Tryd.prog 52 #[.int .i64 (K : Int)] W fun e w' => e = .returned (.bool true) ∧ W = w') := Lib.hid (fun W => by have h := rasks (K : Int) W; rw [asks_eq (by omega), Int.toNat_natCast, HA.out] at h; exact h)
      have PE := Lib.hid (fun W => rentry hK W)
      generalize ki K = I at *
      generalize en K = M at *
      have z0 : wr.cell? ⟨w1.heap.size, 0, none⟩ = some (.int .i64 (K : Int)) := cell_of BX.out 0
      have z1 : wr.cell? ⟨w1.heap.size, 1, none⟩ = some (.int .i64 0) := cell_of BX.out 1
      have z2 : wr.cell? ⟨w1.heap.size, 2, none⟩ = some (.bool false) := cell_of BX.out 2
      have z3 : wr.cell? ⟨w1.heap.size, 3, none⟩ = some (.slice none 0 0) := cell_of BX.out 3
      have z4 : wr.cell? ⟨w1.heap.size, 4, none⟩ = some (.slice none 0 0) := cell_of BX.out 4
      have zf : ∀ i, wr.frozen? ⟨w1.heap.size, i, none⟩ = false := fun i => free_of BX.out i
      have HN3 : Hid (IDS.length = 0) := Lib.hid (by rw [HI3.out]; rfl)
      have HN4 : Hid (NUMS.length = 0) := Lib.hid (by rw [HI4.out]; rfl)
      have BXV := BX
      have XV := XW
      have BWV := BW
      go_wp2_with fail
      refine (PA.out _).mono ?_; rintro e w' ⟨rfl, rfl⟩
      clear PA
      go_wp2_with fail
      refine (PE.out _).mono ?_; rintro e w' ⟨rfl, rfl⟩
      clear PE x1 z0 z1 z2 z3 z4 zf
      go_wp2_with fail
      go_loopw [7, 10, 11] (fun v7 _ _ wx => RoAt w w1 #[.int .i64 (K : Int), .int .i64 0, .bool false, .slice none 0 0, .slice none 0 0] 2 v7 wx) (fun _ _ _ _ => 0)
      case atStart => exact ⟨rfl, BXV.out, XV.out, BWV.out⟩
      case round =>
        obtain ⟨rfl, hbx, hxx, hbb⟩ := hrel
        clear BXV XV BWV
        have BXV := Lib.hid hbx
        have XV := Lib.hid hxx
        have BWV := Lib.hid hbb
        clear hbx hxx hbb
        have z0 : wr.cell? ⟨w1.heap.size, 0, none⟩ = some (.int .i64 (K : Int)) := cell_of BXV.out 0
        have z1 : wr.cell? ⟨w1.heap.size, 1, none⟩ = some (.int .i64 0) := cell_of BXV.out 1
        have z2 : wr.cell? ⟨w1.heap.size, 2, none⟩ = some (.bool false) := cell_of BXV.out 2
        have z3 : wr.cell? ⟨w1.heap.size, 3, none⟩ = some (.slice none 0 0) := cell_of BXV.out 3
        have z4 : wr.cell? ⟨w1.heap.size, 4, none⟩ = some (.slice none 0 0) := cell_of BXV.out 4
        have zf : ∀ i, wr.frozen? ⟨w1.heap.size, i, none⟩ = false := fun i => free_of BXV.out i
        have O3V : Hid (OutR 1 (encK .u64) 28 wr w1.heap.size (.slice none 0 0) (ns IDS)) := Lib.hid (by rw [HI3.out]; exact nil_ids _ _)
        have O4V : Hid (OutR 1 (encK .i64) 2 wr w1.heap.size (.slice none 0 0) NUMS) := Lib.hid (by rw [HI4.out]; exact nil_nums _ _)
        have PL := Lib.hid (line_any (ls_out (q := (⟨(K : Int), 0, false, IDS, NUMS⟩ : Rp)) HN3.out HN4.out O3V.out O4V.out) HI.out hl1 hl2)
        have PL : Hid (Calls Tryd.prog 24 #[.agg #[.int .i64 (K : Int), .int .i64 0, .bool false, .slice none 0 0, .slice none 0 0]] wr fun e w' => e = .returned (.tuple #[.string ⟨(lineZ (⟨(K : Int), 0, false, IDS, NUMS⟩ : Rp)).toArray⟩, .int .i64 (chk (⟨(K : Int), 0, false, IDS, NUMS⟩ : Rp))]) ∧ Below wr.heap.size wr w') := Lib.hid (by
          have h := PL.out
          dsimp only at h
          rw [HN3.out, HN4.out] at h
          exact h)
        by_cases h1 : chk (⟨(K : Int), 0, false, IDS, NUMS⟩ : Rp) = 0
        · by_cases h2 : lineS (⟨(K : Int), 0, false, IDS, NUMS⟩ : Rp) = s
          · have HRR2 := Lib.hid (HR.out.trans (pick_yes h1 h2))
            rw [show lineZ (⟨(K : Int), 0, false, IDS, NUMS⟩ : Rp) = s from (if_pos h1).trans h2, h1] at PL
            clear h1 h2 HR
            go_wp2_with fail
            refine (PL.out).mono ?_; rintro e w6 ⟨rfl, hb6⟩
            have B6 := Lib.hid (BWV.out.trans (hb6.mono BWV.out.size))
            have X6 := Lib.hid ((hb6.block _ (lt_of_block XV.out)).trans XV.out)
            have R6 := Lib.hid ((hb6.block _ (lt_of_block BXV.out)).trans BXV.out)
            have O6 := Lib.hid (And.intro (O3V.out.below hb6) (O4V.out.below hb6))
            clear hb6 PL z0 z1 z2 z3 z4 zf
            have y0 : w6.cell? ⟨w.heap.size, 0, none⟩ = some (.int .i64 0) := cell_of X6.out 0
            have y1 : w6.cell? ⟨w.heap.size, 1, none⟩ = some (.int .i64 0) := cell_of X6.out 1
            have y2 : w6.cell? ⟨w.heap.size, 2, none⟩ = some (.bool false) := cell_of X6.out 2
            have y3 : w6.cell? ⟨w.heap.size, 3, none⟩ = some (.slice none 0 0) := cell_of X6.out 3
            have y4 : w6.cell? ⟨w.heap.size, 4, none⟩ = some (.slice none 0 0) := cell_of X6.out 4
            have qf : ∀ i, w6.frozen? ⟨w.heap.size, i, none⟩ = false := fun i => free_of X6.out i
            have z0 : w6.cell? ⟨w1.heap.size, 0, none⟩ = some (.int .i64 (K : Int)) := cell_of R6.out 0
            have z1 : w6.cell? ⟨w1.heap.size, 1, none⟩ = some (.int .i64 0) := cell_of R6.out 1
            have z2 : w6.cell? ⟨w1.heap.size, 2, none⟩ = some (.bool false) := cell_of R6.out 2
            have z3 : w6.cell? ⟨w1.heap.size, 3, none⟩ = some (.slice none 0 0) := cell_of R6.out 3
            have z4 : w6.cell? ⟨w1.heap.size, 4, none⟩ = some (.slice none 0 0) := cell_of R6.out 4
            go_wp2_with fail
            have Q6 := Lib.hid (And.intro (out5 (x := w.heap.size) O6.out.1 hg1 (.int .i64 (K : Int)) (.int .i64 0) (.bool false) (.slice none 0 0) (.slice none 0 0)) (out5 (x := w.heap.size) O6.out.2 hg1 (.int .i64 (K : Int)) (.int .i64 0) (.bool false) (.slice none 0 0) (.slice none 0 0)))
            have h7 := set5 X6.out rfl (.int .i64 (K : Int)) (.int .i64 0) (.bool false) (.slice none 0 0) (.slice none 0 0)
            have B7 := Lib.hid (below5 (x := w.heap.size) B6.out (Nat.le_refl _) (.int .i64 (K : Int)) (.int .i64 0) (.bool false) (.slice none 0 0) (.slice none 0 0))
            clear y0 y1 y2 y3 y4 qf z0 z1 z2 z3 z4
            generalize hW6 : ((((w6.setCell ⟨w.heap.size, 0, none⟩ (.int .i64 (K : Int))).setCell ⟨w.heap.size, 1, none⟩ (.int .i64 0)).setCell ⟨w.heap.size, 2, none⟩ (.bool false)).setCell ⟨w.heap.size, 3, none⟩ (.slice none 0 0)).setCell ⟨w.heap.size, 4, none⟩ (.slice none 0 0) = W6 at *
            have y0 : W6.cell? ⟨w.heap.size, 0, none⟩ = some (.int .i64 (K : Int)) := cell_of h7 0
            have y1 : W6.cell? ⟨w.heap.size, 1, none⟩ = some (.int .i64 0) := cell_of h7 1
            have y2 : W6.cell? ⟨w.heap.size, 2, none⟩ = some (.bool false) := cell_of h7 2
            have y3 : W6.cell? ⟨w.heap.size, 3, none⟩ = some (.slice none 0 0) := cell_of h7 3
            have y4 : W6.cell? ⟨w.heap.size, 4, none⟩ = some (.slice none 0 0) := cell_of h7 4
            exact bodyPost_ret (v := .tuple #[.agg #[.int .i64 (K : Int), .int .i64 0, .bool false, .slice none 0 0, .slice none 0 0], .int .i64 0]) (by clear hW6 h7; simp [results, Tryd.results26, go_sem, y0, y1, y2, y3, y4]) rfl (pas_ok2 HRR2.out HN3.out HN4.out Q6.out.1 Q6.out.2 B7.out)
          · have HRR2 := Lib.hid (HR.out.trans (pick_not (fun h => h2 h.2)))
            have dS : (lineZ (⟨(K : Int), 0, false, IDS, NUMS⟩ : Rp) != s) = true := by rw [show lineZ (⟨(K : Int), 0, false, IDS, NUMS⟩ : Rp) = lineS (⟨(K : Int), 0, false, IDS, NUMS⟩ : Rp) from if_pos h1]; exact bne_iff_ne.2 h2
            have dS' : (lineZ (⟨(K : Int), 0, false, IDS, NUMS⟩ : Rp) == s) = false := by rw [show lineZ (⟨(K : Int), 0, false, IDS, NUMS⟩ : Rp) = lineS (⟨(K : Int), 0, false, IDS, NUMS⟩ : Rp) from if_pos h1]; exact beq_false_of_ne h2
            rw [h1] at PL
            generalize lineZ (⟨(K : Int), 0, false, IDS, NUMS⟩ : Rp) = SL at *
            clear h1 h2 HR
            go_wp2_with fail
            refine (PL.out).mono ?_; rintro e w6 ⟨rfl, hb6⟩
            have B6 := Lib.hid (BWV.out.trans (hb6.mono BWV.out.size))
            have X6 := Lib.hid ((hb6.block _ (lt_of_block XV.out)).trans XV.out)
            have R6 := Lib.hid ((hb6.block _ (lt_of_block BXV.out)).trans BXV.out)
            have O6 := Lib.hid (And.intro (O3V.out.below hb6) (O4V.out.below hb6))
            clear hb6 PL z0 z1 z2 z3 z4 zf
            have y0 : w6.cell? ⟨w.heap.size, 0, none⟩ = some (.int .i64 0) := cell_of X6.out 0
            have y1 : w6.cell? ⟨w.heap.size, 1, none⟩ = some (.int .i64 0) := cell_of X6.out 1
            have y2 : w6.cell? ⟨w.heap.size, 2, none⟩ = some (.bool false) := cell_of X6.out 2
            have y3 : w6.cell? ⟨w.heap.size, 3, none⟩ = some (.slice none 0 0) := cell_of X6.out 3
            have y4 : w6.cell? ⟨w.heap.size, 4, none⟩ = some (.slice none 0 0) := cell_of X6.out 4
            have qf : ∀ i, w6.frozen? ⟨w.heap.size, i, none⟩ = false := fun i => free_of X6.out i
            have z0 : w6.cell? ⟨w1.heap.size, 0, none⟩ = some (.int .i64 (K : Int)) := cell_of R6.out 0
            have z1 : w6.cell? ⟨w1.heap.size, 1, none⟩ = some (.int .i64 0) := cell_of R6.out 1
            have z2 : w6.cell? ⟨w1.heap.size, 2, none⟩ = some (.bool false) := cell_of R6.out 2
            have z3 : w6.cell? ⟨w1.heap.size, 3, none⟩ = some (.slice none 0 0) := cell_of R6.out 3
            have z4 : w6.cell? ⟨w1.heap.size, 4, none⟩ = some (.slice none 0 0) := cell_of R6.out 4
            go_wp2_with fail
            have h7 := set5 X6.out rfl (.int .i64 0) (.int .i64 0) (.bool false) (.slice none 0 0) (.slice none 0 0)
            have B7 := Lib.hid (below5 (x := w.heap.size) B6.out (Nat.le_refl _) (.int .i64 0) (.int .i64 0) (.bool false) (.slice none 0 0) (.slice none 0 0))
            clear y0 y1 y2 y3 y4 qf z0 z1 z2 z3 z4
            generalize hW6 : ((((w6.setCell ⟨w.heap.size, 0, none⟩ (.int .i64 0)).setCell ⟨w.heap.size, 1, none⟩ (.int .i64 0)).setCell ⟨w.heap.size, 2, none⟩ (.bool false)).setCell ⟨w.heap.size, 3, none⟩ (.slice none 0 0)).setCell ⟨w.heap.size, 4, none⟩ (.slice none 0 0) = W6 at *
            have y0 : W6.cell? ⟨w.heap.size, 0, none⟩ = some (.int .i64 0) := cell_of h7 0
            have y1 : W6.cell? ⟨w.heap.size, 1, none⟩ = some (.int .i64 0) := cell_of h7 1
            have y2 : W6.cell? ⟨w.heap.size, 2, none⟩ = some (.bool false) := cell_of h7 2
            have y3 : W6.cell? ⟨w.heap.size, 3, none⟩ = some (.slice none 0 0) := cell_of h7 3
            have y4 : W6.cell? ⟨w.heap.size, 4, none⟩ = some (.slice none 0 0) := cell_of h7 4
            exact bodyPost_ret (v := .tuple #[.agg #[.int .i64 0, .int .i64 0, .bool false, .slice none 0 0, .slice none 0 0], .int .i64 15]) (by clear hW6 h7; simp [results, Tryd.results26, go_sem, y0, y1, y2, y3, y4]) rfl (pas_bad HRR2.out B7.out)
        · have HRR2 := Lib.hid (HR.out.trans (pick_not (fun h => h1 h.1)))
          have dK : (chk (⟨(K : Int), 0, false, IDS, NUMS⟩ : Rp) != 0) = true := bne_iff_ne.2 h1
          generalize lineZ (⟨(K : Int), 0, false, IDS, NUMS⟩ : Rp) = SL at *
          generalize chk (⟨(K : Int), 0, false, IDS, NUMS⟩ : Rp) = CK at *
          clear h1 HR
          go_wp2_with fail
          refine (PL.out).mono ?_; rintro e w6 ⟨rfl, hb6⟩
          have B6 := Lib.hid (BWV.out.trans (hb6.mono BWV.out.size))
          have X6 := Lib.hid ((hb6.block _ (lt_of_block XV.out)).trans XV.out)
          have R6 := Lib.hid ((hb6.block _ (lt_of_block BXV.out)).trans BXV.out)
          have O6 := Lib.hid (And.intro (O3V.out.below hb6) (O4V.out.below hb6))
          clear hb6 PL z0 z1 z2 z3 z4 zf
          have y0 : w6.cell? ⟨w.heap.size, 0, none⟩ = some (.int .i64 0) := cell_of X6.out 0
          have y1 : w6.cell? ⟨w.heap.size, 1, none⟩ = some (.int .i64 0) := cell_of X6.out 1
          have y2 : w6.cell? ⟨w.heap.size, 2, none⟩ = some (.bool false) := cell_of X6.out 2
          have y3 : w6.cell? ⟨w.heap.size, 3, none⟩ = some (.slice none 0 0) := cell_of X6.out 3
          have y4 : w6.cell? ⟨w.heap.size, 4, none⟩ = some (.slice none 0 0) := cell_of X6.out 4
          have qf : ∀ i, w6.frozen? ⟨w.heap.size, i, none⟩ = false := fun i => free_of X6.out i
          have z0 : w6.cell? ⟨w1.heap.size, 0, none⟩ = some (.int .i64 (K : Int)) := cell_of R6.out 0
          have z1 : w6.cell? ⟨w1.heap.size, 1, none⟩ = some (.int .i64 0) := cell_of R6.out 1
          have z2 : w6.cell? ⟨w1.heap.size, 2, none⟩ = some (.bool false) := cell_of R6.out 2
          have z3 : w6.cell? ⟨w1.heap.size, 3, none⟩ = some (.slice none 0 0) := cell_of R6.out 3
          have z4 : w6.cell? ⟨w1.heap.size, 4, none⟩ = some (.slice none 0 0) := cell_of R6.out 4
          go_wp2_with fail
          have h7 := set5 X6.out rfl (.int .i64 0) (.int .i64 0) (.bool false) (.slice none 0 0) (.slice none 0 0)
          have B7 := Lib.hid (below5 (x := w.heap.size) B6.out (Nat.le_refl _) (.int .i64 0) (.int .i64 0) (.bool false) (.slice none 0 0) (.slice none 0 0))
          clear y0 y1 y2 y3 y4 qf z0 z1 z2 z3 z4
          generalize hW6 : ((((w6.setCell ⟨w.heap.size, 0, none⟩ (.int .i64 0)).setCell ⟨w.heap.size, 1, none⟩ (.int .i64 0)).setCell ⟨w.heap.size, 2, none⟩ (.bool false)).setCell ⟨w.heap.size, 3, none⟩ (.slice none 0 0)).setCell ⟨w.heap.size, 4, none⟩ (.slice none 0 0) = W6 at *
          have y0 : W6.cell? ⟨w.heap.size, 0, none⟩ = some (.int .i64 0) := cell_of h7 0
          have y1 : W6.cell? ⟨w.heap.size, 1, none⟩ = some (.int .i64 0) := cell_of h7 1
          have y2 : W6.cell? ⟨w.heap.size, 2, none⟩ = some (.bool false) := cell_of h7 2
          have y3 : W6.cell? ⟨w.heap.size, 3, none⟩ = some (.slice none 0 0) := cell_of h7 3
          have y4 : W6.cell? ⟨w.heap.size, 4, none⟩ = some (.slice none 0 0) := cell_of h7 4
          exact bodyPost_ret (v := .tuple #[.agg #[.int .i64 0, .int .i64 0, .bool false, .slice none 0 0, .slice none 0 0], .int .i64 15]) (by clear hW6 h7; simp [results, Tryd.results26, go_sem, y0, y1, y2, y3, y4]) rfl (pas_bad HRR2.out B7.out)

set_option maxRecDepth 100000 in
set_option maxHeartbeats 16000000 in
theorem rparse_d3 {w : World} {s : Str} (hs : s.length ≤ 100000) {K : Nat} (hK : K < 16) (hO : opv ((sp s).getD 0 []) 16 = (K : Int)) {IDS : List Nat} {NUMS : List Int} (hl1 : IDS.length ≤ 1000000) (hl2 : NUMS.length ≤ 1000000) {R : Option Rp} (i3 : IDS = []) (i4 : NUMS = []) (hn0 : 3 ≤ (sp s).length) (h1 : (sp s).getD 1 [] = okW) {Y0 : Bool} (h2 : ((sp s).getD 2 [] == yesW) = Y0) (ha : asksK K = true) (hk1 : ki K = 0) (hk2 : en K = 0) (hI : RpIn ⟨(K : Int), 0, Y0, IDS, NUMS⟩) (hR : R = pick s ⟨(K : Int), 0, Y0, IDS, NUMS⟩) :
    Calls Tryd.prog 26 #[.string ⟨s.toArray⟩] w (PaS w R) := by
  have A1 := Lib.hid (Below.alloc (Below.refl w.heap.size w) (Nat.le_refl _) (.cells #[.int .i64 0, .int .i64 0, .bool false, .slice none 0 0, .slice none 0 0] 27))
  have X1 := Lib.hid (block_new w (.cells #[.int .i64 0, .int .i64 0, .bool false, .slice none 0 0, .slice none 0 0] 27))
  have PS := Lib.hid (rsplit s (by omega) (w.alloc (.cells #[.int .i64 0, .int .i64 0, .bool false, .slice none 0 0, .slice none 0 0] 27)))
  have HWL : Hid (∀ i, ((sp s).getD i []).length ≤ 100000) := Lib.hid (fun i => by
    rw [List.getD_eq_getElem?_getD]
    cases hh : (sp s)[i]? with
    | none => simp
    | some x => have := sp_word s x (List.mem_of_getElem? hh); show x.length ≤ 100000; omega)
  have HLN := Lib.hid (sp_len s)
  have HSZ : Hid ((w.alloc (.cells #[.int .i64 0, .int .i64 0, .bool false, .slice none 0 0, .slice none 0 0] 27)).heap.size = w.heap.size + 1) := Lib.hid (by simp)
  obtain ⟨ws, hws⟩ : ∃ ws, ws = sp s := ⟨_, rfl⟩
  rw [← hws] at PS HWL HLN
  have HWS := Lib.hid hws
  have HR := Lib.hid hR
  have HI := Lib.hid hI
  rw [← hws] at hO
  have HO := Lib.hid hO
  have HI3 := Lib.hid i3
  have HI4 := Lib.hid i4
  clear i3 i4
  rw [← hws] at h1 hn0 h2
  have HY2 := Lib.hid h2
  have HW1 := Lib.hid h1
  have HN0 := Lib.hid hn0
  have HA := Lib.hid ha
  clear h1 hn0 ha h2
  clear hR hI hO hws
  go_enter Tryd.func26, Tryd.ntmps26
  go_wp2_with fail
  refine (PS.out).mono ?_; rintro e w1 ⟨v, rfl, ho, hb1⟩
  have B1 := Lib.hid (A1.out.trans (hb1.mono A1.out.size))
  have HX := Lib.hid ((hb1.block _ (lt_of_block X1.out)).trans X1.out)
  have hg1 : w.heap.size < w1.heap.size := by have := hb1.size; have := HSZ.out; omega
  obtain ⟨sa, sc, rfl⟩ := own_shape ho.row
  have hS := IsSl.of_own encS_len ho.row rfl
  obtain ⟨g, off, rfl, hgw, _⟩ := hS.at_ (fun e => by have := HLN.out.1; rw [e] at this; simp at this)
  have hsc := hS.hle; have hsm := hS.hmax
  unfold maxLen at hsm
  have SW := Lib.hid hS
  have HN1 := HLN.out
  obtain ⟨n, hn⟩ : ∃ n, ws.length = n := ⟨_, rfl⟩
  rw [hn] at hsc SW HN1 ⊢
  have HN := Lib.hid hn
  obtain ⟨hn1, hn2⟩ := HN1
  have hn0 : 0 < n := by omega
  have WC : Hid (∀ W, Below w1.heap.size w1 W → ∀ i, i < n → W.cell? ⟨g, off + i, none⟩ = some (.string ⟨(ws.getD i []).toArray⟩)) := Lib.hid (fun W hb i hi => sl_words (SW.out.below hb) hi)
  have R0 := Lib.hid (block_new w1 (.cells #[.int .i64 (-1), .int .i64 0, .bool false, .slice none 0 0, .slice none 0 0] 27))
  have B0 := Lib.hid (Below.alloc (Below.refl w1.heap.size w1) (Nat.le_refl _) (.cells #[.int .i64 (-1), .int .i64 0, .bool false, .slice none 0 0, .slice none 0 0] 27))
  clear ho hb1 hS PS hn A1 X1 SW
  go_wp2_with fail
  go_loopw [6] (fun v6 wr => OpRel w1 w1.heap.size (ws.getD 0 []) v6 wr) (fun v6 _ => 16 - (intOf v6).toNat)
  case atStart => exact ⟨0, Nat.zero_le _, rfl, R0.out, B0.out⟩
  case round =>
    obtain ⟨k, hk16, rfl, hbx, hb⟩ := hrel
    have BX := Lib.hid hbx; have B := Lib.hid hb
    have hbl := lt_of_block hbx
    have hgw2 : g < wr.heap.size := by have := hb.size; omega
    clear hbx hb R0 B0
    by_cases hlt : k < 16
    · have d1 : decide ((k : Int) ≤ 15) = true := by simp; omega
      have x0 : wr.cell? ⟨g, off, none⟩ = some (.string ⟨(ws.getD 0 []).toArray⟩) := WC.out wr B.out 0 (by omega)
      have KK := Lib.hid (fun W (hb : Below wr.heap.size wr W) => WC.out W (B.out.trans (hb.mono B.out.size)) 0 (by omega))
      have PK : Hid (∀ W, Below wr.heap.size wr W → Calls Tryd.prog 50 #[.int .i64 (k : Int)] W fun e w' => e = .returned (.string ⟨(kwS k).toArray⟩) ∧ Below wr.heap.size wr w') := Lib.hid (fun W hb => (rword hlt W).mono (fun e w' h => And.intro h.1 (hb.trans (h.2.mono hb.size))))
      have BR := Below.refl wr.heap.size wr
      by_cases hq : kwS k = ws.getD 0 []
      · have OP := Lib.hid (opv_yes hq)
        rw [hq] at PK
        generalize ws.getD 0 [] = W0 at *
        clear hq
        go_wp2_with fail
        go_region_held3 (fun w' => w'.cell? ⟨g, off, none⟩ = some (.string ⟨(W0 : Str).toArray⟩))
          (first | exact x0 | exact KK.out _ (by first | assumption | exact Below.drewR (by assumption)))
          ((go_at_call 50; refine (PK.out _ (by first | assumption | exact Below.drewR (by assumption))).mono ?_; rintro e w3 ⟨rfl, hb3⟩))
        have hx3 := (hb3.block _ hbl).trans BX.out
        have y0 : w3.cell? ⟨w1.heap.size, 0, none⟩ = some (.int .i64 (opv W0 k)) := cell_of hx3 0
        have yf : w3.frozen? ⟨w1.heap.size, 0, none⟩ = false := free_of hx3 0
        have B3 := Lib.hid ((B.out.trans (hb3.mono B.out.size)).setCell (p := ⟨w1.heap.size, 0, none⟩) (Nat.le_refl _) (.int .i64 (k : Int)))
        have R3 := Lib.hid (set_of hx3 0 (.int .i64 (k : Int)))
        clear hb3 PK x0 hx3
        go_wp2_with fail
        go_roundw
        case rel => exact ⟨k + 1, hlt, by go_num, by rw [OP.out]; exact R3.out, B3.out⟩
        case measure => simp [intOf]; omega
      · have OP := Lib.hid (opv_not hq)
        have dq : (ws.getD 0 [] == kwS k) = false := beq_false_of_ne (fun e => hq e.symm)
        generalize ws.getD 0 [] = W0 at *
        generalize kwS k = KW at *
        clear hq
        go_wp2_with fail
        go_region_held3 (fun w' => w'.cell? ⟨g, off, none⟩ = some (.string ⟨(W0 : Str).toArray⟩))
          (first | exact x0 | exact KK.out _ (by first | assumption | exact Below.drewR (by assumption)))
          ((go_at_call 50; refine (PK.out _ (by first | assumption | exact Below.drewR (by assumption))).mono ?_; rintro e w3 ⟨rfl, hb3⟩))
        have hx3 := (hb3.block _ hbl).trans BX.out
        have B3 := Lib.hid (B.out.trans (hb3.mono B.out.size))
        have R3 := Lib.hid hx3
        clear hb3 PK x0 hx3
        go_wp2_with fail
        go_roundw
        case rel => exact ⟨k + 1, hlt, by go_num, by rw [OP.out]; exact R3.out, B3.out⟩
        case measure => simp [intOf]; omega
    · have hk : k = 16 := by omega
      have d1 : decide ((k : Int) ≤ 15) = false := by simp; omega
      have BX : Hid (wr.heap[w1.heap.size]? = some (.cells #[.int .i64 (K : Int), .int .i64 0, .bool false, .slice none 0 0, .slice none 0 0] 27 (0, 0))) := Lib.hid (by have := BX.out; rw [hk, HO.out] at this; exact this)
      have BW := Lib.hid (B1.out.trans (B.out.mono B1.out.size))
      have XW := Lib.hid ((B.out.block _ (lt_of_block HX.out)).trans HX.out)
      clear hk hlt hk16 HX
      have hn1' : 1 < n := by have := HN0.out; have := HN.out; omega
      have d2 : decide ((K : Int) < 0) = false := by simp
      have d3 : decide ((n : Int) < 2) = false := by simp; omega
      have d3' : decide (n < 2) = false := by simp; omega
      have x1 : wr.cell? ⟨g, off + 1, none⟩ = some (.string ⟨(([111, 107] : Str)).toArray⟩) := by have h := WC.out wr B.out 1 hn1'; rw [HW1.out] at h; exact h
      have PA : Hid (∀ W, Calls Tryd.prog 52 #[.int .i64 (K : Int)] W fun e w' => e = .returned (.bool true) ∧ W = w') := Lib.hid (fun W => by have h := rasks (K : Int) W; rw [asks_eq (by omega), Int.toNat_natCast, HA.out] at h; exact h)
      have PE := Lib.hid (fun W => rentry hK W)
      have hn2' : 2 < n := by have := HN0.out; have := HN.out; omega
      have x2 : wr.cell? ⟨g, off + 2, none⟩ = some (.string ⟨(ws.getD 2 []).toArray⟩) := WC.out wr B.out 2 hn2'
      have hy2 : ((ws.getD 2 []) == ([121, 101, 115] : Str)) = Y0 := HY2.out
      generalize ws.getD 2 [] = W2 at *
      rw [hk1, hk2] at PE
      have z0 : wr.cell? ⟨w1.heap.size, 0, none⟩ = some (.int .i64 (K : Int)) := cell_of BX.out 0
      have z1 : wr.cell? ⟨w1.heap.size, 1, none⟩ = some (.int .i64 0) := cell_of BX.out 1
      have z2 : wr.cell? ⟨w1.heap.size, 2, none⟩ = some (.bool false) := cell_of BX.out 2
      have z3 : wr.cell? ⟨w1.heap.size, 3, none⟩ = some (.slice none 0 0) := cell_of BX.out 3
      have z4 : wr.cell? ⟨w1.heap.size, 4, none⟩ = some (.slice none 0 0) := cell_of BX.out 4
      have zf : ∀ i, wr.frozen? ⟨w1.heap.size, i, none⟩ = false := fun i => free_of BX.out i
      have HN3 : Hid (IDS.length = 0) := Lib.hid (by rw [HI3.out]; rfl)
      have HN4 : Hid (NUMS.length = 0) := Lib.hid (by rw [HI4.out]; rfl)
      have BXV : Hid ((wr.setCell ⟨w1.heap.size, 2, none⟩ (.bool Y0)).heap[w1.heap.size]? = some (.cells #[.int .i64 (K : Int), .int .i64 0, .bool Y0, .slice none 0 0, .slice none 0 0] 27 (0, 0))) := Lib.hid (set_of BX.out 2 _)
      have XV : Hid ((wr.setCell ⟨w1.heap.size, 2, none⟩ (.bool Y0)).heap[w.heap.size]? = some (.cells #[.int .i64 0, .int .i64 0, .bool false, .slice none 0 0, .slice none 0 0] 27 (0, 0))) := Lib.hid (block_set (p := ⟨w1.heap.size, 2, none⟩) XW.out (show w.heap.size ≠ w1.heap.size by omega) _)
      have BWV : Hid (Below w.heap.size w (wr.setCell ⟨w1.heap.size, 2, none⟩ (.bool Y0))) := Lib.hid (BW.out.setCell (p := ⟨w1.heap.size, 2, none⟩) (show w.heap.size ≤ w1.heap.size by omega) _)
      go_wp2_with fail
      refine (PA.out _).mono ?_; rintro e w' ⟨rfl, rfl⟩
      clear PA
      go_wp2_with fail
      refine (PE.out _).mono ?_; rintro e w' ⟨rfl, rfl⟩
      clear PE x1 x2 z0 z1 z2 z3 z4 zf
      go_wp2_with fail
      go_loopw [7, 10, 11] (fun v7 _ _ wx => RoAt w w1 #[.int .i64 (K : Int), .int .i64 0, .bool Y0, .slice none 0 0, .slice none 0 0] 3 v7 wx) (fun _ _ _ _ => 0)
      case atStart => exact ⟨rfl, BXV.out, XV.out, BWV.out⟩
      case round =>
        obtain ⟨rfl, hbx, hxx, hbb⟩ := hrel
        clear BXV XV BWV
        have BXV := Lib.hid hbx
        have XV := Lib.hid hxx
        have BWV := Lib.hid hbb
        clear hbx hxx hbb
        have z0 : wr.cell? ⟨w1.heap.size, 0, none⟩ = some (.int .i64 (K : Int)) := cell_of BXV.out 0
        have z1 : wr.cell? ⟨w1.heap.size, 1, none⟩ = some (.int .i64 0) := cell_of BXV.out 1
        have z2 : wr.cell? ⟨w1.heap.size, 2, none⟩ = some (.bool Y0) := cell_of BXV.out 2
        have z3 : wr.cell? ⟨w1.heap.size, 3, none⟩ = some (.slice none 0 0) := cell_of BXV.out 3
        have z4 : wr.cell? ⟨w1.heap.size, 4, none⟩ = some (.slice none 0 0) := cell_of BXV.out 4
        have zf : ∀ i, wr.frozen? ⟨w1.heap.size, i, none⟩ = false := fun i => free_of BXV.out i
        have O3V : Hid (OutR 1 (encK .u64) 28 wr w1.heap.size (.slice none 0 0) (ns IDS)) := Lib.hid (by rw [HI3.out]; exact nil_ids _ _)
        have O4V : Hid (OutR 1 (encK .i64) 2 wr w1.heap.size (.slice none 0 0) NUMS) := Lib.hid (by rw [HI4.out]; exact nil_nums _ _)
        by_cases h3n : 3 < n
        · have PL := Lib.hid (line_any (ls_out (q := (⟨(K : Int), 0, Y0, IDS, NUMS⟩ : Rp)) HN3.out HN4.out O3V.out O4V.out) HI.out hl1 hl2)
          have PL : Hid (Calls Tryd.prog 24 #[.agg #[.int .i64 (K : Int), .int .i64 0, .bool Y0, .slice none 0 0, .slice none 0 0]] wr fun e w' => e = .returned (.tuple #[.string ⟨(lineZ (⟨(K : Int), 0, Y0, IDS, NUMS⟩ : Rp)).toArray⟩, .int .i64 (chk (⟨(K : Int), 0, Y0, IDS, NUMS⟩ : Rp))]) ∧ Below wr.heap.size wr w') := Lib.hid (by
            have h := PL.out
            dsimp only at h
            rw [HN3.out, HN4.out] at h
            exact h)
          by_cases h1 : chk (⟨(K : Int), 0, Y0, IDS, NUMS⟩ : Rp) = 0
          · by_cases h2 : lineS (⟨(K : Int), 0, Y0, IDS, NUMS⟩ : Rp) = s
            · have HRR2 := Lib.hid (HR.out.trans (pick_yes h1 h2))
              rw [show lineZ (⟨(K : Int), 0, Y0, IDS, NUMS⟩ : Rp) = s from (if_pos h1).trans h2, h1] at PL
              clear h1 h2 HR
              go_wp2_with fail
              refine (PL.out).mono ?_; rintro e w6 ⟨rfl, hb6⟩
              have B6 := Lib.hid (BWV.out.trans (hb6.mono BWV.out.size))
              have X6 := Lib.hid ((hb6.block _ (lt_of_block XV.out)).trans XV.out)
              have R6 := Lib.hid ((hb6.block _ (lt_of_block BXV.out)).trans BXV.out)
              have O6 := Lib.hid (And.intro (O3V.out.below hb6) (O4V.out.below hb6))
              clear hb6 PL z0 z1 z2 z3 z4 zf
              have y0 : w6.cell? ⟨w.heap.size, 0, none⟩ = some (.int .i64 0) := cell_of X6.out 0
              have y1 : w6.cell? ⟨w.heap.size, 1, none⟩ = some (.int .i64 0) := cell_of X6.out 1
              have y2 : w6.cell? ⟨w.heap.size, 2, none⟩ = some (.bool false) := cell_of X6.out 2
              have y3 : w6.cell? ⟨w.heap.size, 3, none⟩ = some (.slice none 0 0) := cell_of X6.out 3
              have y4 : w6.cell? ⟨w.heap.size, 4, none⟩ = some (.slice none 0 0) := cell_of X6.out 4
              have qf : ∀ i, w6.frozen? ⟨w.heap.size, i, none⟩ = false := fun i => free_of X6.out i
              have z0 : w6.cell? ⟨w1.heap.size, 0, none⟩ = some (.int .i64 (K : Int)) := cell_of R6.out 0
              have z1 : w6.cell? ⟨w1.heap.size, 1, none⟩ = some (.int .i64 0) := cell_of R6.out 1
              have z2 : w6.cell? ⟨w1.heap.size, 2, none⟩ = some (.bool Y0) := cell_of R6.out 2
              have z3 : w6.cell? ⟨w1.heap.size, 3, none⟩ = some (.slice none 0 0) := cell_of R6.out 3
              have z4 : w6.cell? ⟨w1.heap.size, 4, none⟩ = some (.slice none 0 0) := cell_of R6.out 4
              go_wp2_with fail
              have Q6 := Lib.hid (And.intro (out5 (x := w.heap.size) O6.out.1 hg1 (.int .i64 (K : Int)) (.int .i64 0) (.bool Y0) (.slice none 0 0) (.slice none 0 0)) (out5 (x := w.heap.size) O6.out.2 hg1 (.int .i64 (K : Int)) (.int .i64 0) (.bool Y0) (.slice none 0 0) (.slice none 0 0)))
              have h7 := set5 X6.out rfl (.int .i64 (K : Int)) (.int .i64 0) (.bool Y0) (.slice none 0 0) (.slice none 0 0)
              have B7 := Lib.hid (below5 (x := w.heap.size) B6.out (Nat.le_refl _) (.int .i64 (K : Int)) (.int .i64 0) (.bool Y0) (.slice none 0 0) (.slice none 0 0))
              clear y0 y1 y2 y3 y4 qf z0 z1 z2 z3 z4
              generalize hW6 : ((((w6.setCell ⟨w.heap.size, 0, none⟩ (.int .i64 (K : Int))).setCell ⟨w.heap.size, 1, none⟩ (.int .i64 0)).setCell ⟨w.heap.size, 2, none⟩ (.bool Y0)).setCell ⟨w.heap.size, 3, none⟩ (.slice none 0 0)).setCell ⟨w.heap.size, 4, none⟩ (.slice none 0 0) = W6 at *
              have y0 : W6.cell? ⟨w.heap.size, 0, none⟩ = some (.int .i64 (K : Int)) := cell_of h7 0
              have y1 : W6.cell? ⟨w.heap.size, 1, none⟩ = some (.int .i64 0) := cell_of h7 1
              have y2 : W6.cell? ⟨w.heap.size, 2, none⟩ = some (.bool Y0) := cell_of h7 2
              have y3 : W6.cell? ⟨w.heap.size, 3, none⟩ = some (.slice none 0 0) := cell_of h7 3
              have y4 : W6.cell? ⟨w.heap.size, 4, none⟩ = some (.slice none 0 0) := cell_of h7 4
              exact bodyPost_ret (v := .tuple #[.agg #[.int .i64 (K : Int), .int .i64 0, .bool Y0, .slice none 0 0, .slice none 0 0], .int .i64 0]) (by clear hW6 h7; simp [results, Tryd.results26, go_sem, y0, y1, y2, y3, y4]) rfl (pas_ok2 HRR2.out HN3.out HN4.out Q6.out.1 Q6.out.2 B7.out)
            · have HRR2 := Lib.hid (HR.out.trans (pick_not (fun h => h2 h.2)))
              have dS : (lineZ (⟨(K : Int), 0, Y0, IDS, NUMS⟩ : Rp) != s) = true := by rw [show lineZ (⟨(K : Int), 0, Y0, IDS, NUMS⟩ : Rp) = lineS (⟨(K : Int), 0, Y0, IDS, NUMS⟩ : Rp) from if_pos h1]; exact bne_iff_ne.2 h2
              have dS' : (lineZ (⟨(K : Int), 0, Y0, IDS, NUMS⟩ : Rp) == s) = false := by rw [show lineZ (⟨(K : Int), 0, Y0, IDS, NUMS⟩ : Rp) = lineS (⟨(K : Int), 0, Y0, IDS, NUMS⟩ : Rp) from if_pos h1]; exact beq_false_of_ne h2
              rw [h1] at PL
              generalize lineZ (⟨(K : Int), 0, Y0, IDS, NUMS⟩ : Rp) = SL at *
              clear h1 h2 HR
              go_wp2_with fail
              refine (PL.out).mono ?_; rintro e w6 ⟨rfl, hb6⟩
              have B6 := Lib.hid (BWV.out.trans (hb6.mono BWV.out.size))
              have X6 := Lib.hid ((hb6.block _ (lt_of_block XV.out)).trans XV.out)
              have R6 := Lib.hid ((hb6.block _ (lt_of_block BXV.out)).trans BXV.out)
              have O6 := Lib.hid (And.intro (O3V.out.below hb6) (O4V.out.below hb6))
              clear hb6 PL z0 z1 z2 z3 z4 zf
              have y0 : w6.cell? ⟨w.heap.size, 0, none⟩ = some (.int .i64 0) := cell_of X6.out 0
              have y1 : w6.cell? ⟨w.heap.size, 1, none⟩ = some (.int .i64 0) := cell_of X6.out 1
              have y2 : w6.cell? ⟨w.heap.size, 2, none⟩ = some (.bool false) := cell_of X6.out 2
              have y3 : w6.cell? ⟨w.heap.size, 3, none⟩ = some (.slice none 0 0) := cell_of X6.out 3
              have y4 : w6.cell? ⟨w.heap.size, 4, none⟩ = some (.slice none 0 0) := cell_of X6.out 4
              have qf : ∀ i, w6.frozen? ⟨w.heap.size, i, none⟩ = false := fun i => free_of X6.out i
              have z0 : w6.cell? ⟨w1.heap.size, 0, none⟩ = some (.int .i64 (K : Int)) := cell_of R6.out 0
              have z1 : w6.cell? ⟨w1.heap.size, 1, none⟩ = some (.int .i64 0) := cell_of R6.out 1
              have z2 : w6.cell? ⟨w1.heap.size, 2, none⟩ = some (.bool Y0) := cell_of R6.out 2
              have z3 : w6.cell? ⟨w1.heap.size, 3, none⟩ = some (.slice none 0 0) := cell_of R6.out 3
              have z4 : w6.cell? ⟨w1.heap.size, 4, none⟩ = some (.slice none 0 0) := cell_of R6.out 4
              go_wp2_with fail
              have h7 := set5 X6.out rfl (.int .i64 0) (.int .i64 0) (.bool false) (.slice none 0 0) (.slice none 0 0)
              have B7 := Lib.hid (below5 (x := w.heap.size) B6.out (Nat.le_refl _) (.int .i64 0) (.int .i64 0) (.bool false) (.slice none 0 0) (.slice none 0 0))
              clear y0 y1 y2 y3 y4 qf z0 z1 z2 z3 z4
              generalize hW6 : ((((w6.setCell ⟨w.heap.size, 0, none⟩ (.int .i64 0)).setCell ⟨w.heap.size, 1, none⟩ (.int .i64 0)).setCell ⟨w.heap.size, 2, none⟩ (.bool false)).setCell ⟨w.heap.size, 3, none⟩ (.slice none 0 0)).setCell ⟨w.heap.size, 4, none⟩ (.slice none 0 0) = W6 at *
              have y0 : W6.cell? ⟨w.heap.size, 0, none⟩ = some (.int .i64 0) := cell_of h7 0
              have y1 : W6.cell? ⟨w.heap.size, 1, none⟩ = some (.int .i64 0) := cell_of h7 1
              have y2 : W6.cell? ⟨w.heap.size, 2, none⟩ = some (.bool false) := cell_of h7 2
              have y3 : W6.cell? ⟨w.heap.size, 3, none⟩ = some (.slice none 0 0) := cell_of h7 3
              have y4 : W6.cell? ⟨w.heap.size, 4, none⟩ = some (.slice none 0 0) := cell_of h7 4
              exact bodyPost_ret (v := .tuple #[.agg #[.int .i64 0, .int .i64 0, .bool false, .slice none 0 0, .slice none 0 0], .int .i64 15]) (by clear hW6 h7; simp [results, Tryd.results26, go_sem, y0, y1, y2, y3, y4]) rfl (pas_bad HRR2.out B7.out)
          · have HRR2 := Lib.hid (HR.out.trans (pick_not (fun h => h1 h.1)))
            have dK : (chk (⟨(K : Int), 0, Y0, IDS, NUMS⟩ : Rp) != 0) = true := bne_iff_ne.2 h1
            generalize lineZ (⟨(K : Int), 0, Y0, IDS, NUMS⟩ : Rp) = SL at *
            generalize chk (⟨(K : Int), 0, Y0, IDS, NUMS⟩ : Rp) = CK at *
            clear h1 HR
            go_wp2_with fail
            refine (PL.out).mono ?_; rintro e w6 ⟨rfl, hb6⟩
            have B6 := Lib.hid (BWV.out.trans (hb6.mono BWV.out.size))
            have X6 := Lib.hid ((hb6.block _ (lt_of_block XV.out)).trans XV.out)
            have R6 := Lib.hid ((hb6.block _ (lt_of_block BXV.out)).trans BXV.out)
            have O6 := Lib.hid (And.intro (O3V.out.below hb6) (O4V.out.below hb6))
            clear hb6 PL z0 z1 z2 z3 z4 zf
            have y0 : w6.cell? ⟨w.heap.size, 0, none⟩ = some (.int .i64 0) := cell_of X6.out 0
            have y1 : w6.cell? ⟨w.heap.size, 1, none⟩ = some (.int .i64 0) := cell_of X6.out 1
            have y2 : w6.cell? ⟨w.heap.size, 2, none⟩ = some (.bool false) := cell_of X6.out 2
            have y3 : w6.cell? ⟨w.heap.size, 3, none⟩ = some (.slice none 0 0) := cell_of X6.out 3
            have y4 : w6.cell? ⟨w.heap.size, 4, none⟩ = some (.slice none 0 0) := cell_of X6.out 4
            have qf : ∀ i, w6.frozen? ⟨w.heap.size, i, none⟩ = false := fun i => free_of X6.out i
            have z0 : w6.cell? ⟨w1.heap.size, 0, none⟩ = some (.int .i64 (K : Int)) := cell_of R6.out 0
            have z1 : w6.cell? ⟨w1.heap.size, 1, none⟩ = some (.int .i64 0) := cell_of R6.out 1
            have z2 : w6.cell? ⟨w1.heap.size, 2, none⟩ = some (.bool Y0) := cell_of R6.out 2
            have z3 : w6.cell? ⟨w1.heap.size, 3, none⟩ = some (.slice none 0 0) := cell_of R6.out 3
            have z4 : w6.cell? ⟨w1.heap.size, 4, none⟩ = some (.slice none 0 0) := cell_of R6.out 4
            go_wp2_with fail
            have h7 := set5 X6.out rfl (.int .i64 0) (.int .i64 0) (.bool false) (.slice none 0 0) (.slice none 0 0)
            have B7 := Lib.hid (below5 (x := w.heap.size) B6.out (Nat.le_refl _) (.int .i64 0) (.int .i64 0) (.bool false) (.slice none 0 0) (.slice none 0 0))
            clear y0 y1 y2 y3 y4 qf z0 z1 z2 z3 z4
            generalize hW6 : ((((w6.setCell ⟨w.heap.size, 0, none⟩ (.int .i64 0)).setCell ⟨w.heap.size, 1, none⟩ (.int .i64 0)).setCell ⟨w.heap.size, 2, none⟩ (.bool false)).setCell ⟨w.heap.size, 3, none⟩ (.slice none 0 0)).setCell ⟨w.heap.size, 4, none⟩ (.slice none 0 0) = W6 at *
            have y0 : W6.cell? ⟨w.heap.size, 0, none⟩ = some (.int .i64 0) := cell_of h7 0
            have y1 : W6.cell? ⟨w.heap.size, 1, none⟩ = some (.int .i64 0) := cell_of h7 1
            have y2 : W6.cell? ⟨w.heap.size, 2, none⟩ = some (.bool false) := cell_of h7 2
            have y3 : W6.cell? ⟨w.heap.size, 3, none⟩ = some (.slice none 0 0) := cell_of h7 3
            have y4 : W6.cell? ⟨w.heap.size, 4, none⟩ = some (.slice none 0 0) := cell_of h7 4
            exact bodyPost_ret (v := .tuple #[.agg #[.int .i64 0, .int .i64 0, .bool false, .slice none 0 0, .slice none 0 0], .int .i64 15]) (by clear hW6 h7; simp [results, Tryd.results26, go_sem, y0, y1, y2, y3, y4]) rfl (pas_bad HRR2.out B7.out)
        · have PL := Lib.hid (line_any (ls_out (q := (⟨(K : Int), 0, Y0, IDS, NUMS⟩ : Rp)) HN3.out HN4.out O3V.out O4V.out) HI.out hl1 hl2)
          have PL : Hid (Calls Tryd.prog 24 #[.agg #[.int .i64 (K : Int), .int .i64 0, .bool Y0, .slice none 0 0, .slice none 0 0]] wr fun e w' => e = .returned (.tuple #[.string ⟨(lineZ (⟨(K : Int), 0, Y0, IDS, NUMS⟩ : Rp)).toArray⟩, .int .i64 (chk (⟨(K : Int), 0, Y0, IDS, NUMS⟩ : Rp))]) ∧ Below wr.heap.size wr w') := Lib.hid (by
            have h := PL.out
            dsimp only at h
            rw [HN3.out, HN4.out] at h
            exact h)
          by_cases h1 : chk (⟨(K : Int), 0, Y0, IDS, NUMS⟩ : Rp) = 0
          · by_cases h2 : lineS (⟨(K : Int), 0, Y0, IDS, NUMS⟩ : Rp) = s
            · have HRR2 := Lib.hid (HR.out.trans (pick_yes h1 h2))
              rw [show lineZ (⟨(K : Int), 0, Y0, IDS, NUMS⟩ : Rp) = s from (if_pos h1).trans h2, h1] at PL
              clear h1 h2 HR
              go_wp2_with fail
              refine (PL.out).mono ?_; rintro e w6 ⟨rfl, hb6⟩
              have B6 := Lib.hid (BWV.out.trans (hb6.mono BWV.out.size))
              have X6 := Lib.hid ((hb6.block _ (lt_of_block XV.out)).trans XV.out)
              have R6 := Lib.hid ((hb6.block _ (lt_of_block BXV.out)).trans BXV.out)
              have O6 := Lib.hid (And.intro (O3V.out.below hb6) (O4V.out.below hb6))
              clear hb6 PL z0 z1 z2 z3 z4 zf
              have y0 : w6.cell? ⟨w.heap.size, 0, none⟩ = some (.int .i64 0) := cell_of X6.out 0
              have y1 : w6.cell? ⟨w.heap.size, 1, none⟩ = some (.int .i64 0) := cell_of X6.out 1
              have y2 : w6.cell? ⟨w.heap.size, 2, none⟩ = some (.bool false) := cell_of X6.out 2
              have y3 : w6.cell? ⟨w.heap.size, 3, none⟩ = some (.slice none 0 0) := cell_of X6.out 3
              have y4 : w6.cell? ⟨w.heap.size, 4, none⟩ = some (.slice none 0 0) := cell_of X6.out 4
              have qf : ∀ i, w6.frozen? ⟨w.heap.size, i, none⟩ = false := fun i => free_of X6.out i
              have z0 : w6.cell? ⟨w1.heap.size, 0, none⟩ = some (.int .i64 (K : Int)) := cell_of R6.out 0
              have z1 : w6.cell? ⟨w1.heap.size, 1, none⟩ = some (.int .i64 0) := cell_of R6.out 1
              have z2 : w6.cell? ⟨w1.heap.size, 2, none⟩ = some (.bool Y0) := cell_of R6.out 2
              have z3 : w6.cell? ⟨w1.heap.size, 3, none⟩ = some (.slice none 0 0) := cell_of R6.out 3
              have z4 : w6.cell? ⟨w1.heap.size, 4, none⟩ = some (.slice none 0 0) := cell_of R6.out 4
              go_wp2_with fail
              have Q6 := Lib.hid (And.intro (out5 (x := w.heap.size) O6.out.1 hg1 (.int .i64 (K : Int)) (.int .i64 0) (.bool Y0) (.slice none 0 0) (.slice none 0 0)) (out5 (x := w.heap.size) O6.out.2 hg1 (.int .i64 (K : Int)) (.int .i64 0) (.bool Y0) (.slice none 0 0) (.slice none 0 0)))
              have h7 := set5 X6.out rfl (.int .i64 (K : Int)) (.int .i64 0) (.bool Y0) (.slice none 0 0) (.slice none 0 0)
              have B7 := Lib.hid (below5 (x := w.heap.size) B6.out (Nat.le_refl _) (.int .i64 (K : Int)) (.int .i64 0) (.bool Y0) (.slice none 0 0) (.slice none 0 0))
              clear y0 y1 y2 y3 y4 qf z0 z1 z2 z3 z4
              generalize hW6 : ((((w6.setCell ⟨w.heap.size, 0, none⟩ (.int .i64 (K : Int))).setCell ⟨w.heap.size, 1, none⟩ (.int .i64 0)).setCell ⟨w.heap.size, 2, none⟩ (.bool Y0)).setCell ⟨w.heap.size, 3, none⟩ (.slice none 0 0)).setCell ⟨w.heap.size, 4, none⟩ (.slice none 0 0) = W6 at *
              have y0 : W6.cell? ⟨w.heap.size, 0, none⟩ = some (.int .i64 (K : Int)) := cell_of h7 0
              have y1 : W6.cell? ⟨w.heap.size, 1, none⟩ = some (.int .i64 0) := cell_of h7 1
              have y2 : W6.cell? ⟨w.heap.size, 2, none⟩ = some (.bool Y0) := cell_of h7 2
              have y3 : W6.cell? ⟨w.heap.size, 3, none⟩ = some (.slice none 0 0) := cell_of h7 3
              have y4 : W6.cell? ⟨w.heap.size, 4, none⟩ = some (.slice none 0 0) := cell_of h7 4
              exact bodyPost_ret (v := .tuple #[.agg #[.int .i64 (K : Int), .int .i64 0, .bool Y0, .slice none 0 0, .slice none 0 0], .int .i64 0]) (by clear hW6 h7; simp [results, Tryd.results26, go_sem, y0, y1, y2, y3, y4]) rfl (pas_ok2 HRR2.out HN3.out HN4.out Q6.out.1 Q6.out.2 B7.out)
            · have HRR2 := Lib.hid (HR.out.trans (pick_not (fun h => h2 h.2)))
              have dS : (lineZ (⟨(K : Int), 0, Y0, IDS, NUMS⟩ : Rp) != s) = true := by rw [show lineZ (⟨(K : Int), 0, Y0, IDS, NUMS⟩ : Rp) = lineS (⟨(K : Int), 0, Y0, IDS, NUMS⟩ : Rp) from if_pos h1]; exact bne_iff_ne.2 h2
              have dS' : (lineZ (⟨(K : Int), 0, Y0, IDS, NUMS⟩ : Rp) == s) = false := by rw [show lineZ (⟨(K : Int), 0, Y0, IDS, NUMS⟩ : Rp) = lineS (⟨(K : Int), 0, Y0, IDS, NUMS⟩ : Rp) from if_pos h1]; exact beq_false_of_ne h2
              rw [h1] at PL
              generalize lineZ (⟨(K : Int), 0, Y0, IDS, NUMS⟩ : Rp) = SL at *
              clear h1 h2 HR
              go_wp2_with fail
              refine (PL.out).mono ?_; rintro e w6 ⟨rfl, hb6⟩
              have B6 := Lib.hid (BWV.out.trans (hb6.mono BWV.out.size))
              have X6 := Lib.hid ((hb6.block _ (lt_of_block XV.out)).trans XV.out)
              have R6 := Lib.hid ((hb6.block _ (lt_of_block BXV.out)).trans BXV.out)
              have O6 := Lib.hid (And.intro (O3V.out.below hb6) (O4V.out.below hb6))
              clear hb6 PL z0 z1 z2 z3 z4 zf
              have y0 : w6.cell? ⟨w.heap.size, 0, none⟩ = some (.int .i64 0) := cell_of X6.out 0
              have y1 : w6.cell? ⟨w.heap.size, 1, none⟩ = some (.int .i64 0) := cell_of X6.out 1
              have y2 : w6.cell? ⟨w.heap.size, 2, none⟩ = some (.bool false) := cell_of X6.out 2
              have y3 : w6.cell? ⟨w.heap.size, 3, none⟩ = some (.slice none 0 0) := cell_of X6.out 3
              have y4 : w6.cell? ⟨w.heap.size, 4, none⟩ = some (.slice none 0 0) := cell_of X6.out 4
              have qf : ∀ i, w6.frozen? ⟨w.heap.size, i, none⟩ = false := fun i => free_of X6.out i
              have z0 : w6.cell? ⟨w1.heap.size, 0, none⟩ = some (.int .i64 (K : Int)) := cell_of R6.out 0
              have z1 : w6.cell? ⟨w1.heap.size, 1, none⟩ = some (.int .i64 0) := cell_of R6.out 1
              have z2 : w6.cell? ⟨w1.heap.size, 2, none⟩ = some (.bool Y0) := cell_of R6.out 2
              have z3 : w6.cell? ⟨w1.heap.size, 3, none⟩ = some (.slice none 0 0) := cell_of R6.out 3
              have z4 : w6.cell? ⟨w1.heap.size, 4, none⟩ = some (.slice none 0 0) := cell_of R6.out 4
              go_wp2_with fail
              have h7 := set5 X6.out rfl (.int .i64 0) (.int .i64 0) (.bool false) (.slice none 0 0) (.slice none 0 0)
              have B7 := Lib.hid (below5 (x := w.heap.size) B6.out (Nat.le_refl _) (.int .i64 0) (.int .i64 0) (.bool false) (.slice none 0 0) (.slice none 0 0))
              clear y0 y1 y2 y3 y4 qf z0 z1 z2 z3 z4
              generalize hW6 : ((((w6.setCell ⟨w.heap.size, 0, none⟩ (.int .i64 0)).setCell ⟨w.heap.size, 1, none⟩ (.int .i64 0)).setCell ⟨w.heap.size, 2, none⟩ (.bool false)).setCell ⟨w.heap.size, 3, none⟩ (.slice none 0 0)).setCell ⟨w.heap.size, 4, none⟩ (.slice none 0 0) = W6 at *
              have y0 : W6.cell? ⟨w.heap.size, 0, none⟩ = some (.int .i64 0) := cell_of h7 0
              have y1 : W6.cell? ⟨w.heap.size, 1, none⟩ = some (.int .i64 0) := cell_of h7 1
              have y2 : W6.cell? ⟨w.heap.size, 2, none⟩ = some (.bool false) := cell_of h7 2
              have y3 : W6.cell? ⟨w.heap.size, 3, none⟩ = some (.slice none 0 0) := cell_of h7 3
              have y4 : W6.cell? ⟨w.heap.size, 4, none⟩ = some (.slice none 0 0) := cell_of h7 4
              exact bodyPost_ret (v := .tuple #[.agg #[.int .i64 0, .int .i64 0, .bool false, .slice none 0 0, .slice none 0 0], .int .i64 15]) (by clear hW6 h7; simp [results, Tryd.results26, go_sem, y0, y1, y2, y3, y4]) rfl (pas_bad HRR2.out B7.out)
          · have HRR2 := Lib.hid (HR.out.trans (pick_not (fun h => h1 h.1)))
            have dK : (chk (⟨(K : Int), 0, Y0, IDS, NUMS⟩ : Rp) != 0) = true := bne_iff_ne.2 h1
            generalize lineZ (⟨(K : Int), 0, Y0, IDS, NUMS⟩ : Rp) = SL at *
            generalize chk (⟨(K : Int), 0, Y0, IDS, NUMS⟩ : Rp) = CK at *
            clear h1 HR
            go_wp2_with fail
            refine (PL.out).mono ?_; rintro e w6 ⟨rfl, hb6⟩
            have B6 := Lib.hid (BWV.out.trans (hb6.mono BWV.out.size))
            have X6 := Lib.hid ((hb6.block _ (lt_of_block XV.out)).trans XV.out)
            have R6 := Lib.hid ((hb6.block _ (lt_of_block BXV.out)).trans BXV.out)
            have O6 := Lib.hid (And.intro (O3V.out.below hb6) (O4V.out.below hb6))
            clear hb6 PL z0 z1 z2 z3 z4 zf
            have y0 : w6.cell? ⟨w.heap.size, 0, none⟩ = some (.int .i64 0) := cell_of X6.out 0
            have y1 : w6.cell? ⟨w.heap.size, 1, none⟩ = some (.int .i64 0) := cell_of X6.out 1
            have y2 : w6.cell? ⟨w.heap.size, 2, none⟩ = some (.bool false) := cell_of X6.out 2
            have y3 : w6.cell? ⟨w.heap.size, 3, none⟩ = some (.slice none 0 0) := cell_of X6.out 3
            have y4 : w6.cell? ⟨w.heap.size, 4, none⟩ = some (.slice none 0 0) := cell_of X6.out 4
            have qf : ∀ i, w6.frozen? ⟨w.heap.size, i, none⟩ = false := fun i => free_of X6.out i
            have z0 : w6.cell? ⟨w1.heap.size, 0, none⟩ = some (.int .i64 (K : Int)) := cell_of R6.out 0
            have z1 : w6.cell? ⟨w1.heap.size, 1, none⟩ = some (.int .i64 0) := cell_of R6.out 1
            have z2 : w6.cell? ⟨w1.heap.size, 2, none⟩ = some (.bool Y0) := cell_of R6.out 2
            have z3 : w6.cell? ⟨w1.heap.size, 3, none⟩ = some (.slice none 0 0) := cell_of R6.out 3
            have z4 : w6.cell? ⟨w1.heap.size, 4, none⟩ = some (.slice none 0 0) := cell_of R6.out 4
            go_wp2_with fail
            have h7 := set5 X6.out rfl (.int .i64 0) (.int .i64 0) (.bool false) (.slice none 0 0) (.slice none 0 0)
            have B7 := Lib.hid (below5 (x := w.heap.size) B6.out (Nat.le_refl _) (.int .i64 0) (.int .i64 0) (.bool false) (.slice none 0 0) (.slice none 0 0))
            clear y0 y1 y2 y3 y4 qf z0 z1 z2 z3 z4
            generalize hW6 : ((((w6.setCell ⟨w.heap.size, 0, none⟩ (.int .i64 0)).setCell ⟨w.heap.size, 1, none⟩ (.int .i64 0)).setCell ⟨w.heap.size, 2, none⟩ (.bool false)).setCell ⟨w.heap.size, 3, none⟩ (.slice none 0 0)).setCell ⟨w.heap.size, 4, none⟩ (.slice none 0 0) = W6 at *
            have y0 : W6.cell? ⟨w.heap.size, 0, none⟩ = some (.int .i64 0) := cell_of h7 0
            have y1 : W6.cell? ⟨w.heap.size, 1, none⟩ = some (.int .i64 0) := cell_of h7 1
            have y2 : W6.cell? ⟨w.heap.size, 2, none⟩ = some (.bool false) := cell_of h7 2
            have y3 : W6.cell? ⟨w.heap.size, 3, none⟩ = some (.slice none 0 0) := cell_of h7 3
            have y4 : W6.cell? ⟨w.heap.size, 4, none⟩ = some (.slice none 0 0) := cell_of h7 4
            exact bodyPost_ret (v := .tuple #[.agg #[.int .i64 0, .int .i64 0, .bool false, .slice none 0 0, .slice none 0 0], .int .i64 15]) (by clear hW6 h7; simp [results, Tryd.results26, go_sem, y0, y1, y2, y3, y4]) rfl (pas_bad HRR2.out B7.out)
end Go.Proofs.YtlmdkcpiimpniaaDoor

/- ConfigOrder: the walk. -/
import Derived.Test.YtabihdhgonnihaaDoorZzd
import Derived.Deep.RegionHeld3
namespace Go.Proofs.YtabihdhgonnihaaDoor
open Go.ChangeShapes Go.WideShapes Go.ChangeAt Go.RowKit
set_option linter.unusedVariables false
set_option linter.unusedSimpArgs false

set_option maxRecDepth 100000 in
set_option maxHeartbeats 80000000 in
theorem order_walk (a b c d o n : Int) (w : World) (hE : Env w) (wa : (Lit.int .u64 a).wf = true) (wb : (Lit.int .u16 b).wf = true) (wc : (Lit.int .u16 c).wf = true) (wd : (Lit.int .u16 d).wf = true) (wo : (Lit.int .u8 o).wf = true) (wn : (Lit.int .u8 n).wf = true) :
    Calls Tryd.prog 3 #[.int .u64 a, .int .u16 b, .int .u16 c, .int .u16 d, .int .u8 o, .int .u8 n] w fun e w' => e = .returned (.bool true) ∧ Below w.heap.size w w' := by
  obtain ⟨A, rfl, hA⟩ := nat_u64 wa
  obtain ⟨B, rfl, hB⟩ := nat_u16 wb
  obtain ⟨C, rfl, hC⟩ := nat_u16 wc
  obtain ⟨D, rfl, hD⟩ := nat_u16 wd
  obtain ⟨O, rfl, hO⟩ := nat_u8 wo
  obtain ⟨N, rfl, hN⟩ := nat_u8 wn
  obtain ⟨b0, b1, b2, b3⟩ := bit_table ⟨N, hN⟩
  simp only at b0 b1 b2 b3
  have HN := Lib.hid hN
  have HO := Lib.hid hO
  have HE := Lib.hid hE
  have P1 := Lib.hid (pdrawn A B C D hA hB hC hD w)
  have FO := Lib.hid (drawn_ok A B C D)
  have FW := Lib.hid (drawn_wrong A B C D)
  generalize drawnC A B C D = f at *
  clear hE hA hB hC hD wa wb wc wd wo wn hN hO
  have P2 := Lib.hid (fun w' => pdefault w')
  go_enter Tryd.func3, Tryd.ntmps3
  go_wp2_with fail
  refine (P1.out).mono ?_; rintro e w0 ⟨rfl, hb0⟩
  have B0 := Lib.hid hb0
  have Q2 := Lib.hid (P2.out w0)
  clear hb0 P1 P2
  go_wp2_with fail
  refine (Q2.out).mono ?_; rintro e w1 ⟨rfl, hb1⟩
  have S0 : Hid (CkW w w1.heap.size (w1.heap.size + 1) (ck f N 0) ((w1.alloc (.cells #[.int .i64 f.a, .int .i64 f.b, .int .i64 f.c, .int .i64 f.d] 25)).alloc (.cells #[.int .i64 60, .int .i64 1024, .int .i64 1024, .int .i64 1024] 25))) := Lib.hid (by
    have hB1 := B0.out.trans (hb1.mono B0.out.size)
    refine ⟨by rw [show ck f N 0 = f by simp [ck]]; exact block_old (block_new _ _) _, ?_, (hB1.alloc hB1.size _).alloc (by have := hB1.size; simp; omega) _⟩
    have := block_new (w1.alloc (.cells #[.int .i64 f.a, .int .i64 f.b, .int .i64 f.c, .int .i64 f.d] 25)) (.cells #[.int .i64 60, .int .i64 1024, .int .i64 1024, .int .i64 1024] 25)
    rwa [show (w1.alloc (.cells #[.int .i64 f.a, .int .i64 f.b, .int .i64 f.c, .int .i64 f.d] 25)).heap.size = w1.heap.size + 1 by simp] at this)
  have HP : Hid (w.heap.size ≤ w1.heap.size) := Lib.hid (B0.out.trans (hb1.mono B0.out.size)).size
  clear hb1 Q2 B0
  go_upto_if 40 with fail
  generalize ((w1.alloc (.cells #[.int .i64 f.a, .int .i64 f.b, .int .i64 f.c, .int .i64 f.d] 25)).alloc (.cells #[.int .i64 60, .int .i64 1024, .int .i64 1024, .int .i64 1024] 25)) = W at *
  have hS := S0.out
  clear S0
  have SK := Lib.hid hS
  have cd : W.cell? ⟨w1.heap.size + 1, 0, none⟩ = some (.int .i64 60) := cell_of hS.d 0
  have cc : W.cell? ⟨w1.heap.size, 0, none⟩ = some (.int .i64 (ck f N 0).a) := cell_of hS.c 0
  have cz : W.frozen? ⟨w1.heap.size, 0, none⟩ = false := free_of hS.c 0
  have l1 := lt_of_block hS.c
  have l2 := lt_of_block hS.d
  have CS := Lib.hid (ck_step f N (k := 0) (by omega))
  clear hS
  generalize hb0 : bit N 0 = tb at b0 CS
  go_cut [] (fun wx => CkW w w1.heap.size (w1.heap.size + 1) (ck f N 1) wx)
  case first =>
    generalize ck f N 0 = gk at *
    cases tb
    · go_wp2_with fail
      go_meet
      rw [CS.out, if_neg (by decide)]
      exact SK.out
    · go_wp2_with fail
      go_meet
      rw [CS.out, if_pos (by trivial)]
      exact SK.out.set HP.out (by omega) (by omega) _
  case rest =>
    have hS := hcut
    clear SK cd cc cz l1 l2 CS hcut b0 hb0
    go_upto_if 46 with fail
    have SK := Lib.hid hS
    have cd : wc.cell? ⟨w1.heap.size + 1, 1, none⟩ = some (.int .i64 1024) := cell_of hS.d 1
    have cc : wc.cell? ⟨w1.heap.size, 1, none⟩ = some (.int .i64 (ck f N 1).b) := cell_of hS.c 1
    have cz : wc.frozen? ⟨w1.heap.size, 1, none⟩ = false := free_of hS.c 1
    have l1 := lt_of_block hS.c
    have l2 := lt_of_block hS.d
    have CS := Lib.hid (ck_step f N (k := 1) (by omega))
    clear hS
    generalize hb1 : bit N 1 = tb at b1 CS
    go_cut [] (fun wx => CkW w w1.heap.size (w1.heap.size + 1) (ck f N 2) wx)
    case first =>
      generalize ck f N 1 = gk at *
      cases tb
      · go_wp2_with fail
        go_meet
        rw [CS.out, if_neg (by decide)]
        exact SK.out
      · go_wp2_with fail
        go_meet
        rw [CS.out, if_pos (by trivial)]
        exact SK.out.set HP.out (by omega) (by omega) _
    case rest =>
      have hS := hcut
      clear SK cd cc cz l1 l2 CS hcut b1 hb1
      go_upto_if 52 with fail
      have SK := Lib.hid hS
      have cd : wc.cell? ⟨w1.heap.size + 1, 2, none⟩ = some (.int .i64 1024) := cell_of hS.d 2
      have cc : wc.cell? ⟨w1.heap.size, 2, none⟩ = some (.int .i64 (ck f N 2).c) := cell_of hS.c 2
      have cz : wc.frozen? ⟨w1.heap.size, 2, none⟩ = false := free_of hS.c 2
      have l1 := lt_of_block hS.c
      have l2 := lt_of_block hS.d
      have CS := Lib.hid (ck_step f N (k := 2) (by omega))
      clear hS
      generalize hb2 : bit N 2 = tb at b2 CS
      go_cut [] (fun wx => CkW w w1.heap.size (w1.heap.size + 1) (ck f N 3) wx)
      case first =>
        generalize ck f N 2 = gk at *
        cases tb
        · go_wp2_with fail
          go_meet
          rw [CS.out, if_neg (by decide)]
          exact SK.out
        · go_wp2_with fail
          go_meet
          rw [CS.out, if_pos (by trivial)]
          exact SK.out.set HP.out (by omega) (by omega) _
      case rest =>
        have hS := hcut
        clear SK cd cc cz l1 l2 CS hcut b2 hb2
        go_upto_if 58 with fail
        have SK := Lib.hid hS
        have cd : wc.cell? ⟨w1.heap.size + 1, 3, none⟩ = some (.int .i64 1024) := cell_of hS.d 3
        have cc : wc.cell? ⟨w1.heap.size, 3, none⟩ = some (.int .i64 (ck f N 3).d) := cell_of hS.c 3
        have cz : wc.frozen? ⟨w1.heap.size, 3, none⟩ = false := free_of hS.c 3
        have l1 := lt_of_block hS.c
        have l2 := lt_of_block hS.d
        have CS := Lib.hid (ck_step f N (k := 3) (by omega))
        clear hS
        generalize hb3 : bit N 3 = tb at b3 CS
        go_cut [] (fun wx => CkW w w1.heap.size (w1.heap.size + 1) (ck f N 4) wx)
        case first =>
          generalize ck f N 3 = gk at *
          cases tb
          · go_wp2_with fail
            go_meet
            rw [CS.out, if_neg (by decide)]
            exact SK.out
          · go_wp2_with fail
            go_meet
            rw [CS.out, if_pos (by trivial)]
            exact SK.out.set HP.out (by omega) (by omega) _
        case rest =>
          have hS := hcut
          clear SK cd cc cz l1 l2 CS hcut b3 hb3
          have FO4 := Lib.hid (ck_ok FO.out N 4)
          have FW4 := Lib.hid (ck_wrong FW.out N 4)
          have SP := Lib.hid (some_plain FW4.out)
          have TP := Lib.hid (turned_plain FW4.out HO.out)
          have TT := Lib.hid (turned_two (f := ck f N 4) HO.out)
          obtain ⟨c0, c1, c2, c3⟩ := At4.of hS.c
          have CB := Lib.hid hS.c
          have B1 := Lib.hid hS.below
          clear hS FO FW
          generalize ck f N 4 = g at *
          have PT := Lib.hid (ptext_ok (HE.out.below B1.out) g FO4.out FW4.out)
          have hsp4 : sp (txt g 4) = [st g 0, st g 1, st g 2, st g 3] := by
            have := parts_txt FW4.out
            unfold parts at this
            rwa [if_neg (text_ne g)] at this
          have PS := Lib.hid (fun w' (hb : Below w.heap.size w w') => settings_call (HE.out.below hb) (s := txt g 4) (by have := txt_short FO4.out; omega) (by rw [hsp4]; rfl))
          rw [hsp4] at PS
          have TL := Lib.hid (txt_short FO4.out)
          have BAD := Lib.hid (And.intro (bad_end FW4.out) (And.intro (bad_front (txt g 4)) (And.intro (fun j (hj : j < 4) => bad_twice FW4.out hj) (And.intro (bad_upper FW4.out) (And.intro (bad_signs FW4.out) (bad_line FW4.out))))))
          have STL : Hid (∀ i, i < 4 → (st g i).length ≤ 100) := Lib.hid (fun i hi => by
            have h1 := nm_len i
            have h2 := dec_len19 (valid_nat FW4.out hi).2
            unfold st; simp; omega)
          have TASC := Lib.hid (text_ascii FW4.out)
          have TCNT := Lib.hid (text_signs g)
          generalize txt g 4 = t at *
          clear hsp4
          go_wp2_with fail
          refine (PT.out).mono ?_; rintro e w2 ⟨rfl, hb2⟩
          have B2 := Lib.hid (B1.out.trans (hb2.mono B1.out.size))
          have C2 := Lib.hid ((hb2.block _ (lt_of_block CB.out)).trans CB.out)
          have Q3 := Lib.hid (PS.out w2 B2.out)
          clear hb2 PT PS c0 c1 c2 c3 B1 CB
          go_wp2_with fail
          refine (Q3.out).mono ?_; rintro e w3 ⟨rfl, hw3⟩
          have hb3 : Below w2.heap.size w2 w3 := by rw [hw3]; exact Below.alloc (Below.refl _ _) (Nat.le_refl _) _
          have G3 : Hid (w3.heap[w2.heap.size]? = some (.cells (strs [st g 0, st g 1, st g 2, st g 3]) 9 (0, 0))) := Lib.hid (by rw [hw3]; exact block_new _ _)
          have B3 := Lib.hid (B2.out.trans (hb3.mono B2.out.size))
          have C3 := Lib.hid ((hb3.block _ (lt_of_block C2.out)).trans C2.out)
          generalize w2.heap.size = gl at *
          have hnil := ne_nil gl w3
          clear hw3 hb3 Q3 C2 B2
          go_wp2_with fail
          clear hnil
          obtain ⟨s0, s1, s2, s3⟩ := shr_table ⟨N, HN.out⟩
          simp only at s0 s1 s2 s3
          have SH := Lib.hid (And.intro s0 (And.intro s1 (And.intro s2 s3)))
          clear s0 s1 s2 s3
          go_loopw [18, 77] (fun v18 v77 wr => ∃ (i : Nat) (z : Int), i ≤ 4 ∧ v77 = .int .i64 z ∧ z = (i : Int) ∧ OutR 1 encS 9 wr w3.heap.size v18 ((someI N i).map (st g)) ∧ Below w3.heap.size w3 wr) (fun _ v77 _ => 4 - (intOf v77).toNat)
          case atStart => exact ⟨0, 0, by omega, rfl, rfl, own_nilS _ _, Below.refl _ _⟩
          case round =>
            obtain ⟨i, z, hi4, rfl, hz, ho, hb⟩ := hrel
            have OS := Lib.hid ho
            have BS := Lib.hid hb
            have h5 : i = 0 ∨ i = 1 ∨ i = 2 ∨ i = 3 ∨ i = 4 := by omega
            clear hi4 ho hb
            rcases h5 with rfl | rfl | rfl | rfl | rfl
            · obtain rfl : z = 0 := by omega
              clear hz
              have hs := SH.out.1
              have SS := Lib.hid (some_step N 0)
              have LEN : Hid (((someI N 0).map (st g)).length ≤ 4) := Lib.hid (by have := List.length_filter_le (fun i => !bit N i) (List.range 0); rw [List.length_range] at this; rw [List.length_map]; unfold someI; omega)
              have cg : wr.cell? ⟨gl, 0, none⟩ = some (.string ⟨(st g 0).toArray⟩) := by rw [(bcell BS.out).1 gl 0 (lt_of_block G3.out)]; exact strs_cell G3.out (i := 0) (by simp)
              generalize bit N 0 = tb at *
              cases tb
              · simp only [Bool.not_false] at hs
                have A1 := Lib.hid (Below.alloc (Below.refl wr.heap.size wr) (Nat.le_refl _) (.cells #[.string ⟨(st g 0).toArray⟩] 9))
                have O1 := Lib.hid (OS.out.below A1.out)
                have S1 := Lib.hid (one_slS wr (st g 0))
                obtain ⟨ca, cc, rfl⟩ := own_shape OS.out.row
                have hsz := Nat.le_trans BS.out.size A1.out.size
                go_wp2_with (at_builtin; refine wpList_appStrs rfl (.tmp 85) (.tmp 90) rfl rfl O1.out hsz S1.out rfl (by have := LEN.out; omega) ?_)
                intro v5 w5 h1 h2 h3 h4
                have ON : Hid (OutR 1 encS 9 w5 w3.heap.size v5 ((someI N (0 + 1)).map (st g))) := Lib.hid (by rw [SS.out, if_neg (by decide), List.map_append]; exact h1)
                have BN := Lib.hid (BS.out.trans ((A1.out.mono BS.out.size).trans h3))
                clear h1 h2 h3 h4 hsz A1 O1 S1
                go_wp2_with fail
                go_roundw
                case rel => exact ⟨0 + 1, _, by omega, rfl, by omega, ON.out, BN.out⟩
                case measure => simp [intOf]
              · simp only [Bool.not_true] at hs
                have ON : Hid (OutR 1 encS 9 wr w3.heap.size u18 ((someI N (0 + 1)).map (st g))) := Lib.hid (by rw [SS.out, if_pos (by trivial), List.append_nil]; exact OS.out)
                go_wp2_with fail
                go_roundw
                case rel => exact ⟨0 + 1, _, by omega, rfl, by omega, ON.out, BS.out⟩
                case measure => simp [intOf]
            · obtain rfl : z = 1 := by omega
              clear hz
              have hs := SH.out.2.1
              have SS := Lib.hid (some_step N 1)
              have LEN : Hid (((someI N 1).map (st g)).length ≤ 4) := Lib.hid (by have := List.length_filter_le (fun i => !bit N i) (List.range 1); rw [List.length_range] at this; rw [List.length_map]; unfold someI; omega)
              have cg : wr.cell? ⟨gl, 1, none⟩ = some (.string ⟨(st g 1).toArray⟩) := by rw [(bcell BS.out).1 gl 1 (lt_of_block G3.out)]; exact strs_cell G3.out (i := 1) (by simp)
              generalize bit N 1 = tb at *
              cases tb
              · simp only [Bool.not_false] at hs
                have A1 := Lib.hid (Below.alloc (Below.refl wr.heap.size wr) (Nat.le_refl _) (.cells #[.string ⟨(st g 1).toArray⟩] 9))
                have O1 := Lib.hid (OS.out.below A1.out)
                have S1 := Lib.hid (one_slS wr (st g 1))
                obtain ⟨ca, cc, rfl⟩ := own_shape OS.out.row
                have hsz := Nat.le_trans BS.out.size A1.out.size
                go_wp2_with (at_builtin; refine wpList_appStrs rfl (.tmp 85) (.tmp 90) rfl rfl O1.out hsz S1.out rfl (by have := LEN.out; omega) ?_)
                intro v5 w5 h1 h2 h3 h4
                have ON : Hid (OutR 1 encS 9 w5 w3.heap.size v5 ((someI N (1 + 1)).map (st g))) := Lib.hid (by rw [SS.out, if_neg (by decide), List.map_append]; exact h1)
                have BN := Lib.hid (BS.out.trans ((A1.out.mono BS.out.size).trans h3))
                clear h1 h2 h3 h4 hsz A1 O1 S1
                go_wp2_with fail
                go_roundw
                case rel => exact ⟨1 + 1, _, by omega, rfl, by omega, ON.out, BN.out⟩
                case measure => simp [intOf]
              · simp only [Bool.not_true] at hs
                have ON : Hid (OutR 1 encS 9 wr w3.heap.size u18 ((someI N (1 + 1)).map (st g))) := Lib.hid (by rw [SS.out, if_pos (by trivial), List.append_nil]; exact OS.out)
                go_wp2_with fail
                go_roundw
                case rel => exact ⟨1 + 1, _, by omega, rfl, by omega, ON.out, BS.out⟩
                case measure => simp [intOf]
            · obtain rfl : z = 2 := by omega
              clear hz
              have hs := SH.out.2.2.1
              have SS := Lib.hid (some_step N 2)
              have LEN : Hid (((someI N 2).map (st g)).length ≤ 4) := Lib.hid (by have := List.length_filter_le (fun i => !bit N i) (List.range 2); rw [List.length_range] at this; rw [List.length_map]; unfold someI; omega)
              have cg : wr.cell? ⟨gl, 2, none⟩ = some (.string ⟨(st g 2).toArray⟩) := by rw [(bcell BS.out).1 gl 2 (lt_of_block G3.out)]; exact strs_cell G3.out (i := 2) (by simp)
              generalize bit N 2 = tb at *
              cases tb
              · simp only [Bool.not_false] at hs
                have A1 := Lib.hid (Below.alloc (Below.refl wr.heap.size wr) (Nat.le_refl _) (.cells #[.string ⟨(st g 2).toArray⟩] 9))
                have O1 := Lib.hid (OS.out.below A1.out)
                have S1 := Lib.hid (one_slS wr (st g 2))
                obtain ⟨ca, cc, rfl⟩ := own_shape OS.out.row
                have hsz := Nat.le_trans BS.out.size A1.out.size
                go_wp2_with (at_builtin; refine wpList_appStrs rfl (.tmp 85) (.tmp 90) rfl rfl O1.out hsz S1.out rfl (by have := LEN.out; omega) ?_)
                intro v5 w5 h1 h2 h3 h4
                have ON : Hid (OutR 1 encS 9 w5 w3.heap.size v5 ((someI N (2 + 1)).map (st g))) := Lib.hid (by rw [SS.out, if_neg (by decide), List.map_append]; exact h1)
                have BN := Lib.hid (BS.out.trans ((A1.out.mono BS.out.size).trans h3))
                clear h1 h2 h3 h4 hsz A1 O1 S1
                go_wp2_with fail
                go_roundw
                case rel => exact ⟨2 + 1, _, by omega, rfl, by omega, ON.out, BN.out⟩
                case measure => simp [intOf]
              · simp only [Bool.not_true] at hs
                have ON : Hid (OutR 1 encS 9 wr w3.heap.size u18 ((someI N (2 + 1)).map (st g))) := Lib.hid (by rw [SS.out, if_pos (by trivial), List.append_nil]; exact OS.out)
                go_wp2_with fail
                go_roundw
                case rel => exact ⟨2 + 1, _, by omega, rfl, by omega, ON.out, BS.out⟩
                case measure => simp [intOf]
            · obtain rfl : z = 3 := by omega
              clear hz
              have hs := SH.out.2.2.2
              have SS := Lib.hid (some_step N 3)
              have LEN : Hid (((someI N 3).map (st g)).length ≤ 4) := Lib.hid (by have := List.length_filter_le (fun i => !bit N i) (List.range 3); rw [List.length_range] at this; rw [List.length_map]; unfold someI; omega)
              have cg : wr.cell? ⟨gl, 3, none⟩ = some (.string ⟨(st g 3).toArray⟩) := by rw [(bcell BS.out).1 gl 3 (lt_of_block G3.out)]; exact strs_cell G3.out (i := 3) (by simp)
              generalize bit N 3 = tb at *
              cases tb
              · simp only [Bool.not_false] at hs
                have A1 := Lib.hid (Below.alloc (Below.refl wr.heap.size wr) (Nat.le_refl _) (.cells #[.string ⟨(st g 3).toArray⟩] 9))
                have O1 := Lib.hid (OS.out.below A1.out)
                have S1 := Lib.hid (one_slS wr (st g 3))
                obtain ⟨ca, cc, rfl⟩ := own_shape OS.out.row
                have hsz := Nat.le_trans BS.out.size A1.out.size
                go_wp2_with (at_builtin; refine wpList_appStrs rfl (.tmp 85) (.tmp 90) rfl rfl O1.out hsz S1.out rfl (by have := LEN.out; omega) ?_)
                intro v5 w5 h1 h2 h3 h4
                have ON : Hid (OutR 1 encS 9 w5 w3.heap.size v5 ((someI N (3 + 1)).map (st g))) := Lib.hid (by rw [SS.out, if_neg (by decide), List.map_append]; exact h1)
                have BN := Lib.hid (BS.out.trans ((A1.out.mono BS.out.size).trans h3))
                clear h1 h2 h3 h4 hsz A1 O1 S1
                go_wp2_with fail
                go_roundw
                case rel => exact ⟨3 + 1, _, by omega, rfl, by omega, ON.out, BN.out⟩
                case measure => simp [intOf]
              · simp only [Bool.not_true] at hs
                have ON : Hid (OutR 1 encS 9 wr w3.heap.size u18 ((someI N (3 + 1)).map (st g))) := Lib.hid (by rw [SS.out, if_pos (by trivial), List.append_nil]; exact OS.out)
                go_wp2_with fail
                go_roundw
                case rel => exact ⟨3 + 1, _, by omega, rfl, by omega, ON.out, BS.out⟩
                case measure => simp [intOf]
            · obtain rfl : z = 4 := by omega
              clear hz SH
              obtain ⟨w4, rfl⟩ : ∃ w4, w4 = wr := ⟨_, rfl⟩
              have B4 := Lib.hid (B3.out.trans (BS.out.mono B3.out.size))
              have G4 := Lib.hid ((BS.out.block _ (lt_of_block G3.out)).trans G3.out)
              have C4 := Lib.hid ((BS.out.block _ (lt_of_block C3.out)).trans C3.out)
              have A1 := Lib.hid (Below.alloc (Below.refl w4.heap.size w4) (Nat.le_refl _) (.cells #[] 9))
              have E1 := Lib.hid (own_emptyS w4)
              have S1 := Lib.hid (l_sl (block_old G4.out (.cells #[] 9)) (by simp))
              have OSO := Lib.hid (fun w' (hb : Below w4.heap.size w4 w') => (OutR.weakS (OS.out.below hb) (Nat.zero_le _)))
              clear B3 G3 C3 BS OS
              go_wp2_with (at_builtin; refine wpList_appStrs rfl (.tmp 93) (.tmp 94) rfl rfl E1.out A1.out.size S1.out rfl (by simp) ?_)
              intro v6 w6 h1 h2 h3 h4
              have OL6 : Hid (OutR 1 encS 9 w6 w4.heap.size v6 ((lz O 0).2.1.map (st g))) := Lib.hid h1
              have B6 := Lib.hid (A1.out.trans h3)
              have HO64 : Hid (wrap64 (O : Int) = (O : Int)) := Lib.hid (by have := HO.out; unfold wrap64; omega)
              clear h1 h2 h3 h4 A1 E1 S1
              go_wp2_with fail
              go_loopw [19, 21, 22, 23] (fun v19 v21 v22 v23 wr => ∃ (s k : Nat) (z : Int), s ≤ 4 ∧ v22 = .int .i64 z ∧ z = 4 - (s : Int) ∧ v23 = .int .i64 (k : Int) ∧ (lz O s).2.2 = k ∧ k < 256 ∧ OutR 1 encS 9 wr w4.heap.size v19 ((lz O s).1.map (st g)) ∧ OutR 1 encS 9 wr w4.heap.size v21 ((lz O s).2.1.map (st g)) ∧ (∀ x, v19.ownBlock = some x → v21.ownBlock ≠ some x) ∧ Below w4.heap.size w4 wr) (fun _ _ v22 _ _ => (intOf v22).toNat)
              case atStart => exact ⟨0, O, 4, by omega, rfl, rfl, by rw [HO64.out], rfl, HO.out, own_nilS _ _, OL6.out, (fun x hx => by cases hx), B6.out⟩
              case round =>
                obtain ⟨s, k, z, hs4, rfl, hz, rfl, hk, hk256, ho1, ho2, hsep, hb⟩ := hrel
                have LZL := lz_len ⟨O, HO.out⟩
                simp only at LZL
                have HK := Lib.hid hk
                clear OL6 B6 hk
                by_cases hs : s < 4
                · obtain ⟨n, hn⟩ : ∃ n, n = 4 - s := ⟨_, rfl⟩
                  have hzn : z = (n : Int) := by omega
                  subst hzn
                  have hn1 : 1 ≤ n := by omega
                  have hn4 : n ≤ 4 := by omega
                  have hll : ((lz O s).2.1.map (st g)).length = n := by
                    rw [List.length_map]
                    have h4 : s = 0 ∨ s = 1 ∨ s = 2 ∨ s = 3 := by omega
                    rcases h4 with rfl | rfl | rfl | rfl
                    · rw [LZL.1]; omega
                    · rw [LZL.2.1]; omega
                    · rw [LZL.2.2.1]; omega
                    · rw [LZL.2.2.2.1]; omega
                  have htl : ((lz O s).1.map (st g)).length ≤ 4 := by
                    rw [List.length_map]
                    have h4 : s = 0 ∨ s = 1 ∨ s = 2 ∨ s = 3 := by omega
                    rcases h4 with rfl | rfl | rfl | rfl
                    · exact Nat.zero_le _
                    · rw [LZL.2.2.2.2.1]; omega
                    · rw [LZL.2.2.2.2.2.1]; omega
                    · rw [LZL.2.2.2.2.2.2]; omega
                  have LZ := Lib.hid (fun r (hr : k % n = r) hlt => lz_stepS g O s rfl rfl HK.out (r := r) (by rw [← hn]; exact hr) hlt)
                  rw [← hn] at LZ
                  have HSN : Hid (s < 4 ∧ n = 4 - s) := Lib.hid ⟨hs, hn⟩
                  generalize (lz O s).1.map (st g) = ts at *
                  generalize (lz O s).2.1.map (st g) = ls at *
                  obtain ⟨gL, cap, rfl, SL, hgB, hgl, hcap, hcell⟩ := outS_sl ho2 (by intro e; rw [e] at hll; simp at hll; omega)
                  rw [hll] at hcap ho2 ⊢
                  obtain ⟨ca, cc, rfl⟩ := own_shape ho1.row
                  have OT := Lib.hid ho1
                  have OL := Lib.hid ho2
                  have SEP := Lib.hid hsep
                  have BL := Lib.hid hb
                  have HLL := Lib.hid hll
                  have HTL := Lib.hid htl
                  have HCAP := Lib.hid hcap
                  have HGL := Lib.hid hgl
                  obtain ⟨r, hr⟩ : ∃ r, k % n = r := ⟨_, rfl⟩
                  have hrn : r < n := by rw [← hr]; exact Nat.mod_lt _ (by omega)
                  have HQW : Hid (wrap64 ((k / n : Nat) : Int) = ((k / n : Nat) : Int)) := Lib.hid ((fun (q : Nat) (hq : q < 256) => w64_in (x := (q : Int)) (by omega) (by omega)) (k / n) (Nat.lt_of_le_of_lt (Nat.div_le_self k n) hk256))
                  have HA1 : Hid (([] : List Str).length + r ≤ 1000) := Lib.hid (by simp; omega)
                  have HA2 : Hid ((([] : List Str) ++ ls.take r).length + (n - (r + 1)) ≤ 1000) := Lib.hid (by simp; omega)
                  have HR1 : Hid (r ≤ n ∧ r ≤ cap ∧ 0 < cap ∧ r + 1 ≤ n) := Lib.hid ⟨by omega, by omega, by omega, by omega⟩
                  have HRI : Hid ((r : Int) + 1 = ((r + 1 : Nat) : Int)) := Lib.hid (by simp)
                  have HNX : Hid (s + 1 ≤ 4 ∧ (n : Int) - 1 = 4 - ((s + 1 : Nat) : Int) ∧ 1 ≤ n) := Lib.hid ⟨by omega, by omega, by omega⟩
                  have hre : (k : Int) % (n : Int) = (r : Int) := by rw [← hr]; exact (Int.natCast_emod k n).symm
                  have hrt : (k : Int).tmod (n : Int) = (r : Int) := by rw [Int.tmod_eq_emod_of_nonneg (by omega)]; exact hre
                  have HQ2 : Hid ((k : Int) / (n : Int) = ((k / n : Nat) : Int)) := Lib.hid (Int.natCast_ediv k n).symm
                  have HQ3 : Hid ((k : Int).tdiv (n : Int) = ((k / n : Nat) : Int)) := Lib.hid (by rw [Int.tdiv_eq_ediv_of_nonneg (by omega)]; exact (Int.natCast_ediv k n).symm)
                  have HKD : Hid (k / n < 256) := Lib.hid (by have := Nat.div_le_self k n; omega)
                  obtain ⟨L1, L2, L3⟩ := LZ.out r hr (by rw [hll]; exact hrn)
                  have cx := hcell r (by rw [hll]; exact hrn)
                  obtain ⟨x, hx⟩ : ∃ x, ls[r]'(by rw [hll]; exact hrn) = x := ⟨_, rfl⟩
                  rw [hx] at L1 cx
                  clear hx
                  have HL1 := Lib.hid L1
                  have HL2 := Lib.hid L2
                  have HL3 := Lib.hid L3
                  have HRN := Lib.hid hrn
                  have e1 : decide (0 < n) = true := by simp; omega
                  have e2 : decide ((0 : Int) < (n : Int)) = true := by simp; omega
                  have e3 : ((n : Int) == 0) = false := by simp; omega
                  have e4 : ¬ (n : Int) = 0 := by omega
                  have e5 : ¬ n = 0 := by omega
                  have e6 : (r : Int) < (n : Int) := by omega
                  have e7 : IntKind.i64.wrap (r : Int) = (r : Int) := k64_in (by omega) (by omega)
                  have e8 : IntKind.i64.wrap ((r : Int) + 1) = (r : Int) + 1 := k64_in (by omega) (by omega)
                  have e10 : IntKind.i64.wrap ((n : Int) - 1) = (n : Int) - 1 := k64_in (by omega) (by omega)
                  have e12 : wrap64 (r : Int) = (r : Int) := w64_in (by omega) (by omega)
                  have e13 : wrap64 ((n : Int) - 1) = (n : Int) - 1 := w64_in (by omega) (by omega)
                  clear L1 L2 L3 hr LZ hcell LZL ho1 ho2 hsep hb hll htl SL hgB hn hs hk256 hs4 hz
                  have A1 := Lib.hid (Below.alloc (Below.refl wr.heap.size wr) (Nat.le_refl _) (.cells #[.string ⟨x.toArray⟩] 9))
                  have O1 := Lib.hid (OT.out.below A1.out)
                  have S1 := Lib.hid (one_slS wr x)
                  have hsz := Nat.le_trans BL.out.size A1.out.size
                  go_wp2_with (at_builtin; refine wpList_appStrs rfl (.tmp 102) (.tmp 109) rfl rfl O1.out hsz S1.out rfl (by have := HTL.out; omega) ?_)
                  intro v5 w5 h1 h2 h3 h4
                  have OT5 := Lib.hid h1
                  have OL5 := Lib.hid ((OL.out.below A1.out).touchS h2 (fun y hy e => SEP.out y e hy))
                  have BL5 := Lib.hid (BL.out.trans ((A1.out.mono BL.out.size).trans h3))
                  have SL5 : Hid (IsSl 1 encS w5 (some ⟨gL, 0, none⟩) n cap ls) := Lib.hid (IsSl.of_own encS_len (by have := OL5.out.1; rwa [HLL.out] at this) HLL.out)
                  have ST5 := Lib.hid (SL5.out.take (k := r) HR1.out.1)
                  have SD5 := Lib.hid (SL5.out.tail (l := r + 1) HR1.out.2.2.2)
                  have hs1 := run_to (P := Tryd.prog) (t := 31) (e := 9) (sz := 1) Tryd.underlying31 size9 (a := some ⟨gL, 0, none⟩) (len := n) (cap := cap) (h := (r : Int)) (k := r) rfl HR1.out.2.1
                  rw [part_0 gL HR1.out.2.2.1] at hs1
                  have hs2 := run_from (P := Tryd.prog) (t := 31) (e := 9) (sz := 1) Tryd.underlying31 size9 (a := some ⟨gL, 0, none⟩) (len := n) (cap := cap) (l := (r : Int) + 1) (k := r + 1) HRI.out HR1.out.2.2.2
                  generalize part (some ⟨gL, 0, none⟩) (r + 1) cap 1 = pp at *
                  generalize cap - (r + 1) = cc2 at *
                  generalize n - (r + 1) = m2 at *
                  clear h1 h2 h3 h4 hsz A1 O1 S1 OT OL SEP BL HGL cx SL5
                  go_wp2_with fail
                  go_region_held3 (fun w' => Below w5.heap.size w5 w')
                    (first | assumption | exact Below.drewR (Below.refl _ _) | exact Below.trans (by assumption) m3 | exact Below.trans (by assumption) k3 | exact Below.alloc (by assumption) (Below.size (by assumption)) _)
                    (first
                      | (refine step_appStrs rfl (.tmp 111) (.tmp 116) rfl (B := w5.heap.size) (v := .slice (some ⟨w5.heap.size, 0, none⟩) 0 0) (by simp [Act.eval, Act.put]) (by first | exact own_emptyS w5.drew | exact e_drew (own_emptyS w5) | exact own_emptyS w5) (Below.size (by assumption)) (ST5.out.below (by assumption)) (by simp [Act.eval, Act.put]) HA1.out ?_; intro v8 w8 k1 k2 k3 k4)
                      | (refine step_appStrs rfl (.tmp 117) (.tmp 123) rfl (B := w5.heap.size) (v := v8) (by simp [Act.eval, Act.put]) k1 (Below.size (by assumption)) (SD5.out.below (by assumption)) (by simp [Act.eval, Act.put]) HA2.out ?_; intro v9 w9 m1 m2x m3 m4))
                  have B9 : Hid (Below w5.heap.size w5 w9) := Lib.hid (by assumption)
                  have R1 : Hid (OutR 1 encS 9 w9 w4.heap.size v5 ((lz O (s + 1)).1.map (st g))) := Lib.hid (by rw [HL1.out]; exact OT5.out.below B9.out)
                  have R2 : Hid (OutR 1 encS 9 w9 w4.heap.size v9 ((lz O (s + 1)).2.1.map (st g))) := Lib.hid (by rw [HL2.out]; exact m1.weakS BL5.out.size)
                  have R3 : Hid (∀ y, v5.ownBlock = some y → v9.ownBlock ≠ some y) := Lib.hid (fun y hy e => by
                    exact absurd (own_lt OT5.out.1 hy) (Nat.not_lt.2 (m1.2 y e)))
                  have R4 := Lib.hid (BL5.out.trans (B9.out.mono BL5.out.size))
                  clear k1 k2 k3 k4 m1 m2x m3 m4 hs1 hs2 HA1 HA2 HRI
                  go_wp2_with fail
                  go_roundw
                  case rel => exact ⟨s + 1, k / n, _, HNX.out.1, rfl, HNX.out.2.1, by first | rw [HQ2.out, HQW.out] | rw [HQ3.out, HQW.out], HL3.out, HKD.out, R1.out, R2.out, R3.out, R4.out⟩
                  case measure =>
                    have h1 := HNX.out.2.2
                    clear e1 e2 e3 e4 e5 e6 e7 e8 e10 e12 e13 hre hrt
                    simp [intOf]; omega
                · obtain rfl : s = 4 := by omega
                  obtain rfl : z = 0 := by omega
                  have LT := lz_table ⟨O, HO.out⟩
                  simp only at LT
                  have HTL : Hid (((lz O 4).1.map (st g)).length ≤ 4) := Lib.hid (by rw [List.length_map, LT.1]; exact Nat.le_refl _)
                  have HTS : Hid (∀ x ∈ (lz O 4).1.map (st g), x.length ≤ 100) := Lib.hid (fun x hx => by
                    obtain ⟨i, hi, rfl⟩ := List.mem_map.1 hx
                    exact STL.out i (LT.2.2.1 i hi))
                  have HSS : Hid (((someI N 4).map (st g)).length ≤ 4 ∧ ∀ x ∈ (someI N 4).map (st g), x.length ≤ 100) := Lib.hid (by
                    refine ⟨by have := List.length_filter_le (fun i => !bit N i) (List.range 4); rw [List.length_range] at this; rw [List.length_map]; unfold someI; exact this, fun x hx => ?_⟩
                    obtain ⟨i, hi, rfl⟩ := List.mem_map.1 hx
                    exact STL.out i (List.mem_range.1 (List.mem_filter.1 hi).1))
                  have OT := Lib.hid ho1
                  have OS5 := Lib.hid (OSO.out _ hb)
                  have BW := Lib.hid (B4.out.trans (hb.mono B4.out.size))
                  have CR := Lib.hid ((hb.block _ (lt_of_block C4.out)).trans C4.out)
                  have GR := Lib.hid ((hb.block _ (lt_of_block G4.out)).trans G4.out)
                  clear hz LZL ho1 ho2 hsep hb HK hk256 hs hs4 OSO B4 C4 G4 LT HO64
                  have J1 := Lib.hid (join_call OT.out HTS.out HTL.out [32] (by decide))
                  have J2 := Lib.hid (join_call OT.out HTS.out HTL.out [32, 32] (by decide))
                  have J3 := Lib.hid (join_call OT.out HTS.out HTL.out [44] (by decide))
                  have J4 := Lib.hid (join_call OS5.out HSS.out.2 HSS.out.1 [32] (by decide))
                  have HJL : Hid ((Lib.join ((lz O 4).1.map (st g)) [32]).length ≤ 500 ∧ (Lib.join ((lz O 4).1.map (st g)) [32, 32]).length ≤ 500 ∧ (Lib.join ((lz O 4).1.map (st g)) [44]).length ≤ 500 ∧ (Lib.join ((someI N 4).map (st g)) [32]).length ≤ 500) := Lib.hid (by
                    have h1 := join_len [32] (by decide) _ HTS.out
                    have h2 := join_len [32, 32] (by decide) _ HTS.out
                    have h3 := join_len [44] (by decide) _ HTS.out
                    have h4 := join_len [32] (by decide) _ HSS.out.2
                    have h5 := HTL.out
                    have h6 := HSS.out.1
                    omega)
                  have PJ1 := Lib.hid (fun w' (hb : Below w.heap.size w w') => pparse (HE.out.below hb) (s := Lib.join ((lz O 4).1.map (st g)) [32]) (by have := HJL.out; omega))
                  have PJ4 := Lib.hid (fun w' (hb : Below w.heap.size w w') => pparse (HE.out.below hb) (s := Lib.join ((someI N 4).map (st g)) [32]) (by have := HJL.out; omega))
                  rw [TP.out] at PJ1
                  rw [SP.out] at PJ4
                  unfold ParR at PJ1 PJ4
                  dsimp only at PJ1 PJ4
                  have TWO := Lib.hid TT.out
                  clear SP TP TT
                  generalize Lib.join ((lz O 4).1.map (st g)) [32] = j1 at *
                  generalize Lib.join ((lz O 4).1.map (st g)) [32, 32] = j2 at *
                  generalize Lib.join ((lz O 4).1.map (st g)) [44] = j3 at *
                  generalize Lib.join ((someI N 4).map (st g)) [32] = j4 at *
                  have K1 := Lib.hid (J1.out wr (Below.refl _ _))
                  go_wp2_with fail
                  refine (K1.out).mono ?_; rintro e w5 ⟨rfl, hb5⟩
                  have B5 := Lib.hid hb5
                  have K2 := Lib.hid (PJ1.out w5 (BW.out.trans (hb5.mono BW.out.size)))
                  clear hb5 K1 J1 PJ1
                  go_wp2_with fail
                  refine (K2.out).mono ?_; rintro e w6 ⟨rfl, hb6⟩
                  have hb6' := hb6.alloc hb6.size (.cells #[.int .i64 g.a, .int .i64 g.b, .int .i64 g.c, .int .i64 g.d] 25)
                  have B6 := Lib.hid (B5.out.trans (hb6'.mono B5.out.size))
                  have X6 := Lib.hid (block_new w6 (.cells #[.int .i64 g.a, .int .i64 g.b, .int .i64 g.c, .int .i64 g.d] 25))
                  have K3 := Lib.hid (J4.out _ B6.out)
                  clear hb6 hb6' K2 J4 B5
                  go_wp2_with fail
                  refine (K3.out).mono ?_; rintro e w7 ⟨rfl, hb7⟩
                  have B7 := Lib.hid (B6.out.trans (hb7.mono B6.out.size))
                  have X7 := Lib.hid ((hb7.block _ (lt_of_block X6.out)).trans X6.out)
                  have K4 := Lib.hid (PJ4.out w7 (BW.out.trans (B7.out.mono BW.out.size)))
                  clear hb7 K3 PJ4 B6 X6
                  go_wp2_with fail
                  refine (K4.out).mono ?_; rintro e w8 ⟨rfl, hb8⟩
                  have hb8x := hb8.mono B7.out.size
                  have hb8' := hb8.alloc hb8.size (.cells #[.int .i64 g.a, .int .i64 g.b, .int .i64 g.c, .int .i64 g.d] 25)
                  have B8 := Lib.hid (B7.out.trans (hb8'.mono B7.out.size))
                  have C8 := Lib.hid ((B8.out.block _ (lt_of_block CR.out)).trans CR.out)
                  have X8 := Lib.hid ((hb8'.block _ (lt_of_block X7.out)).trans X7.out)
                  have Y8 := Lib.hid (block_new w8 (.cells #[.int .i64 g.a, .int .i64 g.b, .int .i64 g.c, .int .i64 g.d] 25))
                  have G8 := Lib.hid ((B8.out.block _ (lt_of_block GR.out)).trans GR.out)
                  have hc8 := ((B7.out.trans hb8x).block _ (lt_of_block CR.out)).trans CR.out
                  have hx8 := (hb8.block _ (lt_of_block X7.out)).trans X7.out
                  have lc := lt_of_block hc8
                  have lx := lt_of_block hx8
                  have c0 : w8.cell? ⟨w1.heap.size, 0, none⟩ = some (.int .i64 g.a) := cell_of hc8 0
                  have c1 : w8.cell? ⟨w1.heap.size, 1, none⟩ = some (.int .i64 g.b) := cell_of hc8 1
                  have c2 : w8.cell? ⟨w1.heap.size, 2, none⟩ = some (.int .i64 g.c) := cell_of hc8 2
                  have c3 : w8.cell? ⟨w1.heap.size, 3, none⟩ = some (.int .i64 g.d) := cell_of hc8 3
                  have x0 : w8.cell? ⟨w6.heap.size, 0, none⟩ = some (.int .i64 g.a) := cell_of hx8 0
                  have x1 : w8.cell? ⟨w6.heap.size, 1, none⟩ = some (.int .i64 g.b) := cell_of hx8 1
                  have x2 : w8.cell? ⟨w6.heap.size, 2, none⟩ = some (.int .i64 g.c) := cell_of hx8 2
                  have x3 : w8.cell? ⟨w6.heap.size, 3, none⟩ = some (.int .i64 g.d) := cell_of hx8 3
                  clear hb8 hb8x hb8' K4 B7 X7 hc8 hx8 CR GR
                  go_upto_region 32 with fail
                  have B8a := Lib.hid (BW.out.trans (B8.out.mono BW.out.size))
                  have HH := Lib.hid (J2.out)
                  generalize hW8 : w8.alloc (.cells #[.int .i64 g.a, .int .i64 g.b, .int .i64 g.c, .int .i64 g.d] 25) = W8 at *
                  clear c0 c1 c2 c3 x0 x1 x2 x3 lc lx hW8 C8 X8 Y8
                  obtain ⟨BD1, BD2, BD3, BD4, BD5, BD6⟩ := BAD.out
                  obtain ⟨j, hj⟩ : ∃ j, O % 4 = j := ⟨_, rfl⟩
                  have hj4 : j < 4 := by omega
                  have hji : (j : Int) < 4 := by omega
                  have hj0 : (0 : Int) ≤ (j : Int) := by omega
                  have hrt : (O : Int).tmod 4 = (j : Int) := by rw [Int.tmod_eq_emod_of_nonneg (by omega)]; omega
                  have hre : (O : Int) % 4 = (j : Int) := by omega
                  have TW := BD3 j hj4
                  have STJ := STL.out j hj4
                  have KG : Hid (∀ w', Below W8.heap.size W8 w' → w'.cell? ⟨gl, j, none⟩ = some (.string ⟨(st g j).toArray⟩)) := Lib.hid (fun w' hb => by
                    have := strs_cell ((hb.block _ (lt_of_block G8.out)).trans G8.out) (i := j) (by simpa using hj4)
                    rw [this]
                    have h4 : j = 0 ∨ j = 1 ∨ j = 2 ∨ j = 3 := by omega
                    rcases h4 with rfl | rfl | rfl | rfl <;> rfl)
                  generalize st g j = sj at *
                  have TLn := TL.out
                  have a1 := add_str (a := t) (b := [32]) (by simp; omega)
                  have a2 := add_str (a := [32]) (b := t) (by simp; omega)
                  have a4 := add_str (a := t) (b := [10]) (by simp; omega)
                  have a3 := add_str (a := t ++ [32]) (b := sj) (by simp; omega)
                  have BADS : Hid (∀ p ∈ [t ++ [32], 32 :: t, j2, t ++ [32] ++ sj, j3, Lib.toUpperA t, Lib.replaceAll t [61] [32, 61, 32], t ++ [10]], p.length ≤ 1000000 ∧ parse p = (zero, 15)) := Lib.hid (fun p hp => by
                    have hl2 := HJL.out
                    have hl3 := replaceAll_len t
                    have hl4 := TCNT.out
                    simp only [List.mem_cons, List.not_mem_nil, or_false] at hp
                    rcases hp with rfl | rfl | rfl | rfl | rfl | rfl | rfl | rfl
                    · exact ⟨by simp; omega, BD1⟩
                    · exact ⟨by simp; omega, BD2⟩
                    · exact ⟨by omega, TWO.out.1⟩
                    · exact ⟨by simp; omega, by rw [List.append_assoc]; exact TW⟩
                    · exact ⟨by omega, TWO.out.2⟩
                    · exact ⟨by unfold Lib.toUpperA; simp; omega, BD4⟩
                    · exact ⟨by omega, BD5⟩
                    · exact ⟨by simp; omega, BD6⟩)
                  have U1 : Hid (∀ w', Below W8.heap.size W8 w' → Calls Tryd.prog 19 #[.string ⟨t.toArray⟩] w' fun e w'' => e = .returned (.string ⟨(Lib.toUpperA t).toArray⟩) ∧ Below W8.heap.size W8 w'') := Lib.hid (fun w' hb => (upper_call TL.out TASC.out w').mono fun e w'' ⟨h1, h2⟩ => ⟨h1, hb.trans (h2.mono hb.size)⟩)
                  have U2 : Hid (∀ w', Below W8.heap.size W8 w' → Calls Tryd.prog 20 #[.string ⟨t.toArray⟩, .string ⟨#[61]⟩, .string ⟨#[32, 61, 32]⟩] w' fun e w'' => e = .returned (.string ⟨(Lib.replaceAll t [61] [32, 61, 32]).toArray⟩) ∧ Below W8.heap.size W8 w'') := Lib.hid (fun w' hb => (signs_call (HE.out.below B8a.out) TL.out TCNT.out w' hb).mono fun e w'' ⟨h1, h2⟩ => ⟨h1, hb.trans (h2.mono hb.size)⟩)
                  have UJ := Lib.hid (fun w' (hb : Below W8.heap.size W8 w') (sep res : Str) (hr : (sep = [32, 32] ∧ res = j2) ∨ (sep = [44] ∧ res = j3)) => (show Calls Tryd.prog 18 #[u19, .string ⟨sep.toArray⟩] w' fun e w'' => e = .returned (.string ⟨res.toArray⟩) ∧ Below W8.heap.size W8 w'' from by
                    rcases hr with ⟨rfl, rfl⟩ | ⟨rfl, rfl⟩
                    · exact (J2.out w' (B8.out.trans (hb.mono B8.out.size))).mono fun e w'' h => ⟨h.1, hb.trans (h.2.mono hb.size)⟩
                    · exact (J3.out w' (B8.out.trans (hb.mono B8.out.size))).mono fun e w'' h => ⟨h.1, hb.trans (h.2.mono hb.size)⟩))
                  have S1 : Hid (t ++ [32] = t ++ [32]) := Lib.hid rfl
                  generalize hs3 : t ++ [32] ++ sj = s3 at *
                  generalize hs1 : t ++ [32] = s1 at *
                  generalize hs4 : t ++ [10] = s4 at *
                  have hs2 : [32] ++ t = 32 :: t := rfl
                  rw [hs2] at a2
                  generalize hs22 : (32 :: t : Str) = s2 at *
                  generalize Lib.toUpperA t = s5 at *
                  generalize Lib.replaceAll t [61] [32, 61, 32] = s6 at *
                  have BR := Below.refl W8.heap.size W8
                  have cj := KG.out W8 BR
                  clear hs1 hs2 hs3 hs4 hs22 BD1 BD2 BD3 BD4 BD5 BD6 TW TLn STJ BAD HJL TWO TASC TCNT HTL HTS HSS OT OS5 J2 J3 HH S1 STL
                  go_region_held3 (fun w' => Below W8.heap.size W8 w' ∧ w'.cell? ⟨gl, j, none⟩ = some (.string ⟨sj.toArray⟩))
                    (first | exact ⟨BR, cj⟩ | exact ⟨Below.drewR BR, cj⟩ | exact ⟨by assumption, KG.out _ (by assumption)⟩ | exact ⟨Below.alloc (And.left (by assumption)) (Below.size (And.left (by assumption))) _, KG.out _ (Below.alloc (And.left (by assumption)) (Below.size (And.left (by assumption))) _)⟩)
                    (first
                      | (go_at_call 19; refine (U1.out _ (And.left (by assumption))).mono ?_; rintro e w9 ⟨rfl, hb9⟩)
                      | (go_at_call 20; refine (U2.out _ (And.left (by assumption))).mono ?_; rintro e w9 ⟨rfl, hb9⟩)
                      | (go_at_call 18; refine (UJ.out _ (And.left (by assumption)) _ _ (by first | exact Or.inl ⟨rfl, rfl⟩ | exact Or.inr ⟨rfl, rfl⟩)).mono ?_; rintro e w9 ⟨rfl, hb9⟩))
                  have HC : Hid ((w9.alloc (.cells #[.string ⟨s1.toArray⟩, .string ⟨s2.toArray⟩, .string ⟨j2.toArray⟩, .string ⟨s3.toArray⟩, .string ⟨j3.toArray⟩, .string ⟨s5.toArray⟩, .string ⟨s6.toArray⟩, .string ⟨s4.toArray⟩] 9)).heap[w9.heap.size]? = some (.cells (strs [s1, s2, j2, s3, j3, s5, s6, s4]) 9 (0, 0))) := Lib.hid (block_new _ _)
                  have HB : Hid (Below W8.heap.size W8 (w9.alloc (.cells #[.string ⟨s1.toArray⟩, .string ⟨s2.toArray⟩, .string ⟨j2.toArray⟩, .string ⟨s3.toArray⟩, .string ⟨j3.toArray⟩, .string ⟨s5.toArray⟩, .string ⟨s6.toArray⟩, .string ⟨s4.toArray⟩] 9))) := Lib.hid (hb9.alloc hb9.size _)
                  have BX := Lib.hid (B8a.out.trans (HB.out.mono B8a.out.size))
                  have WK := Lib.hid (fun w' (hb : Below w.heap.size w w') => works_any (HE.out.below hb))
                  clear U1 U2 UJ KG cj BR HB B8a hb9 a1 a2 a3 a4 hrt hre hj0 hji hj4
                  go_wp2_with fail
                  generalize w9.alloc (.cells #[.string ⟨s1.toArray⟩, .string ⟨s2.toArray⟩, .string ⟨j2.toArray⟩, .string ⟨s3.toArray⟩, .string ⟨j3.toArray⟩, .string ⟨s5.toArray⟩, .string ⟨s6.toArray⟩, .string ⟨s4.toArray⟩] 9) = W9 at *
                  have HBL : Hid (([s1, s2, j2, s3, j3, s5, s6, s4] : List Str).length = 8) := Lib.hid rfl
                  generalize ([s1, s2, j2, s3, j3, s5, s6, s4] : List Str) = bads at *
                  generalize w9.heap.size = gb at *
                  go_loopw [180] (fun v180 wr => ∃ (i : Nat), i ≤ 8 ∧ v180 = .int .i64 (i : Int) ∧ Below W9.heap.size W9 wr) (fun v180 _ => 8 - (intOf v180).toNat)
                  case atStart => exact ⟨0, by omega, rfl, Below.refl _ _⟩
                  case round =>
                    obtain ⟨i, hi8, rfl, hb⟩ := hrel
                    have BI := Lib.hid hb
                    have BIW := Lib.hid (BX.out.trans (hb.mono BX.out.size))
                    clear hb
                    by_cases hlt : i < 8
                    · have hli : (i : Int) < 8 := by omega
                      have hil : i < bads.length := by have := HBL.out; omega
                      have hcb := (BI.out.block _ (lt_of_block HC.out)).trans HC.out
                      have ci := strs_cell hcb hil
                      have hlb := lt_of_block hcb
                      obtain ⟨q1, q2⟩ := BADS.out bads[i] (List.getElem_mem hil)
                      have P := Lib.hid (pparse (HE.out.below BIW.out) (s := bads[i]) q1)
                      rw [q2] at P
                      unfold ParR at P
                      simp only [zero] at P
                      have HLT := Lib.hid hlt
                      generalize bads[i] = p at *
                      clear hcb q1 q2 hi8 hil
                      go_wp2_with fail
                      refine (P.out).mono ?_; rintro e w10 ⟨rfl, hb10⟩
                      have B10 := Lib.hid (BI.out.trans ((hb10.alloc hb10.size (.cells #[.int .i64 0, .int .i64 0, .int .i64 0, .int .i64 0] 25)).mono BI.out.size))
                      clear hb10 P ci hlb
                      go_wp2_with fail
                      go_roundw
                      case rel => exact ⟨i + 1, by have := HLT.out; omega, by go_num, B10.out⟩
                      case measure => simp [intOf]; have := HLT.out; omega
                    · obtain rfl : i = 8 := by omega
                      have W1 := Lib.hid (WK.out _ BIW.out)
                      clear hlt hi8
                      go_wp2_with fail
                      refine (W1.out).mono ?_; rintro e w11 ⟨rfl, hb11⟩
                      have B11 := Lib.hid (BIW.out.trans (hb11.mono BIW.out.size))
                      clear hb11 W1
                      go_wp2_with fail
                      go_ret
                      exact ⟨rfl, B11.out⟩
end Go.Proofs.YtabihdhgonnihaaDoor

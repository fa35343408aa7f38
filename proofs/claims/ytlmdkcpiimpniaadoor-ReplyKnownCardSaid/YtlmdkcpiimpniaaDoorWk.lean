/- ReplyKnown: the walk. -/
import Derived.Test.YtlmdkcpiimpniaaDoorXn
namespace Go.Proofs.YtlmdkcpiimpniaaDoor
open Go.ChangeShapes Go.WideShapes Go.ChangeAt Go.RowKit
set_option linter.unusedVariables false
set_option linter.unusedSimpArgs false

def Kn1 (w : World) (v4 : Value) (wr : World) : Prop := ∃ i : Nat, i ≤ 8 ∧ v4 = .int .i64 (i : Int) ∧ KnW w wr
def Kn2 (w : World) (G : Nat) (v10 : Value) (wr : World) : Prop := ∃ i : Nat, i ≤ 19 ∧ v10 = .int .i64 (i : Int) ∧ Below w.heap.size w wr ∧ ∃ G0, IsSl 5 enc5 wr (some ⟨G, 0, none⟩) 19 19 (k2V G0)
def Kn3 (w : World) (G : Nat) (v12 : Value) (wr : World) : Prop := ∃ i : Nat, i ≤ 26 ∧ v12 = .int .i64 (i : Int) ∧ Below w.heap.size w wr ∧ IsSl 1 encS wr (some ⟨G, 0, none⟩) 26 26 k3
theorem at_cells {W : World} {g n cap : Nat} {zs : List RV} (h : IsSl 5 enc5 W (some ⟨g, 0, none⟩) n cap zs) {i : Nat} (hi : i < zs.length) :
    W.cell? ⟨g, i * 5, none⟩ = some (.int .i64 zs[i].r.op) ∧ W.cell? ⟨g, i * 5 + 1, none⟩ = some (.int .i64 zs[i].r.er) ∧ W.cell? ⟨g, i * 5 + 2, none⟩ = some (.bool zs[i].r.yes) ∧ W.cell? ⟨g, i * 5 + 3, none⟩ = some (.slice zs[i].a zs[i].r.ids.length zs[i].c) ∧
      W.cell? ⟨g, i * 5 + 4, none⟩ = some (.slice zs[i].a' zs[i].r.nums.length zs[i].c') := by
  have := cell5 h hi
  simpa only [Nat.zero_add] using this
theorem at_word {W : World} {g n cap : Nat} {ws : List Str} (h : IsSl 1 encS W (some ⟨g, 0, none⟩) n cap ws) {i : Nat} (hi : i < ws.length) : W.cell? ⟨g, i, none⟩ = some (.string ⟨(ws.getD i []).toArray⟩) := by
  obtain ⟨_, _, e, h1⟩ := sl_str h hi
  cases e
  simpa only [Nat.zero_add] using h1
set_option maxRecDepth 100000 in
set_option maxHeartbeats 16000000 in
theorem known_walk (w : World) (hE : Env w) : Calls Tryd.prog 3 #[] w fun e w' => e = .returned (.bool true) ∧ Below w.heap.size w w' := by
  have HE := Lib.hid hE
  have PW := Lib.hid (fun W (hb : Below w.heap.size w W) => pworks (hE.below hb))
  have KS := Lib.hid (kn_start w)
  have mk10 : ∀ w, (Instr.makeSlice 23 (.int .i64 10) (.int .i64 10)).run Tryd.prog w = .ok (.slice (some ⟨w.heap.size, 0, none⟩) 10 10) (w.alloc (.cells (madeCells #[Value.int .i64 0] 10) 2)) := make_n 10 (by omega)
  obtain ⟨C1, hC1⟩ : ∃ C, C = madeCells #[Value.int .i64 0] 65536 := ⟨_, rfl⟩
  obtain ⟨C2, hC2⟩ : ∃ C, C = madeCells #[Value.int .i64 0] 65537 := ⟨_, rfl⟩
  obtain ⟨C3, hC3⟩ : ∃ C, C = madeCells #[Value.int .u8 0] 65537 := ⟨_, rfl⟩
  have mk1 : ∀ w, (Instr.makeSlice 23 (.int .i64 65536) (.int .i64 65536)).run Tryd.prog w = .ok (.slice (some ⟨w.heap.size, 0, none⟩) 65536 65536) (w.alloc (.cells C1 2)) := by rw [hC1]; exact make_n 65536 (by omega)
  have mk2 : ∀ w, (Instr.makeSlice 23 (.int .i64 65537) (.int .i64 65537)).run Tryd.prog w = .ok (.slice (some ⟨w.heap.size, 0, none⟩) 65537 65537) (w.alloc (.cells C2 2)) := by rw [hC2]; exact make_n 65537 (by omega)
  have mk3 : ∀ w, (Instr.makeSlice 31 (.int .i64 65537) (.int .i64 65537)).run Tryd.prog w = .ok (.slice (some ⟨w.heap.size, 0, none⟩) 65537 65537) (w.alloc (.cells C3 5)) := by rw [hC3]; exact make_y 65537 65537 (by omega) (by omega)
  have M1 : Hid (∀ (W : World) g, W.heap[g]? = some (.cells C1 2 (0, 0)) → IsK .i64 W (some ⟨g, 0, none⟩) 65536 65536 (List.replicate 65536 0)) := Lib.hid (fun W g h => by rw [hC1] at h; exact sl_z h (by omega))
  have M2 : Hid (∀ (W : World) g, W.heap[g]? = some (.cells C2 2 (0, 0)) → IsK .i64 W (some ⟨g, 0, none⟩) 65537 65537 (List.replicate 65537 0)) := Lib.hid (fun W g h => by rw [hC2] at h; exact sl_z h (by omega))
  have M3 : Hid (∀ W : World, (convert 31 9 (.slice (some ⟨W.heap.size, 0, none⟩) 65537 65537)).run Tryd.prog (W.alloc (.cells C3 5)) = .ok (.string ⟨(zS 65537).toArray⟩) (W.alloc (.cells C3 5))) := Lib.hid (fun W => by rw [hC3]; exact conv_sl (made_y W 65537 (by omega)) (zeros_by 65537))
  have HZ := Lib.hid (zS_len 65537)
  generalize zS 65537 = Z at *
  clear hC1 hC2 hC3
  clear hE
  go_enter Tryd.func3, Tryd.ntmps3
  go_wp2_with fail
  go_loopw [4] (fun v4 wr => Kn1 w v4 wr) (fun v4 _ => 8 - (intOf v4).toNat)
  case atStart => exact ⟨0, Nat.zero_le _, rfl, KS.out⟩
  case round =>
    obtain ⟨i, hi8, rfl, hk⟩ := hrel
    have K := Lib.hid hk
    have hsz := hk.below.size
    have hsb := lt_of_cell (at_cells hk.l.sl (i := 0) (show (0 : Nat) < 8 by omega)).1
    clear hk KS
    generalize wr = V1 at *
    by_cases hlt : i < 8
    · have h1 : i < (k1V w.heap.size).length := hlt
      have LX := K.out.l.ls _ (List.getElem_mem h1)
      obtain ⟨q1, q2, q3, q4⟩ := k1_at w.heap.size h1
      have XC := Lib.hid (fun W (hb : Below V1.heap.size V1 W) => at_cells (K.out.l.sl.below hb) h1)
      have XB := Lib.hid (fun W (hb : Below V1.heap.size V1 W) => at_word (K.out.b.below hb) (i := i) hlt)
      have XT := Lib.hid (fun W (hb : Below V1.heap.size V1 W) => at_word (K.out.t.below hb) (i := i) hlt)
      rw [q3] at XB
      rw [q4] at XT
      generalize (k1V w.heap.size)[i] = x at *
      obtain ⟨r, xa, xc, xb, xd⟩ := x
      have LX := Lib.hid (show LsR V1 r xa xc xb xd from LX)
      have P12 := Lib.hid (put_call (HE.out.below K.out.below) LX.out q1 q2)
      have P13 := Lib.hid (fun W (hb : Below V1.heap.size V1 W) => line_call (HE.out.below (K.out.below.trans (hb.mono K.out.below.size))) (LX.out.keep hb) q1 q2)
      have HB := Lib.hid (put_byte q2)
      have XC : Hid (∀ W, Below V1.heap.size V1 W → W.cell? ⟨w.heap.size + 4, i * 5, none⟩ = some (.int .i64 r.op) ∧ W.cell? ⟨w.heap.size + 4, i * 5 + 1, none⟩ = some (.int .i64 r.er) ∧ W.cell? ⟨w.heap.size + 4, i * 5 + 2, none⟩ = some (.bool r.yes) ∧ W.cell? ⟨w.heap.size + 4, i * 5 + 3, none⟩ = some (.slice xa r.ids.length xc) ∧ W.cell? ⟨w.heap.size + 4, i * 5 + 4, none⟩ = some (.slice xb r.nums.length xd)) := XC
      clear q1 q2 q3 q4
      obtain ⟨x0, x1, x2, x3, x4⟩ := XC.out V1 (Below.refl _ _)
      go_wp2_with fail
      refine (P12.out).mono ?_; rintro e w2 ⟨pp, L, pq, rfl, hk2, hb2⟩
      have B2 := Lib.hid hb2
      have K2 := Lib.hid hk2
      have Q13 := Lib.hid (P13.out w2 hb2)
      clear hk2 hb2 P12 P13 x0 x1 x2 x3 x4
      obtain ⟨x0, x1, x2, x3, x4⟩ := XC.out w2 B2.out
      go_wp2_with fail
      refine (Q13.out).mono ?_; rintro e w3 ⟨rfl, hb3⟩
      have B3 := Lib.hid (B2.out.trans (hb3.mono B2.out.size))
      have cv := fun N => conv_sl ((K2.out.below hb3).below (below_dn (Below.refl w3.heap.size w3) N)) HB.out
      have xb0 := fun N => XB.out _ (below_dn B3.out N)
      have xt0 := fun N => XT.out _ (below_dn B3.out N)
      have hsz3 := hb3.size
      have hsz2 := B2.out.size
      clear hb3 x0 x1 x2 x3 x4 XC XB XT Q13 K2 HB
      generalize strB (putR r) = SB at *
      generalize lineS r = SL at *
      go_wp2_with fail
      go_quiet (fail)
      clear cv xb0 xt0
      have KN := Lib.hid (fun N => K.out.keep (below_dn B3.out N))
      go_wp2_with fail
      go_roundw
      case rel => exact ⟨i + 1, hlt, by go_num, KN.out _⟩
      case measure => simp [intOf]; omega
    · have BV := Lib.hid K.out.below
      have KO := Lib.hid (kn_odd V1)
      clear K hi8 hsb
      go_wp2_with fail
      go_loopw [10] (fun v10 wr => Kn2 w (V1.heap.size + 11) v10 wr) (fun v10 _ => 19 - (intOf v10).toNat)
      case atStart => exact ⟨0, Nat.zero_le _, rfl, BV.out.trans (KO.out.1.mono BV.out.size), _, KO.out.2⟩
      case round =>
        obtain ⟨i, hi8, rfl, hb, G0, hs⟩ := hrel
        have B := Lib.hid hb
        have S5 := Lib.hid hs
        have hsb := lt_of_cell (at_cells hs (i := 0) (show (0 : Nat) < 19 by omega)).1
        clear hb hs KO
        generalize wr = V2 at *
        by_cases hlt : i < 19
        · have h1 : i < (k2V G0).length := hlt
          obtain ⟨q1, q2, q3⟩ := k2_at G0 h1
          have XC := at_cells S5.out h1
          generalize (k2V G0)[i] = x at *
          obtain ⟨r, xa, xc, xb, xd⟩ := x
          have P14 := Lib.hid (pcheck (HE.out.below B.out) r xa xc xb xd q2 q3)
          unfold rpV at P14
          rw [show chk r = 2 from q1] at P14
          obtain ⟨x0, x1, x2, x3, x4⟩ := XC
          clear q1 q2 q3
          simp only at x0 x1 x2 x3 x4
          go_wp2_with fail
          refine (P14.out).mono ?_; rintro e w2 ⟨rfl, hb2⟩
          have B2 := Lib.hid (B.out.trans (hb2.mono B.out.size))
          have S2 := Lib.hid (S5.out.below hb2)
          clear hb2 P14 x0 x1 x2 x3 x4
          go_wp2_with fail
          go_roundw
          case rel => exact ⟨i + 1, hlt, by go_num, B2.out, _, S2.out⟩
          case measure => simp [intOf]; omega
        · have KT := Lib.hid (kn_texts V2)
          clear S5 hi8 hsb
          go_wp2_with fail
          go_loopw [12] (fun v12 wr => Kn3 w V2.heap.size v12 wr) (fun v12 _ => 26 - (intOf v12).toNat)
          case atStart => exact ⟨0, Nat.zero_le _, rfl, B.out.trans (KT.out.1.mono B.out.size), KT.out.2⟩
          case round =>
            obtain ⟨i, hi8, rfl, hb, hs⟩ := hrel
            have B3 := Lib.hid hb
            have S3 := Lib.hid hs
            have hsb := lt_of_cell (at_word hs (i := 0) (show (0 : Nat) < 26 by omega))
            clear hb hs KT
            generalize wr = V3 at *
            by_cases hlt : i < 26
            · have x0 := at_word S3.out (i := i) hlt
              have P15 := Lib.hid (k3_at (HE.out.below B3.out) hlt)
              generalize k3.getD i [] = W0 at *
              go_wp2_with fail
              refine (P15.out).mono ?_; rintro e w2 ⟨ya, yc, yb, yd, rfl, hb2⟩
              have B4 := Lib.hid (B3.out.trans ((hb2.alloc hb2.size (.cells #[.int .i64 0, .int .i64 0, .bool false, .slice ya 0 yc, .slice yb 0 yd] 27)).mono B3.out.size))
              have S4 := Lib.hid (S3.out.below (hb2.alloc hb2.size (.cells #[.int .i64 0, .int .i64 0, .bool false, .slice ya 0 yc, .slice yb 0 yd] 27)))
              clear hb2 P15 x0
              go_wp2_with fail
              go_roundw
              case rel => exact ⟨i + 1, hlt, by go_num, B4.out, S4.out⟩
              case measure => simp [intOf]; omega
            · clear S3 hi8 hsb
              have hAB : Hid (Below V3.heap.size V3 ((V3.alloc (.cells C1 2)).alloc (.cells #[.int .i64 12, .int .i64 0, .bool false, .slice none 0 0, .slice (some ⟨V3.heap.size, 0, none⟩) 65536 65536] 27))) := Lib.hid (allocs_below [.cells C1 2, (.cells #[.int .i64 12, .int .i64 0, .bool false, .slice none 0 0, .slice (some ⟨V3.heap.size, 0, none⟩) 65536 65536] 27)] V3 V3 V3.heap.size (Nat.le_refl _) (Below.refl _ _))
              have BA := Lib.hid (B3.out.trans (hAB.out.mono B3.out.size))
              have KA : Hid (IsK .i64 ((V3.alloc (.cells C1 2)).alloc (.cells #[.int .i64 12, .int .i64 0, .bool false, .slice none 0 0, .slice (some ⟨V3.heap.size, 0, none⟩) 65536 65536] 27)) (some ⟨V3.heap.size, 0, none⟩) 65536 65536 (List.replicate 65536 0)) := Lib.hid (M1.out _ _ (allocs_at [.cells C1 2, (.cells #[.int .i64 12, .int .i64 0, .bool false, .slice none 0 0, .slice (some ⟨V3.heap.size, 0, none⟩) 65536 65536] 27)] V3 0 _ rfl))
              have XA : Hid (((V3.alloc (.cells C1 2)).alloc (.cells #[.int .i64 12, .int .i64 0, .bool false, .slice none 0 0, .slice (some ⟨V3.heap.size, 0, none⟩) 65536 65536] 27)).heap[V3.heap.size + 1]? = some (.cells #[.int .i64 12, .int .i64 0, .bool false, .slice none 0 0, .slice (some ⟨V3.heap.size, 0, none⟩) 65536 65536] 27 (0, 0))) := Lib.hid (allocs_at [.cells C1 2, (.cells #[.int .i64 12, .int .i64 0, .bool false, .slice none 0 0, .slice (some ⟨V3.heap.size, 0, none⟩) 65536 65536] 27)] V3 1 _ rfl)
              have P12 : Hid (Calls Tryd.prog 12 #[.agg #[.int .i64 12, .int .i64 0, .bool false, .slice none 0 0, .slice (some ⟨V3.heap.size, 0, none⟩) 65536 65536]] ((V3.alloc (.cells C1 2)).alloc (.cells #[.int .i64 12, .int .i64 0, .bool false, .slice none 0 0, .slice (some ⟨V3.heap.size, 0, none⟩) 65536 65536] 27)) fun e w' => ∃ p k q, e = .returned (.tuple #[.slice p k q, .int .i64 0]) ∧ IsK .u8 w' p k q (ns (putR (kZ 65536))) ∧ Below ((V3.alloc (.cells C1 2)).alloc (.cells #[.int .i64 12, .int .i64 0, .bool false, .slice none 0 0, .slice (some ⟨V3.heap.size, 0, none⟩) 65536 65536] 27)).heap.size ((V3.alloc (.cells C1 2)).alloc (.cells #[.int .i64 12, .int .i64 0, .bool false, .slice none 0 0, .slice (some ⟨V3.heap.size, 0, none⟩) 65536 65536] 27)) w') := Lib.hid (put_kZ (HE.out.below BA.out) KA.out (by omega))
              obtain ⟨x0, x1, x2, x3, x4⟩ := at5_of XA.out
              clear M1
              go_wp2_with fail
              refine (P12.out).mono ?_; rintro e w5 ⟨pp, k, q, rfl, hk5, hb5⟩
              have B5 := Lib.hid (BA.out.trans (hb5.mono BA.out.size))
              have KL5 := Lib.hid (KA.out.below hb5)
              have X5 := Lib.hid ((hb5.block _ (lt_of_block XA.out)).trans XA.out)
              have P16 := Lib.hid (get_kZ (HE.out.below B5.out) hk5 (by omega))
              clear hk5 hb5 P12 KA XA BA hAB x0 x1 x2 x3 x4 mk10 mk1
              go_wp2_with fail
              refine (P16.out).mono ?_; rintro e w6 ⟨ya, yc, yb, yd, rfl, hl6, hb6⟩
              have B6 := Lib.hid (B5.out.trans (hb6.mono B5.out.size))
              have hBW : Hid (Below w6.heap.size w6 (((w6.alloc (.cells #[.int .i64 12, .int .i64 0, .bool false, .slice ya 0 yc, .slice yb 65536 yd] 27)).alloc (.cells C2 2)).alloc (.cells #[.int .i64 12, .int .i64 0, .bool false, .slice none 0 0, .slice (some ⟨w6.heap.size + 1, 0, none⟩) 65537 65537] 27))) := Lib.hid (allocs_below [(.cells #[.int .i64 12, .int .i64 0, .bool false, .slice ya 0 yc, .slice yb 65536 yd] 27), .cells C2 2, (.cells #[.int .i64 12, .int .i64 0, .bool false, .slice none 0 0, .slice (some ⟨w6.heap.size + 1, 0, none⟩) 65537 65537] 27)] w6 w6 w6.heap.size (Nat.le_refl _) (Below.refl _ _))
              have X18 : Hid ((((w6.alloc (.cells #[.int .i64 12, .int .i64 0, .bool false, .slice ya 0 yc, .slice yb 65536 yd] 27)).alloc (.cells C2 2)).alloc (.cells #[.int .i64 12, .int .i64 0, .bool false, .slice none 0 0, .slice (some ⟨w6.heap.size + 1, 0, none⟩) 65537 65537] 27)).heap[w6.heap.size]? = some (.cells #[.int .i64 12, .int .i64 0, .bool false, .slice ya 0 yc, .slice yb 65536 yd] 27 (0, 0))) := Lib.hid (allocs_at [(.cells #[.int .i64 12, .int .i64 0, .bool false, .slice ya 0 yc, .slice yb 65536 yd] 27), .cells C2 2, (.cells #[.int .i64 12, .int .i64 0, .bool false, .slice none 0 0, .slice (some ⟨w6.heap.size + 1, 0, none⟩) 65537 65537] 27)] w6 0 _ rfl)
              have KB : Hid (IsK .i64 (((w6.alloc (.cells #[.int .i64 12, .int .i64 0, .bool false, .slice ya 0 yc, .slice yb 65536 yd] 27)).alloc (.cells C2 2)).alloc (.cells #[.int .i64 12, .int .i64 0, .bool false, .slice none 0 0, .slice (some ⟨w6.heap.size + 1, 0, none⟩) 65537 65537] 27)) (some ⟨w6.heap.size + 1, 0, none⟩) 65537 65537 (List.replicate 65537 0)) := Lib.hid (M2.out _ _ (allocs_at [(.cells #[.int .i64 12, .int .i64 0, .bool false, .slice ya 0 yc, .slice yb 65536 yd] 27), .cells C2 2, (.cells #[.int .i64 12, .int .i64 0, .bool false, .slice none 0 0, .slice (some ⟨w6.heap.size + 1, 0, none⟩) 65537 65537] 27)] w6 1 _ rfl))
              have X21 : Hid ((((w6.alloc (.cells #[.int .i64 12, .int .i64 0, .bool false, .slice ya 0 yc, .slice yb 65536 yd] 27)).alloc (.cells C2 2)).alloc (.cells #[.int .i64 12, .int .i64 0, .bool false, .slice none 0 0, .slice (some ⟨w6.heap.size + 1, 0, none⟩) 65537 65537] 27)).heap[w6.heap.size + 2]? = some (.cells #[.int .i64 12, .int .i64 0, .bool false, .slice none 0 0, .slice (some ⟨w6.heap.size + 1, 0, none⟩) 65537 65537] 27 (0, 0))) := Lib.hid (allocs_at [(.cells #[.int .i64 12, .int .i64 0, .bool false, .slice ya 0 yc, .slice yb 65536 yd] 27), .cells C2 2, (.cells #[.int .i64 12, .int .i64 0, .bool false, .slice none 0 0, .slice (some ⟨w6.heap.size + 1, 0, none⟩) 65537 65537] 27)] w6 2 _ rfl)
              have X15 := Lib.hid ((hBW.out.block _ (lt_of_block ((hb6.block _ (lt_of_block X5.out)).trans X5.out))).trans ((hb6.block _ (lt_of_block X5.out)).trans X5.out))
              have KLB := Lib.hid ((KL5.out.below hb6).below hBW.out)
              have LRB := Lib.hid (hl6.keep hBW.out)
              have BB := Lib.hid (B6.out.trans (hBW.out.mono B6.out.size))
              have P13 : Hid (Calls Tryd.prog 13 #[.agg #[.int .i64 12, .int .i64 0, .bool false, .slice none 0 0, .slice (some ⟨w6.heap.size + 1, 0, none⟩) 65537 65537]] (((w6.alloc (.cells #[.int .i64 12, .int .i64 0, .bool false, .slice ya 0 yc, .slice yb 65536 yd] 27)).alloc (.cells C2 2)).alloc (.cells #[.int .i64 12, .int .i64 0, .bool false, .slice none 0 0, .slice (some ⟨w6.heap.size + 1, 0, none⟩) 65537 65537] 27)) fun e w' => e = .returned (.tuple #[.string ⟨#[]⟩, .int .i64 16]) ∧ Below (((w6.alloc (.cells #[.int .i64 12, .int .i64 0, .bool false, .slice ya 0 yc, .slice yb 65536 yd] 27)).alloc (.cells C2 2)).alloc (.cells #[.int .i64 12, .int .i64 0, .bool false, .slice none 0 0, .slice (some ⟨w6.heap.size + 1, 0, none⟩) 65537 65537] 27)).heap.size (((w6.alloc (.cells #[.int .i64 12, .int .i64 0, .bool false, .slice ya 0 yc, .slice yb 65536 yd] 27)).alloc (.cells C2 2)).alloc (.cells #[.int .i64 12, .int .i64 0, .bool false, .slice none 0 0, .slice (some ⟨w6.heap.size + 1, 0, none⟩) 65537 65537] 27)) w') := Lib.hid (line_kZ (HE.out.below BB.out) KB.out (by omega) (by omega))
              obtain ⟨x0, x1, x2, x3, x4⟩ := at5_of X21.out
              clear hl6 hb6 P16 KL5 X5 M2
              go_wp2_with fail
              refine (P13.out).mono ?_; rintro e w7 ⟨rfl, hb7⟩
              have B7 := Lib.hid (BB.out.trans (hb7.mono BB.out.size))
              have X18_7 := Lib.hid ((hb7.block _ (lt_of_block X18.out)).trans X18.out)
              have X21_7 := Lib.hid ((hb7.block _ (lt_of_block X21.out)).trans X21.out)
              have X15_7 := Lib.hid ((hb7.block _ (lt_of_block X15.out)).trans X15.out)
              have KL7 := Lib.hid (KLB.out.below hb7)
              have LR7 := Lib.hid (LRB.out.keep hb7)
              clear hb7 P13 X18 X21 X15 KLB LRB KB hBW BB B6 x0 x1 x2 x3 x4 mk2
              have cv1 := M3.out w7
              have A8 := Lib.hid (Below.alloc (Below.refl w7.heap.size w7) (Nat.le_refl _) (.cells C3 5))
              obtain ⟨tv, w8, htr, hO, hb8⟩ := run_toBytes (w7.alloc (.cells C3 5)) ([12, 0, 0, 0, 129, 128, 4] ++ Z) (by rw [List.length_append, HZ.out]; decide)
              obtain ⟨ta, tc, rfl, hk8⟩ := outM_sl hO
              have hZ1 : ([12, 0, 0, 0, 129, 128, 4] ++ Z : Str).length ≤ 1000000 := by rw [List.length_append, HZ.out]; decide
              have C8 := Lib.hid (A8.out.trans (hb8.mono A8.out.size))
              have B8 := Lib.hid (B7.out.trans (C8.out.mono B7.out.size))
              have X18_8 := Lib.hid ((C8.out.block _ (lt_of_block X18_7.out)).trans X18_7.out)
              have X21_8 := Lib.hid ((C8.out.block _ (lt_of_block X21_7.out)).trans X21_7.out)
              have X15_8 := Lib.hid ((C8.out.block _ (lt_of_block X15_7.out)).trans X15_7.out)
              have KL8 := Lib.hid (KL7.out.below C8.out)
              have LR8 := Lib.hid (LR7.out.keep C8.out)
              have P16 := Lib.hid (get_long (HE.out.below B8.out) hk8 hZ1)
              obtain ⟨ZZ, hZZ⟩ : ∃ z : Str, z = [12, 0, 0, 0, 129, 128, 4] ++ Z := ⟨_, rfl⟩
              have had := add_strs (a := [12, 0, 0, 0, 129, 128, 4]) (b := Z) hZZ (by rw [HZ.out]; decide)
              rw [← hZZ] at htr P16
              generalize ZZ.length = LZ at *
              clear hk8 hO hb8 hZ1 hZZ A8 M3 X18_7 X21_7 X15_7 KL7 LR7
              go_wp2_with fail
              refine (P16.out).mono ?_; rintro e w9 ⟨za, zc, zb, zd, rfl, hb9⟩
              have A9 := Lib.hid (hb9.alloc hb9.size (.cells #[.int .i64 0, .int .i64 0, .bool false, .slice za 0 zc, .slice zb 0 zd] 27))
              have B9 := Lib.hid (B8.out.trans (A9.out.mono B8.out.size))
              have P17 := Lib.hid (all_nil (HE.out.below B9.out))
              clear hb9 P16 cv1 htr had mk3
              go_wp2_with fail
              refine (P17.out).mono ?_; rintro e w10 ⟨na, nc, rfl, hb10⟩
              have C10 := Lib.hid (A9.out.trans (hb10.mono A9.out.size))
              have B10 := Lib.hid (B8.out.trans (C10.out.mono B8.out.size))
              have X18_10 := Lib.hid ((C10.out.block _ (lt_of_block X18_8.out)).trans X18_8.out)
              have X21_10 := Lib.hid ((C10.out.block _ (lt_of_block X21_8.out)).trans X21_8.out)
              have X15_10 := Lib.hid ((C10.out.block _ (lt_of_block X15_8.out)).trans X15_8.out)
              have P18 := Lib.hid (same_kZ (LR8.out.keep C10.out) (kZ_ls (KL8.out.below C10.out)))
              clear hb10 P17 X18_8 X21_8 X15_8 KL8 LR8 A9 B9
              obtain ⟨x0, x1, x2, x3, x4⟩ := at5_of X18_10.out
              obtain ⟨y0, y1, y2, y3, y4⟩ := at5_of X15_10.out
              go_wp2_with fail
              refine (P18.out).mono ?_; rintro e w11 ⟨rfl, hb11⟩
              have B11 := Lib.hid (B10.out.trans (hb11.mono B10.out.size))
              have X21_11 := Lib.hid ((hb11.block _ (lt_of_block X21_10.out)).trans X21_10.out)
              have P14 := Lib.hid (check_kZ (HE.out.below B11.out) (some ⟨w6.heap.size + 1, 0, none⟩) (n := 65537) 65537 (by omega) (by omega))
              clear hb11 P18 x0 x1 x2 x3 x4 y0 y1 y2 y3 y4
              obtain ⟨x0, x1, x2, x3, x4⟩ := at5_of X21_11.out
              go_wp2_with fail
              refine (P14.out).mono ?_; rintro e w12 ⟨rfl, hb12⟩
              have B12 := Lib.hid (B11.out.trans (hb12.mono B11.out.size))
              clear hb12 P14 x0 x1 x2 x3 x4
              go_wp2_with fail
              refine (PW.out _ B12.out).mono ?_; rintro e w13 ⟨rfl, hb13⟩
              have B13 := Lib.hid (B12.out.trans (hb13.mono B12.out.size))
              clear hb13
              go_wp2_with fail
              go_ret
              exact ⟨rfl, B13.out⟩
end Go.Proofs.YtlmdkcpiimpniaaDoor

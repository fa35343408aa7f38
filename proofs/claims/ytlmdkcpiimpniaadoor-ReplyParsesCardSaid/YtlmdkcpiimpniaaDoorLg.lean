/- Line of the document: replies without an error. -/
import Derived.Test.YtlmdkcpiimpniaaDoorLe
import Derived.Test.YtlmdkcpiimpniaaDoorLf
namespace Go.Proofs.YtlmdkcpiimpniaaDoor
open Go.ChangeShapes Go.WideShapes Go.ChangeAt Go.RowKit
set_option linter.unusedVariables false
set_option linter.unusedSimpArgs false

def RoRel (W : World) (C s : Nat) (T : Nat → Str) (v5 v8 : Value) (wr : World) : Prop := ∃ i : Nat, i ≤ C ∧ v8 = .int .i64 (i : Int) ∧ v5 = .string ⟨(T (i * s)).toArray⟩ ∧ Below W.heap.size W wr
def RiRel (W : World) (N b : Nat) (T : Nat → Str) (v5 vj : Value) (wr : World) : Prop := ∃ j : Nat, j ≤ N ∧ vj = .int .i64 (j : Int) ∧ v5 = .string ⟨(T (b + j)).toArray⟩ ∧ Below W.heap.size W wr
set_option maxRecDepth 100000 in
set_option maxHeartbeats 32000000 in
theorem rline_ok {w : World} {r : Rp} {a a' : Option Addr} {c c' : Nat} (h : LsR w r a c a' c') (hI : RpIn r) (hk : chk r = 0) (he : r.er = 0) :
    Calls Tryd.prog 24 #[.agg (rpV r a c a' c')] w (LnS w r) := by
  have hA : Hid (Below w.heap.size w (w.alloc (.cells (rpV r a c a' c') 27))) := Lib.hid (Below.alloc (Below.refl _ _) (Nat.le_refl _) _)
  have X := Lib.hid (block_new w (.cells (rpV r a c a' c') 27))
  obtain ⟨hf, g1, g2⟩ := chk_fits hk
  have PC := Lib.hid (rcheck (w := w.alloc (.cells (rpV r a c a' c') 27)) r a c a' c' (by omega) (by omega))
  obtain ⟨o0, o1, e0, e1⟩ := op_er hf
  have HZ0 := Lib.hid (show lineZ r = lineS r from if_pos hk)
  have HL := Lib.hid h
  have RN := Lib.hid hI.nums
  have RII := Lib.hid hI.ids
  have LI := Lib.hid (fun w' (hb : Below w.heap.size w w') => (HL.out.keep hb).i)
  have LN := Lib.hid (fun w' (hb : Below w.heap.size w w') => (HL.out.keep hb).n)
  have m1 := h.i.hle; have m2 := h.i.hmax; have m3 := h.n.hle; have m4 := h.n.hmax
  unfold maxLen at m2 m4
  rw [hk] at PC
  unfold LnS
  rw [hk]
  generalize lineZ r = Z at *
  clear hk h hI HL
  unfold rpV at *
  obtain ⟨op, er, yes, ids, nums⟩ := r
  simp only at *
  subst he
  obtain ⟨k, rfl⟩ := Int.eq_ofNat_of_zero_le o0
  have hkk : k < 16 := by omega
  obtain ⟨T, t0, t1, t2, t3, t4, t5⟩ := line_T (k := k) (yes := yes) RII.out RN.out
  have T0 := Lib.hid t0; have T1 := Lib.hid t1; have T2 := Lib.hid t2; have T4 := Lib.hid t4
  have HZ := Lib.hid (HZ0.out.trans t3)
  clear t0 t1 t2 t3 t4 t5 HZ0
  obtain ⟨-, hf2, hf3⟩ := hf
  rw [if_neg (by simp)] at hf3
  obtain ⟨hf4, hf5, hf6⟩ := hf3
  simp only [Int.toNat_natCast] at hf5 hf6 hf2
  have hk1 : 1 ≤ k := by omega
  have HCI := Lib.hid hf5; have HCM := Lib.hid hf6
  have hay := asks_eq (op := (k : Int)) (by omega)
  rw [Int.toNat_natCast] at hay
  have HD : Hid (headW k yes = kwS k ++ [32, 111, 107] ++ (if asksO (k : Int) = true then (if yes = true then [32, 121, 101, 115] else [32, 110, 111]) else [])) := Lib.hid (by rw [hay]; rfl)
  have hcl := count_le (k := k) yes ids.length nums.length
  have PE := Lib.hid (fun w' => rentries (w := w') hkk hk1 0 yes a a' ids.length c nums.length c' (by omega) (by omega))
  rw [ent_count (yes := yes) hkk hk1 hf5 hf6] at PE
  have PN := Lib.hid (rentry hkk)
  rw [show en k = kn k by unfold en; rw [if_neg (by omega)]] at PN
  have PW := Lib.hid (rword hkk)
  have NG : Hid (∀ i, (ns ids).getD i 0 = ((ids.getD i 0 : Nat) : Int)) := Lib.hid (fun i => ns_get ids i)
  generalize headW k yes = hw at *
  clear hf5 hf6 hf2 hay
  have LZ : Hid ((ns ids).length = ids.length) := Lib.hid (ns_len ids)
  generalize ns ids = zi at *
  generalize hli : ids.length = li at *
  generalize hln : nums.length = ln at *
  have HLN := Lib.hid hln
  have HLI := Lib.hid hli
  clear hli hln
  have hkl := (kw_len k).1
  obtain ⟨n1, n2, n3, n4, -⟩ := kinds_num hkk
  generalize count k yes li ln = C at *
  generalize kwS k = S at *
  generalize ki k = I at *
  generalize kn k = M at *
  have PA := Lib.hid (rasks (k : Int))
  clear n3 n4
  obtain ⟨S1, hS1⟩ : ∃ s, s = S ++ [32, 111, 107] := ⟨_, rfl⟩
  have ha1 := add_strs (a := S) (b := [32, 111, 107]) hS1 (by simp; omega)
  have hs1l : S1.length ≤ 12 := by rw [hS1]; simp; omega
  rw [← hS1] at HD
  clear hS1
  have cases3 : ∀ ao : Bool, asksO (k : Int) = ao → (yes = true → ao = true) → Calls Tryd.prog 24 #[.agg #[.int .i64 (k : Int), .int .i64 0, .bool yes, .slice a li c, .slice a' ln c']] w fun e w' => e = .returned (.tuple #[.string ⟨Z.toArray⟩, .int .i64 0]) ∧ Below w.heap.size w w' := by
    intro ao hao hya
    rw [hao] at PA HD
    clear hao
    cases ao
    · have hyf : yes = false := by cases yes with | false => rfl | true => exact absurd (hya rfl) (by decide)
      subst hyf
      clear hya hf4
      have HT0 : Hid (S1 = T 0) := Lib.hid (by rw [T0.out, HD.out]; simp)
      have HTZ : Hid (T 0 = T (0 * (I + M))) := Lib.hid (by rw [Nat.zero_mul])
      generalize T 0 = t00 at *
      go_enter Tryd.func24, Tryd.ntmps24
      go_wp2_with fail
      refine (PC.out).mono ?_; rintro e w1 ⟨rfl, hb1⟩
      have B1 := Lib.hid (hA.out.trans (hb1.mono hA.out.size))
      have X1 := (hb1.block _ (lt_of_block X.out)).trans X.out
      have x0 : w1.cell? ⟨w.heap.size, 0, none⟩ = some (.int .i64 (k : Int)) := cell_of X1 0
      have x1 : w1.cell? ⟨w.heap.size, 1, none⟩ = some (.int .i64 0) := cell_of X1 1
      have gl := lt_of_block X1
      have HX1 := Lib.hid X1
      have BXX : Hid (∀ w', Below w1.heap.size w1 w' → w'.cell? ⟨w.heap.size, 0, none⟩ = some (.int .i64 (k : Int)) ∧ w'.cell? ⟨w.heap.size, 1, none⟩ = some (.int .i64 0) ∧ w'.cell? ⟨w.heap.size, 2, none⟩ = some (.bool false) ∧ w'.cell? ⟨w.heap.size, 3, none⟩ = some (.slice a li c) ∧ w'.cell? ⟨w.heap.size, 4, none⟩ = some (.slice a' ln c')) := Lib.hid (fun w' hb => by
        have hx := (hb.block _ gl).trans HX1.out
        exact ⟨cell_of hx 0, cell_of hx 1, cell_of hx 2, cell_of hx 3, cell_of hx 4⟩)
      have BEL : Hid (∀ w', Below w1.heap.size w1 w' → Below w.heap.size w w') := Lib.hid (fun w' hb => B1.out.trans (hb.mono B1.out.size))
      clear hb1 X1 X PC
      go_wp2_with fail
      refine (PW.out w1).mono ?_; rintro e w4 ⟨rfl, hb4⟩
      have B4 := Lib.hid hb4
      clear hb4 x0 x1 PW
      obtain ⟨xx0, xx1, xx2, xx3, xx4⟩ := BXX.out w4 B4.out
      go_wp2_with (first | (go_at_call 52; refine (PA.out _).mono ?_; rintro e w' ⟨rfl, rfl⟩) | (go_at_call 53; refine (PN.out _).mono ?_; rintro e w' ⟨rfl, rfl⟩))
      skip
      generalize w4 = w7 at *
      have B7 := B4
      clear B4
      have m5 : C * I = li := HCI.out.symm
      have m6 : C * M = ln := HCM.out.symm
      have M5 := Lib.hid m5; have M6 := Lib.hid m6
      clear m5 m6 PA PN
      go_loopw [5, 8, 9, 10] (fun v5 v8 _ _ wr => RoRel w1 C (I + M) T v5 v8 wr) (fun _ v8 _ _ _ => C - (intOf v8).toNat)
      case atStart => exact ⟨0, Nat.zero_le _, rfl, by rw [← HTZ.out]; rw [← HT0.out], B7.out⟩
      case round =>
        obtain ⟨i, hi, rfl, rfl, hb⟩ := hrel
        have B := Lib.hid hb
        clear hb xx0 xx1 xx2 xx3 xx4 B7
        obtain ⟨xx0, xx1, xx2, xx3, xx4⟩ := BXX.out wr B.out
        have PEW := Lib.hid (PE.out wr)
        have TI := Lib.hid (rfl : T (i * (I + M)) = T (i * (I + M)))
        by_cases hlt : i < C
        · have p1 : (i : Int) * (I : Int) = ((i * I : Nat) : Int) := by simp
          have p3 : (i + 1) * I = i * I + I := Nat.succ_mul i I
          have p4 : (i + 1) * I ≤ C * I := Nat.mul_le_mul_right I hlt
          have r1 : (i : Int) * (M : Int) = ((i * M : Nat) : Int) := by simp
          have r3 : (i + 1) * M = i * M + M := Nat.succ_mul i M
          have r4 : (i + 1) * M ≤ C * M := Nat.mul_le_mul_right M hlt
          have s3 : (i + 1) * (I + M) = i * (I + M) + (I + M) := Nat.succ_mul i (I + M)
          have s4 : (i + 1) * (I + M) ≤ C * (I + M) := Nat.mul_le_mul_right (I + M) hlt
          have s5 : C * (I + M) = C * I + C * M := Nat.mul_add C I M
          rw [M5.out] at p4 s5
          rw [M6.out] at r4 s5
          have TA := Lib.hid (fun j hj => T1.out i j hj)
          have TB := Lib.hid (fun j hj => T2.out i j hj)
          have S3 := Lib.hid s3
          have TLN : Hid (∀ m, m ≤ I + M → (T (i * (I + M) + m)).length ≤ 3000000) := Lib.hid (fun m hm => by have := T4.out (i * (I + M) + m); omega)
          rw [p3] at p4
          rw [r3] at r4
          clear s3 s4 s5 p3 r3 TI
          generalize i * (I + M) = b at *
          generalize i * I = P0 at *
          generalize i * M = Q0 at *
          obtain ⟨tb, htb⟩ : ∃ t, t = T b := ⟨_, rfl⟩
          rw [← htb]
          have HTB := Lib.hid (show tb = T (b + 0) from htb)
          clear htb
          go_wp2_with fail
          refine (PEW.out).mono ?_; rintro e w8 ⟨rfl, hb8⟩
          have B8 := Lib.hid (B.out.trans (hb8.mono B.out.size))
          clear hb8 PEW B xx0 xx1 xx2 xx3 xx4
          go_wp2_with fail
          generalize wr = V1 at *
          go_loopw [5, 9] (fun v5 v9 wr => RiRel w1 I b T v5 v9 wr) (fun _ v9 _ => I - (intOf v9).toNat)
          case atStart => exact ⟨0, Nat.zero_le _, rfl, by rw [← HTB.out], B8.out⟩
          case round =>
            obtain ⟨j, hj, rfl, rfl, hb⟩ := hrel
            have B1' := Lib.hid hb
            clear hb
            obtain ⟨xx0, xx1, xx2, xx3, xx4⟩ := BXX.out _ B1'.out
            by_cases hjl : j < I
            · have hS := LI.out _ (BEL.out _ B1'.out)
              have hlen := hS.hlen
              obtain ⟨pb, off, rfl, _, _⟩ := hS.at_ (by intro h; rw [h, List.length_nil] at hlen; omega)
              have cx := hS.cellK (i := P0 + j) (by omega)
              rw [NG.out] at cx
              have hux : ids.getD (P0 + j) 0 < 18446744073709551616 := by
                by_cases hin : P0 + j < ids.length
                · have := RII.out (ids.getD (P0 + j) 0) (by simp [hin]); omega
                · rw [List.getD_eq_getElem?_getD, List.getElem?_eq_none (by omega)]; simp
              have ST := TA.out j hjl
              have hTl := TLN.out j (by omega)
              have hdl := dec_len20 hux
              have P9 := Lib.hid (rdigits (ids.getD (P0 + j) 0) hux wr)
              obtain ⟨t1, ht1⟩ : ∃ t, t = T (b + j) ++ [32] := ⟨_, rfl⟩
              obtain ⟨t2, ht2⟩ : ∃ t, t = T (b + j + 1) := ⟨_, rfl⟩
              rw [← ht1, ← ht2] at ST
              have h1 := add_strs (a := T (b + j)) (b := [32]) ht1 (by simp; omega)
              have ht1l : t1.length ≤ 3000001 := by rw [ht1]; simp; omega
              have h2 := add_strs (a := t1) (b := Lib.decDigits (ids.getD (P0 + j) 0)) ST (by omega)
              have hix1 : (0 : Int) ≤ ((P0 + j : Nat) : Int) := by omega
              have hix2 : (P0 : Int) + (j : Int) = ((P0 + j : Nat) : Int) := by simp
              have hix3 : P0 + j < li := by omega
              have HTN := Lib.hid ht2
              clear ST ht1 ht2 hTl
              generalize ids.getD (P0 + j) 0 = u at *
              generalize Lib.decDigits u = d at *
              generalize T (b + j) = t0 at *
              skip
              generalize P0 + j = pj at *
              clear hS hlen
              go_wp2_with fail
              refine (P9.out).mono ?_; rintro e w10 ⟨rfl, hb10⟩
              have B10 := Lib.hid (B1'.out.trans (hb10.mono B1'.out.size))
              clear hb10 P9
              go_wp2_with fail
              go_roundw
              case rel => exact ⟨j + 1, by omega, by go_num, by rw [← Nat.add_assoc, ← HTN.out], B10.out⟩
              case measure => simp [intOf]; omega
            · obtain ⟨tc, htc⟩ : ∃ t, t = T (b + I + 0) := ⟨_, rfl⟩
              have e1 : T (b + j) = tc := by rw [htc, show b + j = b + I + 0 by omega]
              rw [e1]
              have HTC := Lib.hid htc
              have BI := B1'
              clear B1' e1 htc
              go_wp2_with fail
              generalize wr = V2 at *
              go_loopw [5, 10] (fun v5 v10 wr => RiRel w1 M (b + I) T v5 v10 wr) (fun _ v10 _ => M - (intOf v10).toNat)
              case atStart => exact ⟨0, Nat.zero_le _, rfl, by rw [← HTC.out], BI.out⟩
              case round =>
                obtain ⟨j2, hj2, rfl, rfl, hb⟩ := hrel
                have B1' := Lib.hid hb
                clear hb xx0 xx1 xx2 xx3 xx4
                obtain ⟨xx0, xx1, xx2, xx3, xx4⟩ := BXX.out _ B1'.out
                by_cases hjm : j2 < M
                · have hS := LN.out _ (BEL.out _ B1'.out)
                  have hlen := hS.hlen
                  obtain ⟨pb, off, rfl, _, _⟩ := hS.at_ (by intro h; rw [h, List.length_nil] at hlen; omega)
                  have cx := hS.cellK (i := Q0 + j2) (by omega)
                  have hux : -9223372036854775808 ≤ nums.getD (Q0 + j2) 0 ∧ nums.getD (Q0 + j2) 0 ≤ 9223372036854775807 := by
                    by_cases hin : Q0 + j2 < nums.length
                    · exact RN.out (nums.getD (Q0 + j2) 0) (by simp [hin])
                    · rw [List.getD_eq_getElem?_getD, List.getElem?_eq_none (by omega)]; simp
                  have ST := TB.out j2 hjm
                  have hTl := TLN.out (I + j2) (by omega)
                  rw [← Nat.add_assoc] at hTl
                  have hdl := itoa_len hux.1 hux.2
                  have P9 := Lib.hid (rdecimal hux.1 hux.2 wr)
                  obtain ⟨t1, ht1⟩ : ∃ t, t = T (b + I + j2) ++ [32] := ⟨_, rfl⟩
                  obtain ⟨t2, ht2⟩ : ∃ t, t = T (b + I + j2 + 1) := ⟨_, rfl⟩
                  rw [← ht1, ← ht2] at ST
                  have h1 := add_strs (a := T (b + I + j2)) (b := [32]) ht1 (by simp; omega)
                  have ht1l : t1.length ≤ 3000001 := by rw [ht1]; simp; omega
                  have h2 := add_strs (a := t1) (b := Lib.itoa (nums.getD (Q0 + j2) 0)) ST (by omega)
                  have hix1 : (0 : Int) ≤ ((Q0 + j2 : Nat) : Int) := by omega
                  have hix2 : (Q0 : Int) + (j2 : Int) = ((Q0 + j2 : Nat) : Int) := by simp
                  have hix3 : Q0 + j2 < ln := by omega
                  have HTN := Lib.hid ht2
                  clear ST ht1 ht2 hTl
                  generalize nums.getD (Q0 + j2) 0 = x at *
                  generalize Lib.itoa x = d at *
                  generalize T (b + I + j2) = t0 at *
                  skip
                  generalize Q0 + j2 = pj at *
                  clear hS hlen
                  go_wp2_with fail
                  refine (P9.out).mono ?_; rintro e w10 ⟨rfl, hb10⟩
                  have B10 := Lib.hid (B1'.out.trans (hb10.mono B1'.out.size))
                  clear hb10 P9
                  go_wp2_with fail
                  go_roundw
                  case rel => exact ⟨j2 + 1, by omega, by go_num, by rw [← Nat.add_assoc, ← HTN.out], B10.out⟩
                  case measure => simp [intOf]; omega
                · obtain ⟨td, htd⟩ : ∃ t, t = T ((i + 1) * (I + M)) := ⟨_, rfl⟩
                  have e1 : T (b + I + j2) = td := by rw [htd, show b + I + j2 = (i + 1) * (I + M) by rw [S3.out]; omega]
                  rw [e1]
                  have HTD := Lib.hid htd
                  have BF := B1'
                  clear B1' e1 htd
                  go_wp2_with fail
                  go_roundw
                  case rel => exact ⟨i + 1, by omega, by go_num, by rw [← HTD.out], BF.out⟩
                  case measure => simp [intOf]; omega
        · have e1 : T (i * (I + M)) = Z := by rw [show i = C by omega, ← HZ.out]
          rw [e1]
          clear e1
          go_wp2_with fail
          refine (PEW.out).mono ?_; rintro e w8 ⟨rfl, hb8⟩
          have B8 := Lib.hid (B.out.trans (hb8.mono B.out.size))
          clear hb8 PEW xx0 xx1 xx2 xx3 xx4
          go_wp2_with fail
          go_ret2
          exact ⟨rfl, BEL.out _ B8.out⟩
    · cases yes
      · clear hya hf4
        have HT0 : Hid (T 0 = S1 ++ [32, 110, 111]) := Lib.hid (by rw [T0.out, HD.out]; simp)
        have ha2 := add_strs (a := S1) (b := [32, 110, 111]) HT0.out (by simp; omega)
        have HTZ : Hid (T 0 = T (0 * (I + M))) := Lib.hid (by rw [Nat.zero_mul])
        generalize T 0 = t00 at *
        go_enter Tryd.func24, Tryd.ntmps24
        go_wp2_with fail
        refine (PC.out).mono ?_; rintro e w1 ⟨rfl, hb1⟩
        have B1 := Lib.hid (hA.out.trans (hb1.mono hA.out.size))
        have X1 := (hb1.block _ (lt_of_block X.out)).trans X.out
        have x0 : w1.cell? ⟨w.heap.size, 0, none⟩ = some (.int .i64 (k : Int)) := cell_of X1 0
        have x1 : w1.cell? ⟨w.heap.size, 1, none⟩ = some (.int .i64 0) := cell_of X1 1
        have gl := lt_of_block X1
        have HX1 := Lib.hid X1
        have BXX : Hid (∀ w', Below w1.heap.size w1 w' → w'.cell? ⟨w.heap.size, 0, none⟩ = some (.int .i64 (k : Int)) ∧ w'.cell? ⟨w.heap.size, 1, none⟩ = some (.int .i64 0) ∧ w'.cell? ⟨w.heap.size, 2, none⟩ = some (.bool false) ∧ w'.cell? ⟨w.heap.size, 3, none⟩ = some (.slice a li c) ∧ w'.cell? ⟨w.heap.size, 4, none⟩ = some (.slice a' ln c')) := Lib.hid (fun w' hb => by
          have hx := (hb.block _ gl).trans HX1.out
          exact ⟨cell_of hx 0, cell_of hx 1, cell_of hx 2, cell_of hx 3, cell_of hx 4⟩)
        have BEL : Hid (∀ w', Below w1.heap.size w1 w' → Below w.heap.size w w') := Lib.hid (fun w' hb => B1.out.trans (hb.mono B1.out.size))
        clear hb1 X1 X PC
        go_wp2_with fail
        refine (PW.out w1).mono ?_; rintro e w4 ⟨rfl, hb4⟩
        have B4 := Lib.hid hb4
        clear hb4 x0 x1 PW
        obtain ⟨xx0, xx1, xx2, xx3, xx4⟩ := BXX.out w4 B4.out
        go_wp2_with (first | (go_at_call 52; refine (PA.out _).mono ?_; rintro e w' ⟨rfl, rfl⟩) | (go_at_call 53; refine (PN.out _).mono ?_; rintro e w' ⟨rfl, rfl⟩))
        skip
        generalize w4 = w7 at *
        have B7 := B4
        clear B4
        have m5 : C * I = li := HCI.out.symm
        have m6 : C * M = ln := HCM.out.symm
        have M5 := Lib.hid m5; have M6 := Lib.hid m6
        clear m5 m6 PA PN
        go_loopw [5, 8, 9, 10] (fun v5 v8 _ _ wr => RoRel w1 C (I + M) T v5 v8 wr) (fun _ v8 _ _ _ => C - (intOf v8).toNat)
        case atStart => exact ⟨0, Nat.zero_le _, rfl, by rw [← HTZ.out], B7.out⟩
        case round =>
          obtain ⟨i, hi, rfl, rfl, hb⟩ := hrel
          have B := Lib.hid hb
          clear hb xx0 xx1 xx2 xx3 xx4 B7
          obtain ⟨xx0, xx1, xx2, xx3, xx4⟩ := BXX.out wr B.out
          have PEW := Lib.hid (PE.out wr)
          have TI := Lib.hid (rfl : T (i * (I + M)) = T (i * (I + M)))
          by_cases hlt : i < C
          · have p1 : (i : Int) * (I : Int) = ((i * I : Nat) : Int) := by simp
            have p3 : (i + 1) * I = i * I + I := Nat.succ_mul i I
            have p4 : (i + 1) * I ≤ C * I := Nat.mul_le_mul_right I hlt
            have r1 : (i : Int) * (M : Int) = ((i * M : Nat) : Int) := by simp
            have r3 : (i + 1) * M = i * M + M := Nat.succ_mul i M
            have r4 : (i + 1) * M ≤ C * M := Nat.mul_le_mul_right M hlt
            have s3 : (i + 1) * (I + M) = i * (I + M) + (I + M) := Nat.succ_mul i (I + M)
            have s4 : (i + 1) * (I + M) ≤ C * (I + M) := Nat.mul_le_mul_right (I + M) hlt
            have s5 : C * (I + M) = C * I + C * M := Nat.mul_add C I M
            rw [M5.out] at p4 s5
            rw [M6.out] at r4 s5
            have TA := Lib.hid (fun j hj => T1.out i j hj)
            have TB := Lib.hid (fun j hj => T2.out i j hj)
            have S3 := Lib.hid s3
            have TLN : Hid (∀ m, m ≤ I + M → (T (i * (I + M) + m)).length ≤ 3000000) := Lib.hid (fun m hm => by have := T4.out (i * (I + M) + m); omega)
            rw [p3] at p4
            rw [r3] at r4
            clear s3 s4 s5 p3 r3 TI
            generalize i * (I + M) = b at *
            generalize i * I = P0 at *
            generalize i * M = Q0 at *
            obtain ⟨tb, htb⟩ : ∃ t, t = T b := ⟨_, rfl⟩
            rw [← htb]
            have HTB := Lib.hid (show tb = T (b + 0) from htb)
            clear htb
            go_wp2_with fail
            refine (PEW.out).mono ?_; rintro e w8 ⟨rfl, hb8⟩
            have B8 := Lib.hid (B.out.trans (hb8.mono B.out.size))
            clear hb8 PEW B xx0 xx1 xx2 xx3 xx4
            go_wp2_with fail
            generalize wr = V1 at *
            go_loopw [5, 9] (fun v5 v9 wr => RiRel w1 I b T v5 v9 wr) (fun _ v9 _ => I - (intOf v9).toNat)
            case atStart => exact ⟨0, Nat.zero_le _, rfl, by rw [← HTB.out], B8.out⟩
            case round =>
              obtain ⟨j, hj, rfl, rfl, hb⟩ := hrel
              have B1' := Lib.hid hb
              clear hb
              obtain ⟨xx0, xx1, xx2, xx3, xx4⟩ := BXX.out _ B1'.out
              by_cases hjl : j < I
              · have hS := LI.out _ (BEL.out _ B1'.out)
                have hlen := hS.hlen
                obtain ⟨pb, off, rfl, _, _⟩ := hS.at_ (by intro h; rw [h, List.length_nil] at hlen; omega)
                have cx := hS.cellK (i := P0 + j) (by omega)
                rw [NG.out] at cx
                have hux : ids.getD (P0 + j) 0 < 18446744073709551616 := by
                  by_cases hin : P0 + j < ids.length
                  · have := RII.out (ids.getD (P0 + j) 0) (by simp [hin]); omega
                  · rw [List.getD_eq_getElem?_getD, List.getElem?_eq_none (by omega)]; simp
                have ST := TA.out j hjl
                have hTl := TLN.out j (by omega)
                have hdl := dec_len20 hux
                have P9 := Lib.hid (rdigits (ids.getD (P0 + j) 0) hux wr)
                obtain ⟨t1, ht1⟩ : ∃ t, t = T (b + j) ++ [32] := ⟨_, rfl⟩
                obtain ⟨t2, ht2⟩ : ∃ t, t = T (b + j + 1) := ⟨_, rfl⟩
                rw [← ht1, ← ht2] at ST
                have h1 := add_strs (a := T (b + j)) (b := [32]) ht1 (by simp; omega)
                have ht1l : t1.length ≤ 3000001 := by rw [ht1]; simp; omega
                have h2 := add_strs (a := t1) (b := Lib.decDigits (ids.getD (P0 + j) 0)) ST (by omega)
                have hix1 : (0 : Int) ≤ ((P0 + j : Nat) : Int) := by omega
                have hix2 : (P0 : Int) + (j : Int) = ((P0 + j : Nat) : Int) := by simp
                have hix3 : P0 + j < li := by omega
                have HTN := Lib.hid ht2
                clear ST ht1 ht2 hTl
                generalize ids.getD (P0 + j) 0 = u at *
                generalize Lib.decDigits u = d at *
                generalize T (b + j) = t0 at *
                skip
                generalize P0 + j = pj at *
                clear hS hlen
                go_wp2_with fail
                refine (P9.out).mono ?_; rintro e w10 ⟨rfl, hb10⟩
                have B10 := Lib.hid (B1'.out.trans (hb10.mono B1'.out.size))
                clear hb10 P9
                go_wp2_with fail
                go_roundw
                case rel => exact ⟨j + 1, by omega, by go_num, by rw [← Nat.add_assoc, ← HTN.out], B10.out⟩
                case measure => simp [intOf]; omega
              · obtain ⟨tc, htc⟩ : ∃ t, t = T (b + I + 0) := ⟨_, rfl⟩
                have e1 : T (b + j) = tc := by rw [htc, show b + j = b + I + 0 by omega]
                rw [e1]
                have HTC := Lib.hid htc
                have BI := B1'
                clear B1' e1 htc
                go_wp2_with fail
                generalize wr = V2 at *
                go_loopw [5, 10] (fun v5 v10 wr => RiRel w1 M (b + I) T v5 v10 wr) (fun _ v10 _ => M - (intOf v10).toNat)
                case atStart => exact ⟨0, Nat.zero_le _, rfl, by rw [← HTC.out], BI.out⟩
                case round =>
                  obtain ⟨j2, hj2, rfl, rfl, hb⟩ := hrel
                  have B1' := Lib.hid hb
                  clear hb xx0 xx1 xx2 xx3 xx4
                  obtain ⟨xx0, xx1, xx2, xx3, xx4⟩ := BXX.out _ B1'.out
                  by_cases hjm : j2 < M
                  · have hS := LN.out _ (BEL.out _ B1'.out)
                    have hlen := hS.hlen
                    obtain ⟨pb, off, rfl, _, _⟩ := hS.at_ (by intro h; rw [h, List.length_nil] at hlen; omega)
                    have cx := hS.cellK (i := Q0 + j2) (by omega)
                    have hux : -9223372036854775808 ≤ nums.getD (Q0 + j2) 0 ∧ nums.getD (Q0 + j2) 0 ≤ 9223372036854775807 := by
                      by_cases hin : Q0 + j2 < nums.length
                      · exact RN.out (nums.getD (Q0 + j2) 0) (by simp [hin])
                      · rw [List.getD_eq_getElem?_getD, List.getElem?_eq_none (by omega)]; simp
                    have ST := TB.out j2 hjm
                    have hTl := TLN.out (I + j2) (by omega)
                    rw [← Nat.add_assoc] at hTl
                    have hdl := itoa_len hux.1 hux.2
                    have P9 := Lib.hid (rdecimal hux.1 hux.2 wr)
                    obtain ⟨t1, ht1⟩ : ∃ t, t = T (b + I + j2) ++ [32] := ⟨_, rfl⟩
                    obtain ⟨t2, ht2⟩ : ∃ t, t = T (b + I + j2 + 1) := ⟨_, rfl⟩
                    rw [← ht1, ← ht2] at ST
                    have h1 := add_strs (a := T (b + I + j2)) (b := [32]) ht1 (by simp; omega)
                    have ht1l : t1.length ≤ 3000001 := by rw [ht1]; simp; omega
                    have h2 := add_strs (a := t1) (b := Lib.itoa (nums.getD (Q0 + j2) 0)) ST (by omega)
                    have hix1 : (0 : Int) ≤ ((Q0 + j2 : Nat) : Int) := by omega
                    have hix2 : (Q0 : Int) + (j2 : Int) = ((Q0 + j2 : Nat) : Int) := by simp
                    have hix3 : Q0 + j2 < ln := by omega
                    have HTN := Lib.hid ht2
                    clear ST ht1 ht2 hTl
                    generalize nums.getD (Q0 + j2) 0 = x at *
                    generalize Lib.itoa x = d at *
                    generalize T (b + I + j2) = t0 at *
                    skip
                    generalize Q0 + j2 = pj at *
                    clear hS hlen
                    go_wp2_with fail
                    refine (P9.out).mono ?_; rintro e w10 ⟨rfl, hb10⟩
                    have B10 := Lib.hid (B1'.out.trans (hb10.mono B1'.out.size))
                    clear hb10 P9
                    go_wp2_with fail
                    go_roundw
                    case rel => exact ⟨j2 + 1, by omega, by go_num, by rw [← Nat.add_assoc, ← HTN.out], B10.out⟩
                    case measure => simp [intOf]; omega
                  · obtain ⟨td, htd⟩ : ∃ t, t = T ((i + 1) * (I + M)) := ⟨_, rfl⟩
                    have e1 : T (b + I + j2) = td := by rw [htd, show b + I + j2 = (i + 1) * (I + M) by rw [S3.out]; omega]
                    rw [e1]
                    have HTD := Lib.hid htd
                    have BF := B1'
                    clear B1' e1 htd
                    go_wp2_with fail
                    go_roundw
                    case rel => exact ⟨i + 1, by omega, by go_num, by rw [← HTD.out], BF.out⟩
                    case measure => simp [intOf]; omega
          · have e1 : T (i * (I + M)) = Z := by rw [show i = C by omega, ← HZ.out]
            rw [e1]
            clear e1
            go_wp2_with fail
            refine (PEW.out).mono ?_; rintro e w8 ⟨rfl, hb8⟩
            have B8 := Lib.hid (B.out.trans (hb8.mono B.out.size))
            clear hb8 PEW xx0 xx1 xx2 xx3 xx4
            go_wp2_with fail
            go_ret2
            exact ⟨rfl, BEL.out _ B8.out⟩
      · clear hya hf4
        have HT0 : Hid (T 0 = S1 ++ [32, 121, 101, 115]) := Lib.hid (by rw [T0.out, HD.out]; simp)
        have ha2 := add_strs (a := S1) (b := [32, 121, 101, 115]) HT0.out (by simp; omega)
        have HTZ : Hid (T 0 = T (0 * (I + M))) := Lib.hid (by rw [Nat.zero_mul])
        generalize T 0 = t00 at *
        go_enter Tryd.func24, Tryd.ntmps24
        go_wp2_with fail
        refine (PC.out).mono ?_; rintro e w1 ⟨rfl, hb1⟩
        have B1 := Lib.hid (hA.out.trans (hb1.mono hA.out.size))
        have X1 := (hb1.block _ (lt_of_block X.out)).trans X.out
        have x0 : w1.cell? ⟨w.heap.size, 0, none⟩ = some (.int .i64 (k : Int)) := cell_of X1 0
        have x1 : w1.cell? ⟨w.heap.size, 1, none⟩ = some (.int .i64 0) := cell_of X1 1
        have gl := lt_of_block X1
        have HX1 := Lib.hid X1
        have BXX : Hid (∀ w', Below w1.heap.size w1 w' → w'.cell? ⟨w.heap.size, 0, none⟩ = some (.int .i64 (k : Int)) ∧ w'.cell? ⟨w.heap.size, 1, none⟩ = some (.int .i64 0) ∧ w'.cell? ⟨w.heap.size, 2, none⟩ = some (.bool true) ∧ w'.cell? ⟨w.heap.size, 3, none⟩ = some (.slice a li c) ∧ w'.cell? ⟨w.heap.size, 4, none⟩ = some (.slice a' ln c')) := Lib.hid (fun w' hb => by
          have hx := (hb.block _ gl).trans HX1.out
          exact ⟨cell_of hx 0, cell_of hx 1, cell_of hx 2, cell_of hx 3, cell_of hx 4⟩)
        have BEL : Hid (∀ w', Below w1.heap.size w1 w' → Below w.heap.size w w') := Lib.hid (fun w' hb => B1.out.trans (hb.mono B1.out.size))
        clear hb1 X1 X PC
        go_wp2_with fail
        refine (PW.out w1).mono ?_; rintro e w4 ⟨rfl, hb4⟩
        have B4 := Lib.hid hb4
        clear hb4 x0 x1 PW
        obtain ⟨xx0, xx1, xx2, xx3, xx4⟩ := BXX.out w4 B4.out
        go_wp2_with (first | (go_at_call 52; refine (PA.out _).mono ?_; rintro e w' ⟨rfl, rfl⟩) | (go_at_call 53; refine (PN.out _).mono ?_; rintro e w' ⟨rfl, rfl⟩))
        skip
        generalize w4 = w7 at *
        have B7 := B4
        clear B4
        have m5 : C * I = li := HCI.out.symm
        have m6 : C * M = ln := HCM.out.symm
        have M5 := Lib.hid m5; have M6 := Lib.hid m6
        clear m5 m6 PA PN
        go_loopw [5, 8, 9, 10] (fun v5 v8 _ _ wr => RoRel w1 C (I + M) T v5 v8 wr) (fun _ v8 _ _ _ => C - (intOf v8).toNat)
        case atStart => exact ⟨0, Nat.zero_le _, rfl, by rw [← HTZ.out], B7.out⟩
        case round =>
          obtain ⟨i, hi, rfl, rfl, hb⟩ := hrel
          have B := Lib.hid hb
          clear hb xx0 xx1 xx2 xx3 xx4 B7
          obtain ⟨xx0, xx1, xx2, xx3, xx4⟩ := BXX.out wr B.out
          have PEW := Lib.hid (PE.out wr)
          have TI := Lib.hid (rfl : T (i * (I + M)) = T (i * (I + M)))
          by_cases hlt : i < C
          · have p1 : (i : Int) * (I : Int) = ((i * I : Nat) : Int) := by simp
            have p3 : (i + 1) * I = i * I + I := Nat.succ_mul i I
            have p4 : (i + 1) * I ≤ C * I := Nat.mul_le_mul_right I hlt
            have r1 : (i : Int) * (M : Int) = ((i * M : Nat) : Int) := by simp
            have r3 : (i + 1) * M = i * M + M := Nat.succ_mul i M
            have r4 : (i + 1) * M ≤ C * M := Nat.mul_le_mul_right M hlt
            have s3 : (i + 1) * (I + M) = i * (I + M) + (I + M) := Nat.succ_mul i (I + M)
            have s4 : (i + 1) * (I + M) ≤ C * (I + M) := Nat.mul_le_mul_right (I + M) hlt
            have s5 : C * (I + M) = C * I + C * M := Nat.mul_add C I M
            rw [M5.out] at p4 s5
            rw [M6.out] at r4 s5
            have TA := Lib.hid (fun j hj => T1.out i j hj)
            have TB := Lib.hid (fun j hj => T2.out i j hj)
            have S3 := Lib.hid s3
            have TLN : Hid (∀ m, m ≤ I + M → (T (i * (I + M) + m)).length ≤ 3000000) := Lib.hid (fun m hm => by have := T4.out (i * (I + M) + m); omega)
            rw [p3] at p4
            rw [r3] at r4
            clear s3 s4 s5 p3 r3 TI
            generalize i * (I + M) = b at *
            generalize i * I = P0 at *
            generalize i * M = Q0 at *
            obtain ⟨tb, htb⟩ : ∃ t, t = T b := ⟨_, rfl⟩
            rw [← htb]
            have HTB := Lib.hid (show tb = T (b + 0) from htb)
            clear htb
            go_wp2_with fail
            refine (PEW.out).mono ?_; rintro e w8 ⟨rfl, hb8⟩
            have B8 := Lib.hid (B.out.trans (hb8.mono B.out.size))
            clear hb8 PEW B xx0 xx1 xx2 xx3 xx4
            go_wp2_with fail
            generalize wr = V1 at *
            go_loopw [5, 9] (fun v5 v9 wr => RiRel w1 I b T v5 v9 wr) (fun _ v9 _ => I - (intOf v9).toNat)
            case atStart => exact ⟨0, Nat.zero_le _, rfl, by rw [← HTB.out], B8.out⟩
            case round =>
              obtain ⟨j, hj, rfl, rfl, hb⟩ := hrel
              have B1' := Lib.hid hb
              clear hb
              obtain ⟨xx0, xx1, xx2, xx3, xx4⟩ := BXX.out _ B1'.out
              by_cases hjl : j < I
              · have hS := LI.out _ (BEL.out _ B1'.out)
                have hlen := hS.hlen
                obtain ⟨pb, off, rfl, _, _⟩ := hS.at_ (by intro h; rw [h, List.length_nil] at hlen; omega)
                have cx := hS.cellK (i := P0 + j) (by omega)
                rw [NG.out] at cx
                have hux : ids.getD (P0 + j) 0 < 18446744073709551616 := by
                  by_cases hin : P0 + j < ids.length
                  · have := RII.out (ids.getD (P0 + j) 0) (by simp [hin]); omega
                  · rw [List.getD_eq_getElem?_getD, List.getElem?_eq_none (by omega)]; simp
                have ST := TA.out j hjl
                have hTl := TLN.out j (by omega)
                have hdl := dec_len20 hux
                have P9 := Lib.hid (rdigits (ids.getD (P0 + j) 0) hux wr)
                obtain ⟨t1, ht1⟩ : ∃ t, t = T (b + j) ++ [32] := ⟨_, rfl⟩
                obtain ⟨t2, ht2⟩ : ∃ t, t = T (b + j + 1) := ⟨_, rfl⟩
                rw [← ht1, ← ht2] at ST
                have h1 := add_strs (a := T (b + j)) (b := [32]) ht1 (by simp; omega)
                have ht1l : t1.length ≤ 3000001 := by rw [ht1]; simp; omega
                have h2 := add_strs (a := t1) (b := Lib.decDigits (ids.getD (P0 + j) 0)) ST (by omega)
                have hix1 : (0 : Int) ≤ ((P0 + j : Nat) : Int) := by omega
                have hix2 : (P0 : Int) + (j : Int) = ((P0 + j : Nat) : Int) := by simp
                have hix3 : P0 + j < li := by omega
                have HTN := Lib.hid ht2
                clear ST ht1 ht2 hTl
                generalize ids.getD (P0 + j) 0 = u at *
                generalize Lib.decDigits u = d at *
                generalize T (b + j) = t0 at *
                skip
                generalize P0 + j = pj at *
                clear hS hlen
                go_wp2_with fail
                refine (P9.out).mono ?_; rintro e w10 ⟨rfl, hb10⟩
                have B10 := Lib.hid (B1'.out.trans (hb10.mono B1'.out.size))
                clear hb10 P9
                go_wp2_with fail
                go_roundw
                case rel => exact ⟨j + 1, by omega, by go_num, by rw [← Nat.add_assoc, ← HTN.out], B10.out⟩
                case measure => simp [intOf]; omega
              · obtain ⟨tc, htc⟩ : ∃ t, t = T (b + I + 0) := ⟨_, rfl⟩
                have e1 : T (b + j) = tc := by rw [htc, show b + j = b + I + 0 by omega]
                rw [e1]
                have HTC := Lib.hid htc
                have BI := B1'
                clear B1' e1 htc
                go_wp2_with fail
                generalize wr = V2 at *
                go_loopw [5, 10] (fun v5 v10 wr => RiRel w1 M (b + I) T v5 v10 wr) (fun _ v10 _ => M - (intOf v10).toNat)
                case atStart => exact ⟨0, Nat.zero_le _, rfl, by rw [← HTC.out], BI.out⟩
                case round =>
                  obtain ⟨j2, hj2, rfl, rfl, hb⟩ := hrel
                  have B1' := Lib.hid hb
                  clear hb xx0 xx1 xx2 xx3 xx4
                  obtain ⟨xx0, xx1, xx2, xx3, xx4⟩ := BXX.out _ B1'.out
                  by_cases hjm : j2 < M
                  · have hS := LN.out _ (BEL.out _ B1'.out)
                    have hlen := hS.hlen
                    obtain ⟨pb, off, rfl, _, _⟩ := hS.at_ (by intro h; rw [h, List.length_nil] at hlen; omega)
                    have cx := hS.cellK (i := Q0 + j2) (by omega)
                    have hux : -9223372036854775808 ≤ nums.getD (Q0 + j2) 0 ∧ nums.getD (Q0 + j2) 0 ≤ 9223372036854775807 := by
                      by_cases hin : Q0 + j2 < nums.length
                      · exact RN.out (nums.getD (Q0 + j2) 0) (by simp [hin])
                      · rw [List.getD_eq_getElem?_getD, List.getElem?_eq_none (by omega)]; simp
                    have ST := TB.out j2 hjm
                    have hTl := TLN.out (I + j2) (by omega)
                    rw [← Nat.add_assoc] at hTl
                    have hdl := itoa_len hux.1 hux.2
                    have P9 := Lib.hid (rdecimal hux.1 hux.2 wr)
                    obtain ⟨t1, ht1⟩ : ∃ t, t = T (b + I + j2) ++ [32] := ⟨_, rfl⟩
                    obtain ⟨t2, ht2⟩ : ∃ t, t = T (b + I + j2 + 1) := ⟨_, rfl⟩
                    rw [← ht1, ← ht2] at ST
                    have h1 := add_strs (a := T (b + I + j2)) (b := [32]) ht1 (by simp; omega)
                    have ht1l : t1.length ≤ 3000001 := by rw [ht1]; simp; omega
                    have h2 := add_strs (a := t1) (b := Lib.itoa (nums.getD (Q0 + j2) 0)) ST (by omega)
                    have hix1 : (0 : Int) ≤ ((Q0 + j2 : Nat) : Int) := by omega
                    have hix2 : (Q0 : Int) + (j2 : Int) = ((Q0 + j2 : Nat) : Int) := by simp
                    have hix3 : Q0 + j2 < ln := by omega
                    have HTN := Lib.hid ht2
                    clear ST ht1 ht2 hTl
                    generalize nums.getD (Q0 + j2) 0 = x at *
                    generalize Lib.itoa x = d at *
                    generalize T (b + I + j2) = t0 at *
                    skip
                    generalize Q0 + j2 = pj at *
                    clear hS hlen
                    go_wp2_with fail
                    refine (P9.out).mono ?_; rintro e w10 ⟨rfl, hb10⟩
                    have B10 := Lib.hid (B1'.out.trans (hb10.mono B1'.out.size))
                    clear hb10 P9
                    go_wp2_with fail
                    go_roundw
                    case rel => exact ⟨j2 + 1, by omega, by go_num, by rw [← Nat.add_assoc, ← HTN.out], B10.out⟩
                    case measure => simp [intOf]; omega
                  · obtain ⟨td, htd⟩ : ∃ t, t = T ((i + 1) * (I + M)) := ⟨_, rfl⟩
                    have e1 : T (b + I + j2) = td := by rw [htd, show b + I + j2 = (i + 1) * (I + M) by rw [S3.out]; omega]
                    rw [e1]
                    have HTD := Lib.hid htd
                    have BF := B1'
                    clear B1' e1 htd
                    go_wp2_with fail
                    go_roundw
                    case rel => exact ⟨i + 1, by omega, by go_num, by rw [← HTD.out], BF.out⟩
                    case measure => simp [intOf]; omega
          · have e1 : T (i * (I + M)) = Z := by rw [show i = C by omega, ← HZ.out]
            rw [e1]
            clear e1
            go_wp2_with fail
            refine (PEW.out).mono ?_; rintro e w8 ⟨rfl, hb8⟩
            have B8 := Lib.hid (B.out.trans (hb8.mono B.out.size))
            clear hb8 PEW xx0 xx1 xx2 xx3 xx4
            go_wp2_with fail
            go_ret2
            exact ⟨rfl, BEL.out _ B8.out⟩
  refine cases3 (asksO (k : Int)) rfl (fun hy => ?_)
  cases hh : asksO (k : Int) with
  | true => rfl
  | false => exact absurd ⟨hy, hh⟩ hf4
end Go.Proofs.YtlmdkcpiimpniaaDoor

/- Line of the program: replies without an error. -/
import Derived.Test.YtlmdkcpiimpniaaDoorLd
namespace Go.Proofs.YtlmdkcpiimpniaaDoor
open Go.ChangeShapes Go.WideShapes Go.ChangeAt Go.RowKit
set_option linter.unusedVariables false
set_option linter.unusedSimpArgs false

/-- The line so far, by the number of words. -/
theorem line_T {k : Nat} {yes : Bool} {ids : List Nat} {nums : List Int} (hi : ∀ x ∈ ids, x ≤ 18446744073709551615) (hn : ∀ x ∈ nums, -9223372036854775808 ≤ x ∧ x ≤ 9223372036854775807) :
    ∃ T : Nat → Str, T 0 = headW k yes ∧ (∀ i j, j < ki k → T (i * (ki k + kn k) + j + 1) = T (i * (ki k + kn k) + j) ++ [32] ++ Lib.decDigits (ids.getD (i * ki k + j) 0)) ∧
      (∀ i j, j < kn k → T (i * (ki k + kn k) + ki k + j + 1) = T (i * (ki k + kn k) + ki k + j) ++ [32] ++ Lib.itoa (nums.getD (i * kn k + j) 0)) ∧
      lineS ⟨(k : Int), 0, yes, ids, nums⟩ = T (count k yes ids.length nums.length * (ki k + kn k)) ∧ (∀ m, (T m).length ≤ 16 + 22 * m) ∧ ∀ m, T m ≠ [] := by
  refine ⟨fun m => headW k yes ++ tailW k ids nums m, (by show headW k yes ++ tailW k ids nums 0 = _; rw [tail_zero, List.append_nil]), fun i j hj => ?_, fun i j hj => ?_, ?_, fun m => ?_, fun m => ?_⟩
  · show headW k yes ++ tailW k ids nums (i * (ki k + kn k) + j + 1) = _
    rw [tail_step, word_id hj, ← List.append_assoc, ← List.append_assoc]
  · show headW k yes ++ tailW k ids nums (i * (ki k + kn k) + ki k + j + 1) = _
    rw [tail_step, word_num hj, ← List.append_assoc, ← List.append_assoc]
  · have := line_ok (r := ⟨(k : Int), 0, yes, ids, nums⟩) rfl
    rwa [Int.toNat_natCast] at this
  · show (headW k yes ++ tailW k ids nums m).length ≤ _
    have h1 := head_len k yes
    have h2 := tail_len (k := k) hi hn (fun u hu => dec_len20 (by omega)) (fun x h0 h1 => itoa_len h0 h1) m
    rw [List.length_append]; omega
  · show headW k yes ++ tailW k ids nums m ≠ []
    unfold headW
    simp
theorem size28 : ∀ w, (sizeOf 28).run Tryd.prog w = .ok 1 w := fun w => by kernel_rfl
theorem size2 : ∀ w, (sizeOf 2).run Tryd.prog w = .ok 1 w := fun w => by kernel_rfl
def Ln (W2 : World) (G : Nat) (l : Str) (v : Value) (wr : World) : Prop := OutM wr G v l ∧ Below G W2 wr
def LoRel (W2 : World) (G C s : Nat) (T : Nat → Str) (v6 v52 : Value) (wr : World) : Prop := ∃ i : Nat, i ≤ C ∧ v52 = .int .i64 (i : Int) ∧ Ln W2 G (T (i * s)) v6 wr
def LiRel (W2 : World) (G N b : Nat) (T : Nat → Str) (v6 vj : Value) (wr : World) : Prop := ∃ j : Nat, j ≤ N ∧ vj = .int .i64 (j : Int) ∧ Ln W2 G (T (b + j)) v6 wr
theorem sub_get {zs : List Int} {p n i : Nat} (hi : i < n) : ((zs.take (p + n)).drop p).getD i 0 = zs.getD (p + i) 0 := by
  simp only [List.getD_eq_getElem?_getD, List.getElem?_drop, List.getElem?_take]
  rw [if_pos (by omega)]
set_option maxRecDepth 100000 in
set_option maxHeartbeats 32000000 in
theorem pline_ok {w : World} (hE : Env w) {r : Rp} {a a' : Option Addr} {c c' : Nat} (h : LsR w r a c a' c') (hI : RpIn r) (hk : chk r = 0) (he : r.er = 0) :
    Calls Tryd.prog 13 #[.agg (rpV r a c a' c')] w (LnS w r) := by
  have hA : Hid (Below w.heap.size w (w.alloc (.cells (rpV r a c a' c') 27))) := Lib.hid (Below.alloc (Below.refl _ _) (Nat.le_refl _) _)
  have X := Lib.hid (block_new w (.cells (rpV r a c a' c') 27))
  obtain ⟨hf, g1, g2⟩ := chk_fits hk
  have PC := Lib.hid (pcheck (hE.below hA.out) r a c a' c' (by omega) (by omega))
  obtain ⟨o0, o1, e0, e1⟩ := op_er hf
  have HZ0 := Lib.hid (show lineZ r = lineS r from if_pos hk)
  have HE := Lib.hid hE
  have HL := Lib.hid h
  have RI : Hid (∀ x ∈ ns r.ids, 0 ≤ x ∧ x ≤ 18446744073709551615) := Lib.hid (fun x hx => by
    unfold ns at hx
    obtain ⟨y, hy, rfl⟩ := List.mem_map.1 hx
    have := hI.ids y hy; omega)
  have RN := Lib.hid hI.nums
  have RII := Lib.hid hI.ids
  have LI := Lib.hid (fun w' (hb : Below w.heap.size w w') => (HL.out.keep hb).i)
  have LN := Lib.hid (fun w' (hb : Below w.heap.size w w') => (HL.out.keep hb).n)
  have m1 := h.i.hle; have m2 := h.i.hmax; have m3 := h.n.hle; have m4 := h.n.hmax
  unfold maxLen at m2 m4
  rw [hk] at PC
  unfold LnS
  rw [hk]
  generalize lineZ r = Z at *
  clear hE hk h hI HL
  unfold rpV at *
  obtain ⟨op, er, yes, ids, nums⟩ := r
  simp only at *
  subst he
  obtain ⟨k, rfl⟩ := Int.eq_ofNat_of_zero_le o0
  have hkk : k < 16 := by omega
  obtain ⟨T, t0, t1, t2, t3, t4, t5⟩ := line_T (k := k) (yes := yes) RII.out RN.out
  have T0 := Lib.hid t0; have T1 := Lib.hid t1; have T2 := Lib.hid t2; have T4 := Lib.hid t4; have T5 := Lib.hid t5
  have HZ := Lib.hid (HZ0.out.trans t3)
  clear t0 t1 t2 t3 t4 t5 HZ0
  obtain ⟨-, -, hf3⟩ := hf
  rw [if_neg (by simp)] at hf3
  obtain ⟨hf4, hf5, hf6⟩ := hf3
  simp only [Int.toNat_natCast] at hf5 hf6
  have HCI := Lib.hid hf5; have HCM := Lib.hid hf6
  have hay := asks_eq (op := (k : Int)) (by omega)
  rw [Int.toNat_natCast] at hay
  have HD : Hid (headW k yes = kwS k ++ [32, 111, 107] ++ (if asksO (k : Int) = true then (if yes = true then [32, 121, 101, 115] else [32, 110, 111]) else [])) := Lib.hid (by rw [hay]; rfl)
  have hcl := count_le (k := k) yes ids.length nums.length
  have PK := Lib.hid (fun w' (hb : Below w.heap.size w w') => pcount (HE.out.below hb) hkk 0 yes a a' ids.length c nums.length c' (by omega) (by omega))
  have NG : Hid (∀ i, (ns ids).getD i 0 = ((ids.getD i 0 : Nat) : Int)) := Lib.hid (fun i => ns_get ids i)
  generalize headW k yes = hw at *
  clear hf5 hf6 hay
  have LZ : Hid ((ns ids).length = ids.length) := Lib.hid (ns_len ids)
  generalize ns ids = zi at *
  have KC := Lib.hid (fun w' (hb : Below w.heap.size w w') => (HE.out.below hb).kind hkk)
  generalize hli : ids.length = li at *
  generalize hln : nums.length = ln at *
  have HLN := Lib.hid hln
  clear hli hln
  have hkl := (kw_len k).1
  obtain ⟨n1, n2, n3, n4, -⟩ := kinds_num hkk
  generalize count k yes li ln = C at *
  generalize kwS k = S at *
  generalize ki k = I at *
  generalize kn k = M at *
  generalize ke k = E at *
  have PA := Lib.hid (pasks (k : Int))
  clear n3 n4
  have cases3 : ∀ ao : Bool, asksO (k : Int) = ao → (yes = true → ao = true) → Calls Tryd.prog 13 #[.agg #[.int .i64 (k : Int), .int .i64 0, .bool yes, .slice a li c, .slice a' ln c']] w fun e w' => e = .returned (.tuple #[.string ⟨Z.toArray⟩, .int .i64 0]) ∧ Below w.heap.size w w' := by
    intro ao hao hya
    rw [hao] at PA HD
    clear hao
    cases ao
    · have hyf : yes = false := by cases yes with | false => rfl | true => exact absurd (hya rfl) (by decide)
      subst hyf
      clear hya hf4
      go_enter Tryd.func13, Tryd.ntmps13
      go_wp2_with fail
      refine (PC.out).mono ?_; rintro e w1 ⟨rfl, hb1⟩
      have B1 := Lib.hid (hA.out.trans (hb1.mono hA.out.size))
      have X1 := (hb1.block _ (lt_of_block X.out)).trans X.out
      have x0 : w1.cell? ⟨w.heap.size, 0, none⟩ = some (.int .i64 (k : Int)) := cell_of X1 0
      have x1 : w1.cell? ⟨w.heap.size, 1, none⟩ = some (.int .i64 0) := cell_of X1 1
      obtain ⟨y0, y1, y2, y3⟩ := KC.out w1 B1.out
      have z0 := lt_of_cell y0
      have gl := lt_of_block X1
      have HX1 := Lib.hid X1
      have A2 := Lib.hid (Below.alloc (Below.refl w1.heap.size w1) (Nat.le_refl _) (.cells #[.string ⟨S.toArray⟩, .int .i64 (I : Int), .int .i64 (M : Int), .int .i64 (E : Int)] 57))
      have HK2 := Lib.hid (block_new w1 (.cells #[.string ⟨S.toArray⟩, .int .i64 (I : Int), .int .i64 (M : Int), .int .i64 (E : Int)] 57))
      obtain ⟨vb, W3, hcv, hO3, hB3⟩ := run_toBytes (w1.alloc (.cells #[.string ⟨S.toArray⟩, .int .i64 (I : Int), .int .i64 (M : Int), .int .i64 (E : Int)] 57)) S (by omega)
      rw [show (w1.alloc (.cells #[.string ⟨S.toArray⟩, .int .i64 (I : Int), .int .i64 (M : Int), .int .i64 (E : Int)] 57)).heap.size = w1.heap.size + 1 by simp] at hO3 hB3
      obtain ⟨G, hG1, hG2, hO3, hB3⟩ : ∃ G, w1.heap.size < G ∧ G ≤ w1.heap.size + 1 ∧ OutM W3 G vb S ∧ Below G (w1.alloc (.cells #[.string ⟨S.toArray⟩, .int .i64 (I : Int), .int .i64 (M : Int), .int .i64 (E : Int)] 57)) W3 := ⟨_, Nat.lt_succ_self _, Nat.le_refl _, hO3, hB3⟩
      obtain ⟨W2, hW2⟩ : ∃ W2, W2 = w1.alloc (.cells #[.string ⟨S.toArray⟩, .int .i64 (I : Int), .int .i64 (M : Int), .int .i64 (E : Int)] 57) := ⟨_, rfl⟩
      rw [← hW2] at hB3 A2 HK2
      have hGW : G ≤ W2.heap.size := by rw [hW2]; simp; omega
      clear hW2
      have hBB : G ≤ W3.heap.size := Nat.le_trans hGW hB3.size
      have HG1 := Lib.hid hG1
      -- what is known in whatever world behind W2
      have BXX : Hid (∀ w', Below G W2 w' → w'.cell? ⟨w.heap.size, 0, none⟩ = some (.int .i64 (k : Int)) ∧ w'.cell? ⟨w.heap.size, 1, none⟩ = some (.int .i64 0) ∧ w'.cell? ⟨w.heap.size, 2, none⟩ = some (.bool false) ∧ w'.cell? ⟨w.heap.size, 3, none⟩ = some (.slice a li c) ∧ w'.cell? ⟨w.heap.size, 4, none⟩ = some (.slice a' ln c') ∧
          w'.cell? ⟨w1.heap.size, 1, none⟩ = some (.int .i64 (I : Int)) ∧ w'.cell? ⟨w1.heap.size, 2, none⟩ = some (.int .i64 (M : Int))) := Lib.hid (fun w' hb => by
        have hx := (hb.block _ (show w.heap.size < G by omega)).trans ((A2.out.block _ gl).trans HX1.out)
        have hy := (hb.block _ HG1.out).trans HK2.out
        exact ⟨cell_of hx 0, cell_of hx 1, cell_of hx 2, cell_of hx 3, cell_of hx 4, cell_of hy 1, cell_of hy 2⟩)
      have BEL : Hid (∀ w', Below G W2 w' → Below w.heap.size w w') := Lib.hid (fun w' hb => B1.out.trans ((A2.out.trans (hb.mono (by omega))).mono B1.out.size))
      obtain ⟨a3, n3, c3, rfl⟩ := hO3.shape
      have O3 := Lib.hid hO3; have B3 := Lib.hid hB3
      obtain ⟨xx0, xx1, xx2, -⟩ := BXX.out W3 hB3
      clear hb1 hO3 hB3 X1 X PC
      go_wp2_with (at_builtin; refine wpList_mStr rfl _ _ rfl rfl O3.out hBB [32, 111, 107] rfl (by simp; omega) ?_)
      intro v4 w4 h1 h2
      have O4 := Lib.hid h1
      have B4 := Lib.hid (B3.out.trans h2)
      obtain ⟨a4, n4, c4, rfl⟩ := h1.shape
      have hB4 : G ≤ w4.heap.size := Nat.le_trans hGW B4.out.size
      clear h1 h2 xx0 xx1 xx2 hcv x0 x1 y0 y1 y2 y3 O3 B3
      obtain ⟨xx0, xx1, xx2, -, -, -, -⟩ := BXX.out w4 B4.out
      obtain ⟨-, -, -, xx3, xx4, -, -⟩ := BXX.out w4 B4.out
      have O6 : Hid (OutM w4 G (.slice a4 n4 c4) (T 0)) := Lib.hid (by rw [T0.out, HD.out]; simpa using O4.out)
      have B6 := B4
      clear O4 B4
      generalize w4 = w6 at *
      go_wp2_with (go_at_call 34; refine (PA.out _).mono ?_; rintro e w' ⟨rfl, rfl⟩)
      refine (PK.out _ (BEL.out _ B6.out)).mono ?_; rintro e w7 ⟨rfl, hw7⟩
      have B7 : Hid (Below G W2 w7) := Lib.hid (by
        rw [hw7]
        exact (B6.out.alloc (Nat.le_trans hGW B6.out.size) _).alloc (by have := B6.out.size; simp; omega) _)
      have O7 : Hid (OutM w7 G _ (T 0)) := Lib.hid (O6.out.below (by
        rw [hw7]
        exact (Below.alloc (Below.refl _ _) (Nat.le_refl _) _).alloc (by simp) _))
      clear hw7 O6 B6 xx0 xx1 xx2 xx3 xx4 PK PA
      have m5 : C * I = li := HCI.out.symm
      have m6 : C * M = ln := HCM.out.symm
      have M5 := Lib.hid m5; have M6 := Lib.hid m6
      clear m5 m6
      go_wp2_with fail
      go_loopw [6, 7, 9, 11, 52] (fun v6 _ _ _ v52 wr => LoRel W2 G C (I + M) T v6 v52 wr) (fun _ _ _ _ v52 _ => C - (intOf v52).toNat)
      case atStart => exact ⟨0, Nat.zero_le _, rfl, by rw [Nat.zero_mul]; exact O7.out, B7.out⟩
      case round =>
        obtain ⟨i, hi, rfl, ho, hb⟩ := hrel
        have O := Lib.hid ho; have B := Lib.hid hb
        have hBr := Nat.le_trans hGW hb.size
        obtain ⟨a6, n6, c6, rfl⟩ := ho.shape
        clear ho hb O7 B7
        obtain ⟨-, -, -, xx3, xx4, kk1, kk2⟩ := BXX.out wr B.out
        by_cases hlt : i < C
        · have p1 : (i : Int) * (I : Int) = ((i * I : Nat) : Int) := by simp
          have p2 : ((i : Int) + 1) * (I : Int) = (((i + 1) * I : Nat) : Int) := by simp
          have p3 : (i + 1) * I = i * I + I := Nat.succ_mul i I
          have p4 : (i + 1) * I ≤ C * I := Nat.mul_le_mul_right I hlt
          have r1 : (i : Int) * (M : Int) = ((i * M : Nat) : Int) := by simp
          have r2 : ((i : Int) + 1) * (M : Int) = (((i + 1) * M : Nat) : Int) := by simp
          have r3 : (i + 1) * M = i * M + M := Nat.succ_mul i M
          have r4 : (i + 1) * M ≤ C * M := Nat.mul_le_mul_right M hlt
          have s3 : (i + 1) * (I + M) = i * (I + M) + (I + M) := Nat.succ_mul i (I + M)
          have s4 : (i + 1) * (I + M) ≤ C * (I + M) := Nat.mul_le_mul_right (I + M) hlt
          have s5 : C * (I + M) = C * I + C * M := Nat.mul_add C I M
          rw [M5.out] at p4 s5
          rw [M6.out] at r4 s5
          have TA := Lib.hid (fun j hj => T1.out i j hj)
          have TB := Lib.hid (fun j hj => T2.out i j hj)
          have S3 := Lib.hid s3
          have TLN : Hid (∀ m, m ≤ I + M → (T (i * (I + M) + m)).length ≤ 3000000) := Lib.hid (fun m hm => by have := T4.out (i * (I + M) + m); omega)
          clear s3 s4 s5
          generalize i * (I + M) = b at *
          generalize hP0 : i * I = P0 at *
          generalize hP1 : (i + 1) * I = P1 at *
          generalize hQ0 : i * M = Q0 at *
          generalize hQ1 : (i + 1) * M = Q1 at *
          clear hP0 hP1 hQ0 hQ1
          subst p3 r3
          have hq0 : (0 : Int) ≤ (P0 : Int) := by omega
          -- the IDs of the entry
          have hsl := run_lh Tryd.underlying25 size28 (a := a) (len := li) (cap := c) (l := (P0 : Int)) (h := ((P0 + I : Nat) : Int)) (k := P0) (m := P0 + I) rfl rfl (by omega) (by omega)
          have SL := Lib.hid (fun w' hb => (LI.out w' hb).part (l := P0) (r := P0 + I) (m := c) (by omega) (by omega) (by omega) (Nat.le_refl _))
          rw [show P0 + I - P0 = I by omega] at hsl SL
          have hsl2 := run_lh Tryd.underlying23 size2 (a := a') (len := ln) (cap := c') (l := (Q0 : Int)) (h := ((Q0 + M : Nat) : Int)) (k := Q0) (m := Q0 + M) rfl rfl (by omega) (by omega)
          have SN := Lib.hid (fun w' hb => (LN.out w' hb).part (l := Q0) (r := Q0 + M) (m := c') (by omega) (by omega) (by omega) (Nat.le_refl _))
          rw [show Q0 + M - Q0 = M by omega] at hsl2 SN
          generalize part a P0 c 1 = pa at *
          generalize part a' Q0 c' 1 = pn at *
          generalize c - P0 = qa at *
          generalize c' - Q0 = qn at *
          push_cast at hsl hsl2 p2 r2
          go_wp2_with fail
          generalize wr = V1 at *
          go_loopw [6, 9, 68] (fun v6 _ v68 wr => LiRel W2 G I b T v6 v68 wr) (fun _ _ v68 _ => I - (intOf v68).toNat)
          case atStart => exact ⟨0, Nat.zero_le _, rfl, O.out, B.out⟩
          case round =>
            obtain ⟨j, hj, rfl, ho, hb⟩ := hrel
            have O1 := Lib.hid ho; have B1' := Lib.hid hb
            have hBr1 := Nat.le_trans hGW hb.size
            obtain ⟨a8, n8, c8, rfl⟩ := ho.shape
            clear ho hb xx3 xx4 kk1 kk2 O B
            obtain ⟨-, -, -, xx3, xx4, kk1, kk2⟩ := BXX.out _ B1'.out
            by_cases hjl : j < I
            · have hS := SL.out _ (BEL.out _ B1'.out)
              have hlen := hS.hlen
              obtain ⟨pb, off, rfl, _, _⟩ := hS.at_ (by intro h; rw [h, List.length_nil] at hlen; omega)
              have cx := hS.cellK (i := j) (by omega)
              rw [sub_get hjl, NG.out] at cx
              have hux : ids.getD (P0 + j) 0 < 18446744073709551616 := by
                have := RII.out (ids.getD (P0 + j) 0)
                by_cases hin : P0 + j < ids.length
                · have := RII.out (ids.getD (P0 + j) 0) (by simp [hin]); omega
                · rw [List.getD_eq_getElem?_getD, List.getElem?_eq_none (by omega)]; simp
              have ST := Lib.hid (TA.out j hjl)
              generalize ids.getD (P0 + j) 0 = u at *
              have hTl := TLN.out j (by omega)
              have A8 := Lib.hid (Below.alloc (Below.refl wr.heap.size wr) (Nat.le_refl _) (.cells #[.int .u8 32] 5))
              have O8 := Lib.hid (O1.out.below A8.out)
              have hB8 := Nat.le_trans hBr1 A8.out.size
              clear hS hlen xx3 xx4 kk1 kk2
              go_wp2_with (at_builtin; refine wpList_mBytes rfl (.tmp 72) (.tmp 73) rfl rfl O8.out hB8 [32] rfl rfl (fun j u' hj => by
                match j, hj with
                | 0, hj => simp [Lib.byteCells] at hj; subst hj; simp [Addr.add]) (by simp; omega) ?_)
              intro v9 w9 h1 h2
              have B9 := Lib.hid (B1'.out.trans ((A8.out.mono hBr1).trans h2))
              have P9 := Lib.hid (m_appu HE.out (BEL.out _ B9.out) (Nat.le_trans hB8 h2.size) h1 hux (by simp; omega))
              obtain ⟨a9, n9, c9, rfl⟩ := h1.shape
              clear h1 h2 A8 O8 hB8 cx
              go_wp2_with fail
              refine (P9.out).mono ?_; rintro e w10 ⟨v10, rfl, h1, h2⟩
              have O10 := Lib.hid h1
              have B10 := Lib.hid (B9.out.trans h2)
              clear h1 h2 P9
              go_wp2_with fail
              go_roundw
              case rel => exact ⟨j + 1, by omega, by go_num, by rw [← Nat.add_assoc, ST.out]; exact O10.out, B10.out⟩
              case measure => simp [intOf]; omega
            · have OI : Hid (OutM _ G (.slice a8 n8 c8) (T (b + I + 0))) := Lib.hid (by have := O1.out; rwa [show b + j = b + I + 0 by omega] at this)
              have BI := B1'
              clear O1 B1'
              go_wp2_with fail
              generalize wr = V2 at *
              go_loopw [6, 11, 91] (fun v6 _ v91 wr => LiRel W2 G M (b + I) T v6 v91 wr) (fun _ _ v91 _ => M - (intOf v91).toNat)
              case atStart => exact ⟨0, Nat.zero_le _, rfl, OI.out, BI.out⟩
              case round =>
                obtain ⟨j2, hj2, rfl, ho, hb⟩ := hrel
                have O1 := Lib.hid ho; have B1' := Lib.hid hb
                have hBr2 := Nat.le_trans hGW hb.size
                obtain ⟨a11, n11, c11, rfl⟩ := ho.shape
                clear ho hb xx3 xx4 kk1 kk2 OI BI
                obtain ⟨-, -, -, xx3, xx4, kk1, kk2⟩ := BXX.out _ B1'.out
                by_cases hjm : j2 < M
                · have hS := SN.out _ (BEL.out _ B1'.out)
                  have hlen := hS.hlen
                  obtain ⟨pb, off, rfl, _, _⟩ := hS.at_ (by intro h; rw [h, List.length_nil] at hlen; omega)
                  have cx := hS.cellK (i := j2) (by omega)
                  rw [sub_get hjm] at cx
                  have hux : -9223372036854775808 ≤ nums.getD (Q0 + j2) 0 ∧ nums.getD (Q0 + j2) 0 ≤ 9223372036854775807 := by
                    by_cases hin : Q0 + j2 < nums.length
                    · exact RN.out (nums.getD (Q0 + j2) 0) (by simp [hin])
                    · rw [List.getD_eq_getElem?_getD, List.getElem?_eq_none (by omega)]; simp
                  have ST := Lib.hid (TB.out j2 hjm)
                  generalize nums.getD (Q0 + j2) 0 = x at *
                  have hTl := TLN.out (I + j2) (by omega)
                  rw [← Nat.add_assoc] at hTl
                  have A8 := Lib.hid (Below.alloc (Below.refl wr.heap.size wr) (Nat.le_refl _) (.cells #[.int .u8 32] 5))
                  have O8 := Lib.hid (O1.out.below A8.out)
                  have hB8 := Nat.le_trans hBr2 A8.out.size
                  clear hS hlen xx3 xx4 kk1 kk2
                  go_wp2_with (at_builtin; refine wpList_mBytes rfl (.tmp 95) (.tmp 96) rfl rfl O8.out hB8 [32] rfl rfl (fun j u' hj => by
                    match j, hj with
                    | 0, hj => simp [Lib.byteCells] at hj; subst hj; simp [Addr.add]) (by simp; omega) ?_)
                  intro v9 w9 h1 h2
                  have B9 := Lib.hid (B1'.out.trans ((A8.out.mono hBr2).trans h2))
                  have P9 := Lib.hid (m_appi HE.out (BEL.out _ B9.out) (by have := B1.out.size; omega) (Nat.le_trans hB8 h2.size) h1 hux.1 hux.2 (by simp; omega))
                  obtain ⟨a9, n9, c9, rfl⟩ := h1.shape
                  clear h1 h2 A8 O8 hB8 cx
                  go_wp2_with fail
                  refine (P9.out).mono ?_; rintro e w10 ⟨v10, rfl, h1, h2⟩
                  have O10 := Lib.hid h1
                  have B10 := Lib.hid (B9.out.trans h2)
                  clear h1 h2 P9
                  go_wp2_with fail
                  go_roundw
                  case rel => exact ⟨j2 + 1, by omega, by go_num, by rw [← Nat.add_assoc, ST.out]; exact O10.out, B10.out⟩
                  case measure => simp [intOf]; omega
                · have OF : Hid (OutM _ G (.slice a11 n11 c11) (T ((i + 1) * (I + M)))) := Lib.hid (by have := O1.out; rwa [show b + I + j2 = (i + 1) * (I + M) by rw [S3.out]; omega] at this)
                  have BF := B1'
                  clear O1 B1'
                  go_wp2_with fail
                  go_roundw
                  case rel => exact ⟨i + 1, by omega, by go_num, OF.out, BF.out⟩
                  case measure => simp [intOf]; omega
        · have hs := outM_string O.out (T5.out _)
          rw [show i * (I + M) = C * (I + M) by rw [show i = C by omega], ← HZ.out] at hs
          go_wp2_with fail
          go_ret2
          exact ⟨rfl, BEL.out _ B.out⟩
    · cases yes
      · clear hya hf4
        go_enter Tryd.func13, Tryd.ntmps13
        go_wp2_with fail
        refine (PC.out).mono ?_; rintro e w1 ⟨rfl, hb1⟩
        have B1 := Lib.hid (hA.out.trans (hb1.mono hA.out.size))
        have X1 := (hb1.block _ (lt_of_block X.out)).trans X.out
        have x0 : w1.cell? ⟨w.heap.size, 0, none⟩ = some (.int .i64 (k : Int)) := cell_of X1 0
        have x1 : w1.cell? ⟨w.heap.size, 1, none⟩ = some (.int .i64 0) := cell_of X1 1
        obtain ⟨y0, y1, y2, y3⟩ := KC.out w1 B1.out
        have z0 := lt_of_cell y0
        have gl := lt_of_block X1
        have HX1 := Lib.hid X1
        have A2 := Lib.hid (Below.alloc (Below.refl w1.heap.size w1) (Nat.le_refl _) (.cells #[.string ⟨S.toArray⟩, .int .i64 (I : Int), .int .i64 (M : Int), .int .i64 (E : Int)] 57))
        have HK2 := Lib.hid (block_new w1 (.cells #[.string ⟨S.toArray⟩, .int .i64 (I : Int), .int .i64 (M : Int), .int .i64 (E : Int)] 57))
        obtain ⟨vb, W3, hcv, hO3, hB3⟩ := run_toBytes (w1.alloc (.cells #[.string ⟨S.toArray⟩, .int .i64 (I : Int), .int .i64 (M : Int), .int .i64 (E : Int)] 57)) S (by omega)
        rw [show (w1.alloc (.cells #[.string ⟨S.toArray⟩, .int .i64 (I : Int), .int .i64 (M : Int), .int .i64 (E : Int)] 57)).heap.size = w1.heap.size + 1 by simp] at hO3 hB3
        obtain ⟨G, hG1, hG2, hO3, hB3⟩ : ∃ G, w1.heap.size < G ∧ G ≤ w1.heap.size + 1 ∧ OutM W3 G vb S ∧ Below G (w1.alloc (.cells #[.string ⟨S.toArray⟩, .int .i64 (I : Int), .int .i64 (M : Int), .int .i64 (E : Int)] 57)) W3 := ⟨_, Nat.lt_succ_self _, Nat.le_refl _, hO3, hB3⟩
        obtain ⟨W2, hW2⟩ : ∃ W2, W2 = w1.alloc (.cells #[.string ⟨S.toArray⟩, .int .i64 (I : Int), .int .i64 (M : Int), .int .i64 (E : Int)] 57) := ⟨_, rfl⟩
        rw [← hW2] at hB3 A2 HK2
        have hGW : G ≤ W2.heap.size := by rw [hW2]; simp; omega
        clear hW2
        have hBB : G ≤ W3.heap.size := Nat.le_trans hGW hB3.size
        have HG1 := Lib.hid hG1
        -- what is known in whatever world behind W2
        have BXX : Hid (∀ w', Below G W2 w' → w'.cell? ⟨w.heap.size, 0, none⟩ = some (.int .i64 (k : Int)) ∧ w'.cell? ⟨w.heap.size, 1, none⟩ = some (.int .i64 0) ∧ w'.cell? ⟨w.heap.size, 2, none⟩ = some (.bool false) ∧ w'.cell? ⟨w.heap.size, 3, none⟩ = some (.slice a li c) ∧ w'.cell? ⟨w.heap.size, 4, none⟩ = some (.slice a' ln c') ∧
            w'.cell? ⟨w1.heap.size, 1, none⟩ = some (.int .i64 (I : Int)) ∧ w'.cell? ⟨w1.heap.size, 2, none⟩ = some (.int .i64 (M : Int))) := Lib.hid (fun w' hb => by
          have hx := (hb.block _ (show w.heap.size < G by omega)).trans ((A2.out.block _ gl).trans HX1.out)
          have hy := (hb.block _ HG1.out).trans HK2.out
          exact ⟨cell_of hx 0, cell_of hx 1, cell_of hx 2, cell_of hx 3, cell_of hx 4, cell_of hy 1, cell_of hy 2⟩)
        have BEL : Hid (∀ w', Below G W2 w' → Below w.heap.size w w') := Lib.hid (fun w' hb => B1.out.trans ((A2.out.trans (hb.mono (by omega))).mono B1.out.size))
        obtain ⟨a3, n3, c3, rfl⟩ := hO3.shape
        have O3 := Lib.hid hO3; have B3 := Lib.hid hB3
        obtain ⟨xx0, xx1, xx2, -⟩ := BXX.out W3 hB3
        clear hb1 hO3 hB3 X1 X PC
        go_wp2_with (at_builtin; refine wpList_mStr rfl _ _ rfl rfl O3.out hBB [32, 111, 107] rfl (by simp; omega) ?_)
        intro v4 w4 h1 h2
        have O4 := Lib.hid h1
        have B4 := Lib.hid (B3.out.trans h2)
        obtain ⟨a4, n4, c4, rfl⟩ := h1.shape
        have hB4 : G ≤ w4.heap.size := Nat.le_trans hGW B4.out.size
        clear h1 h2 xx0 xx1 xx2 hcv x0 x1 y0 y1 y2 y3 O3 B3
        obtain ⟨xx0, xx1, xx2, -, -, -, -⟩ := BXX.out w4 B4.out
        go_wp2_with (first | (go_at_call 34; refine (PA.out _).mono ?_; rintro e w' ⟨rfl, rfl⟩) | (at_builtin; refine wpList_mStr rfl _ _ rfl rfl O4.out hB4 [32, 110, 111] rfl (by simp; omega) ?_))
        intro v5 w5 h1 h2
        have O5 := Lib.hid h1
        have B5 := Lib.hid (B4.out.trans h2)
        obtain ⟨a5, n5, c5, rfl⟩ := h1.shape
        have hB5 : G ≤ w5.heap.size := Nat.le_trans hGW B5.out.size
        clear h1 h2 xx0 xx1 xx2 O4 B4 hB4
        obtain ⟨xx0, xx1, xx2, xx3, xx4, -, -⟩ := BXX.out w5 B5.out
        have O6 : Hid (OutM w5 G (.slice a5 n5 c5) (T 0)) := Lib.hid (by rw [T0.out, HD.out]; simpa using O5.out)
        have B6 := B5
        clear O5 B5
        generalize w5 = w6 at *
        go_wp2_with fail
        refine (PK.out _ (BEL.out _ B6.out)).mono ?_; rintro e w7 ⟨rfl, hw7⟩
        have B7 : Hid (Below G W2 w7) := Lib.hid (by
          rw [hw7]
          exact (B6.out.alloc (Nat.le_trans hGW B6.out.size) _).alloc (by have := B6.out.size; simp; omega) _)
        have O7 : Hid (OutM w7 G _ (T 0)) := Lib.hid (O6.out.below (by
          rw [hw7]
          exact (Below.alloc (Below.refl _ _) (Nat.le_refl _) _).alloc (by simp) _))
        clear hw7 O6 B6 xx0 xx1 xx2 xx3 xx4 PK PA
        have m5 : C * I = li := HCI.out.symm
        have m6 : C * M = ln := HCM.out.symm
        have M5 := Lib.hid m5; have M6 := Lib.hid m6
        clear m5 m6
        go_wp2_with fail
        go_loopw [6, 7, 9, 11, 52] (fun v6 _ _ _ v52 wr => LoRel W2 G C (I + M) T v6 v52 wr) (fun _ _ _ _ v52 _ => C - (intOf v52).toNat)
        case atStart => exact ⟨0, Nat.zero_le _, rfl, by rw [Nat.zero_mul]; exact O7.out, B7.out⟩
        case round =>
          obtain ⟨i, hi, rfl, ho, hb⟩ := hrel
          have O := Lib.hid ho; have B := Lib.hid hb
          have hBr := Nat.le_trans hGW hb.size
          obtain ⟨a6, n6, c6, rfl⟩ := ho.shape
          clear ho hb O7 B7
          obtain ⟨-, -, -, xx3, xx4, kk1, kk2⟩ := BXX.out wr B.out
          by_cases hlt : i < C
          · have p1 : (i : Int) * (I : Int) = ((i * I : Nat) : Int) := by simp
            have p2 : ((i : Int) + 1) * (I : Int) = (((i + 1) * I : Nat) : Int) := by simp
            have p3 : (i + 1) * I = i * I + I := Nat.succ_mul i I
            have p4 : (i + 1) * I ≤ C * I := Nat.mul_le_mul_right I hlt
            have r1 : (i : Int) * (M : Int) = ((i * M : Nat) : Int) := by simp
            have r2 : ((i : Int) + 1) * (M : Int) = (((i + 1) * M : Nat) : Int) := by simp
            have r3 : (i + 1) * M = i * M + M := Nat.succ_mul i M
            have r4 : (i + 1) * M ≤ C * M := Nat.mul_le_mul_right M hlt
            have s3 : (i + 1) * (I + M) = i * (I + M) + (I + M) := Nat.succ_mul i (I + M)
            have s4 : (i + 1) * (I + M) ≤ C * (I + M) := Nat.mul_le_mul_right (I + M) hlt
            have s5 : C * (I + M) = C * I + C * M := Nat.mul_add C I M
            rw [M5.out] at p4 s5
            rw [M6.out] at r4 s5
            have TA := Lib.hid (fun j hj => T1.out i j hj)
            have TB := Lib.hid (fun j hj => T2.out i j hj)
            have S3 := Lib.hid s3
            have TLN : Hid (∀ m, m ≤ I + M → (T (i * (I + M) + m)).length ≤ 3000000) := Lib.hid (fun m hm => by have := T4.out (i * (I + M) + m); omega)
            clear s3 s4 s5
            generalize i * (I + M) = b at *
            generalize hP0 : i * I = P0 at *
            generalize hP1 : (i + 1) * I = P1 at *
            generalize hQ0 : i * M = Q0 at *
            generalize hQ1 : (i + 1) * M = Q1 at *
            clear hP0 hP1 hQ0 hQ1
            subst p3 r3
            have hq0 : (0 : Int) ≤ (P0 : Int) := by omega
            -- the IDs of the entry
            have hsl := run_lh Tryd.underlying25 size28 (a := a) (len := li) (cap := c) (l := (P0 : Int)) (h := ((P0 + I : Nat) : Int)) (k := P0) (m := P0 + I) rfl rfl (by omega) (by omega)
            have SL := Lib.hid (fun w' hb => (LI.out w' hb).part (l := P0) (r := P0 + I) (m := c) (by omega) (by omega) (by omega) (Nat.le_refl _))
            rw [show P0 + I - P0 = I by omega] at hsl SL
            have hsl2 := run_lh Tryd.underlying23 size2 (a := a') (len := ln) (cap := c') (l := (Q0 : Int)) (h := ((Q0 + M : Nat) : Int)) (k := Q0) (m := Q0 + M) rfl rfl (by omega) (by omega)
            have SN := Lib.hid (fun w' hb => (LN.out w' hb).part (l := Q0) (r := Q0 + M) (m := c') (by omega) (by omega) (by omega) (Nat.le_refl _))
            rw [show Q0 + M - Q0 = M by omega] at hsl2 SN
            generalize part a P0 c 1 = pa at *
            generalize part a' Q0 c' 1 = pn at *
            generalize c - P0 = qa at *
            generalize c' - Q0 = qn at *
            push_cast at hsl hsl2 p2 r2
            go_wp2_with fail
            generalize wr = V1 at *
            go_loopw [6, 9, 68] (fun v6 _ v68 wr => LiRel W2 G I b T v6 v68 wr) (fun _ _ v68 _ => I - (intOf v68).toNat)
            case atStart => exact ⟨0, Nat.zero_le _, rfl, O.out, B.out⟩
            case round =>
              obtain ⟨j, hj, rfl, ho, hb⟩ := hrel
              have O1 := Lib.hid ho; have B1' := Lib.hid hb
              have hBr1 := Nat.le_trans hGW hb.size
              obtain ⟨a8, n8, c8, rfl⟩ := ho.shape
              clear ho hb xx3 xx4 kk1 kk2 O B
              obtain ⟨-, -, -, xx3, xx4, kk1, kk2⟩ := BXX.out _ B1'.out
              by_cases hjl : j < I
              · have hS := SL.out _ (BEL.out _ B1'.out)
                have hlen := hS.hlen
                obtain ⟨pb, off, rfl, _, _⟩ := hS.at_ (by intro h; rw [h, List.length_nil] at hlen; omega)
                have cx := hS.cellK (i := j) (by omega)
                rw [sub_get hjl, NG.out] at cx
                have hux : ids.getD (P0 + j) 0 < 18446744073709551616 := by
                  have := RII.out (ids.getD (P0 + j) 0)
                  by_cases hin : P0 + j < ids.length
                  · have := RII.out (ids.getD (P0 + j) 0) (by simp [hin]); omega
                  · rw [List.getD_eq_getElem?_getD, List.getElem?_eq_none (by omega)]; simp
                have ST := Lib.hid (TA.out j hjl)
                generalize ids.getD (P0 + j) 0 = u at *
                have hTl := TLN.out j (by omega)
                have A8 := Lib.hid (Below.alloc (Below.refl wr.heap.size wr) (Nat.le_refl _) (.cells #[.int .u8 32] 5))
                have O8 := Lib.hid (O1.out.below A8.out)
                have hB8 := Nat.le_trans hBr1 A8.out.size
                clear hS hlen xx3 xx4 kk1 kk2
                go_wp2_with (at_builtin; refine wpList_mBytes rfl (.tmp 72) (.tmp 73) rfl rfl O8.out hB8 [32] rfl rfl (fun j u' hj => by
                  match j, hj with
                  | 0, hj => simp [Lib.byteCells] at hj; subst hj; simp [Addr.add]) (by simp; omega) ?_)
                intro v9 w9 h1 h2
                have B9 := Lib.hid (B1'.out.trans ((A8.out.mono hBr1).trans h2))
                have P9 := Lib.hid (m_appu HE.out (BEL.out _ B9.out) (Nat.le_trans hB8 h2.size) h1 hux (by simp; omega))
                obtain ⟨a9, n9, c9, rfl⟩ := h1.shape
                clear h1 h2 A8 O8 hB8 cx
                go_wp2_with fail
                refine (P9.out).mono ?_; rintro e w10 ⟨v10, rfl, h1, h2⟩
                have O10 := Lib.hid h1
                have B10 := Lib.hid (B9.out.trans h2)
                clear h1 h2 P9
                go_wp2_with fail
                go_roundw
                case rel => exact ⟨j + 1, by omega, by go_num, by rw [← Nat.add_assoc, ST.out]; exact O10.out, B10.out⟩
                case measure => simp [intOf]; omega
              · have OI : Hid (OutM _ G (.slice a8 n8 c8) (T (b + I + 0))) := Lib.hid (by have := O1.out; rwa [show b + j = b + I + 0 by omega] at this)
                have BI := B1'
                clear O1 B1'
                go_wp2_with fail
                generalize wr = V2 at *
                go_loopw [6, 11, 91] (fun v6 _ v91 wr => LiRel W2 G M (b + I) T v6 v91 wr) (fun _ _ v91 _ => M - (intOf v91).toNat)
                case atStart => exact ⟨0, Nat.zero_le _, rfl, OI.out, BI.out⟩
                case round =>
                  obtain ⟨j2, hj2, rfl, ho, hb⟩ := hrel
                  have O1 := Lib.hid ho; have B1' := Lib.hid hb
                  have hBr2 := Nat.le_trans hGW hb.size
                  obtain ⟨a11, n11, c11, rfl⟩ := ho.shape
                  clear ho hb xx3 xx4 kk1 kk2 OI BI
                  obtain ⟨-, -, -, xx3, xx4, kk1, kk2⟩ := BXX.out _ B1'.out
                  by_cases hjm : j2 < M
                  · have hS := SN.out _ (BEL.out _ B1'.out)
                    have hlen := hS.hlen
                    obtain ⟨pb, off, rfl, _, _⟩ := hS.at_ (by intro h; rw [h, List.length_nil] at hlen; omega)
                    have cx := hS.cellK (i := j2) (by omega)
                    rw [sub_get hjm] at cx
                    have hux : -9223372036854775808 ≤ nums.getD (Q0 + j2) 0 ∧ nums.getD (Q0 + j2) 0 ≤ 9223372036854775807 := by
                      by_cases hin : Q0 + j2 < nums.length
                      · exact RN.out (nums.getD (Q0 + j2) 0) (by simp [hin])
                      · rw [List.getD_eq_getElem?_getD, List.getElem?_eq_none (by omega)]; simp
                    have ST := Lib.hid (TB.out j2 hjm)
                    generalize nums.getD (Q0 + j2) 0 = x at *
                    have hTl := TLN.out (I + j2) (by omega)
                    rw [← Nat.add_assoc] at hTl
                    have A8 := Lib.hid (Below.alloc (Below.refl wr.heap.size wr) (Nat.le_refl _) (.cells #[.int .u8 32] 5))
                    have O8 := Lib.hid (O1.out.below A8.out)
                    have hB8 := Nat.le_trans hBr2 A8.out.size
                    clear hS hlen xx3 xx4 kk1 kk2
                    go_wp2_with (at_builtin; refine wpList_mBytes rfl (.tmp 95) (.tmp 96) rfl rfl O8.out hB8 [32] rfl rfl (fun j u' hj => by
                      match j, hj with
                      | 0, hj => simp [Lib.byteCells] at hj; subst hj; simp [Addr.add]) (by simp; omega) ?_)
                    intro v9 w9 h1 h2
                    have B9 := Lib.hid (B1'.out.trans ((A8.out.mono hBr2).trans h2))
                    have P9 := Lib.hid (m_appi HE.out (BEL.out _ B9.out) (by have := B1.out.size; omega) (Nat.le_trans hB8 h2.size) h1 hux.1 hux.2 (by simp; omega))
                    obtain ⟨a9, n9, c9, rfl⟩ := h1.shape
                    clear h1 h2 A8 O8 hB8 cx
                    go_wp2_with fail
                    refine (P9.out).mono ?_; rintro e w10 ⟨v10, rfl, h1, h2⟩
                    have O10 := Lib.hid h1
                    have B10 := Lib.hid (B9.out.trans h2)
                    clear h1 h2 P9
                    go_wp2_with fail
                    go_roundw
                    case rel => exact ⟨j2 + 1, by omega, by go_num, by rw [← Nat.add_assoc, ST.out]; exact O10.out, B10.out⟩
                    case measure => simp [intOf]; omega
                  · have OF : Hid (OutM _ G (.slice a11 n11 c11) (T ((i + 1) * (I + M)))) := Lib.hid (by have := O1.out; rwa [show b + I + j2 = (i + 1) * (I + M) by rw [S3.out]; omega] at this)
                    have BF := B1'
                    clear O1 B1'
                    go_wp2_with fail
                    go_roundw
                    case rel => exact ⟨i + 1, by omega, by go_num, OF.out, BF.out⟩
                    case measure => simp [intOf]; omega
          · have hs := outM_string O.out (T5.out _)
            rw [show i * (I + M) = C * (I + M) by rw [show i = C by omega], ← HZ.out] at hs
            go_wp2_with fail
            go_ret2
            exact ⟨rfl, BEL.out _ B.out⟩
      · clear hya hf4
        go_enter Tryd.func13, Tryd.ntmps13
        go_wp2_with fail
        refine (PC.out).mono ?_; rintro e w1 ⟨rfl, hb1⟩
        have B1 := Lib.hid (hA.out.trans (hb1.mono hA.out.size))
        have X1 := (hb1.block _ (lt_of_block X.out)).trans X.out
        have x0 : w1.cell? ⟨w.heap.size, 0, none⟩ = some (.int .i64 (k : Int)) := cell_of X1 0
        have x1 : w1.cell? ⟨w.heap.size, 1, none⟩ = some (.int .i64 0) := cell_of X1 1
        obtain ⟨y0, y1, y2, y3⟩ := KC.out w1 B1.out
        have z0 := lt_of_cell y0
        have gl := lt_of_block X1
        have HX1 := Lib.hid X1
        have A2 := Lib.hid (Below.alloc (Below.refl w1.heap.size w1) (Nat.le_refl _) (.cells #[.string ⟨S.toArray⟩, .int .i64 (I : Int), .int .i64 (M : Int), .int .i64 (E : Int)] 57))
        have HK2 := Lib.hid (block_new w1 (.cells #[.string ⟨S.toArray⟩, .int .i64 (I : Int), .int .i64 (M : Int), .int .i64 (E : Int)] 57))
        obtain ⟨vb, W3, hcv, hO3, hB3⟩ := run_toBytes (w1.alloc (.cells #[.string ⟨S.toArray⟩, .int .i64 (I : Int), .int .i64 (M : Int), .int .i64 (E : Int)] 57)) S (by omega)
        rw [show (w1.alloc (.cells #[.string ⟨S.toArray⟩, .int .i64 (I : Int), .int .i64 (M : Int), .int .i64 (E : Int)] 57)).heap.size = w1.heap.size + 1 by simp] at hO3 hB3
        obtain ⟨G, hG1, hG2, hO3, hB3⟩ : ∃ G, w1.heap.size < G ∧ G ≤ w1.heap.size + 1 ∧ OutM W3 G vb S ∧ Below G (w1.alloc (.cells #[.string ⟨S.toArray⟩, .int .i64 (I : Int), .int .i64 (M : Int), .int .i64 (E : Int)] 57)) W3 := ⟨_, Nat.lt_succ_self _, Nat.le_refl _, hO3, hB3⟩
        obtain ⟨W2, hW2⟩ : ∃ W2, W2 = w1.alloc (.cells #[.string ⟨S.toArray⟩, .int .i64 (I : Int), .int .i64 (M : Int), .int .i64 (E : Int)] 57) := ⟨_, rfl⟩
        rw [← hW2] at hB3 A2 HK2
        have hGW : G ≤ W2.heap.size := by rw [hW2]; simp; omega
        clear hW2
        have hBB : G ≤ W3.heap.size := Nat.le_trans hGW hB3.size
        have HG1 := Lib.hid hG1
        -- what is known in whatever world behind W2
        have BXX : Hid (∀ w', Below G W2 w' → w'.cell? ⟨w.heap.size, 0, none⟩ = some (.int .i64 (k : Int)) ∧ w'.cell? ⟨w.heap.size, 1, none⟩ = some (.int .i64 0) ∧ w'.cell? ⟨w.heap.size, 2, none⟩ = some (.bool true) ∧ w'.cell? ⟨w.heap.size, 3, none⟩ = some (.slice a li c) ∧ w'.cell? ⟨w.heap.size, 4, none⟩ = some (.slice a' ln c') ∧
            w'.cell? ⟨w1.heap.size, 1, none⟩ = some (.int .i64 (I : Int)) ∧ w'.cell? ⟨w1.heap.size, 2, none⟩ = some (.int .i64 (M : Int))) := Lib.hid (fun w' hb => by
          have hx := (hb.block _ (show w.heap.size < G by omega)).trans ((A2.out.block _ gl).trans HX1.out)
          have hy := (hb.block _ HG1.out).trans HK2.out
          exact ⟨cell_of hx 0, cell_of hx 1, cell_of hx 2, cell_of hx 3, cell_of hx 4, cell_of hy 1, cell_of hy 2⟩)
        have BEL : Hid (∀ w', Below G W2 w' → Below w.heap.size w w') := Lib.hid (fun w' hb => B1.out.trans ((A2.out.trans (hb.mono (by omega))).mono B1.out.size))
        obtain ⟨a3, n3, c3, rfl⟩ := hO3.shape
        have O3 := Lib.hid hO3; have B3 := Lib.hid hB3
        obtain ⟨xx0, xx1, xx2, -⟩ := BXX.out W3 hB3
        clear hb1 hO3 hB3 X1 X PC
        go_wp2_with (at_builtin; refine wpList_mStr rfl _ _ rfl rfl O3.out hBB [32, 111, 107] rfl (by simp; omega) ?_)
        intro v4 w4 h1 h2
        have O4 := Lib.hid h1
        have B4 := Lib.hid (B3.out.trans h2)
        obtain ⟨a4, n4, c4, rfl⟩ := h1.shape
        have hB4 : G ≤ w4.heap.size := Nat.le_trans hGW B4.out.size
        clear h1 h2 xx0 xx1 xx2 hcv x0 x1 y0 y1 y2 y3 O3 B3
        obtain ⟨xx0, xx1, xx2, -, -, -, -⟩ := BXX.out w4 B4.out
        go_wp2_with (first | (go_at_call 34; refine (PA.out _).mono ?_; rintro e w' ⟨rfl, rfl⟩) | (at_builtin; refine wpList_mStr rfl _ _ rfl rfl O4.out hB4 [32, 121, 101, 115] rfl (by simp; omega) ?_))
        intro v5 w5 h1 h2
        have O5 := Lib.hid h1
        have B5 := Lib.hid (B4.out.trans h2)
        obtain ⟨a5, n5, c5, rfl⟩ := h1.shape
        have hB5 : G ≤ w5.heap.size := Nat.le_trans hGW B5.out.size
        clear h1 h2 xx0 xx1 xx2 O4 B4 hB4
        obtain ⟨xx0, xx1, xx2, xx3, xx4, -, -⟩ := BXX.out w5 B5.out
        have O6 : Hid (OutM w5 G (.slice a5 n5 c5) (T 0)) := Lib.hid (by rw [T0.out, HD.out]; simpa using O5.out)
        have B6 := B5
        clear O5 B5
        generalize w5 = w6 at *
        go_wp2_with fail
        refine (PK.out _ (BEL.out _ B6.out)).mono ?_; rintro e w7 ⟨rfl, hw7⟩
        have B7 : Hid (Below G W2 w7) := Lib.hid (by
          rw [hw7]
          exact (B6.out.alloc (Nat.le_trans hGW B6.out.size) _).alloc (by have := B6.out.size; simp; omega) _)
        have O7 : Hid (OutM w7 G _ (T 0)) := Lib.hid (O6.out.below (by
          rw [hw7]
          exact (Below.alloc (Below.refl _ _) (Nat.le_refl _) _).alloc (by simp) _))
        clear hw7 O6 B6 xx0 xx1 xx2 xx3 xx4 PK PA
        have m5 : C * I = li := HCI.out.symm
        have m6 : C * M = ln := HCM.out.symm
        have M5 := Lib.hid m5; have M6 := Lib.hid m6
        clear m5 m6
        go_wp2_with fail
        go_loopw [6, 7, 9, 11, 52] (fun v6 _ _ _ v52 wr => LoRel W2 G C (I + M) T v6 v52 wr) (fun _ _ _ _ v52 _ => C - (intOf v52).toNat)
        case atStart => exact ⟨0, Nat.zero_le _, rfl, by rw [Nat.zero_mul]; exact O7.out, B7.out⟩
        case round =>
          obtain ⟨i, hi, rfl, ho, hb⟩ := hrel
          have O := Lib.hid ho; have B := Lib.hid hb
          have hBr := Nat.le_trans hGW hb.size
          obtain ⟨a6, n6, c6, rfl⟩ := ho.shape
          clear ho hb O7 B7
          obtain ⟨-, -, -, xx3, xx4, kk1, kk2⟩ := BXX.out wr B.out
          by_cases hlt : i < C
          · have p1 : (i : Int) * (I : Int) = ((i * I : Nat) : Int) := by simp
            have p2 : ((i : Int) + 1) * (I : Int) = (((i + 1) * I : Nat) : Int) := by simp
            have p3 : (i + 1) * I = i * I + I := Nat.succ_mul i I
            have p4 : (i + 1) * I ≤ C * I := Nat.mul_le_mul_right I hlt
            have r1 : (i : Int) * (M : Int) = ((i * M : Nat) : Int) := by simp
            have r2 : ((i : Int) + 1) * (M : Int) = (((i + 1) * M : Nat) : Int) := by simp
            have r3 : (i + 1) * M = i * M + M := Nat.succ_mul i M
            have r4 : (i + 1) * M ≤ C * M := Nat.mul_le_mul_right M hlt
            have s3 : (i + 1) * (I + M) = i * (I + M) + (I + M) := Nat.succ_mul i (I + M)
            have s4 : (i + 1) * (I + M) ≤ C * (I + M) := Nat.mul_le_mul_right (I + M) hlt
            have s5 : C * (I + M) = C * I + C * M := Nat.mul_add C I M
            rw [M5.out] at p4 s5
            rw [M6.out] at r4 s5
            have TA := Lib.hid (fun j hj => T1.out i j hj)
            have TB := Lib.hid (fun j hj => T2.out i j hj)
            have S3 := Lib.hid s3
            have TLN : Hid (∀ m, m ≤ I + M → (T (i * (I + M) + m)).length ≤ 3000000) := Lib.hid (fun m hm => by have := T4.out (i * (I + M) + m); omega)
            clear s3 s4 s5
            generalize i * (I + M) = b at *
            generalize hP0 : i * I = P0 at *
            generalize hP1 : (i + 1) * I = P1 at *
            generalize hQ0 : i * M = Q0 at *
            generalize hQ1 : (i + 1) * M = Q1 at *
            clear hP0 hP1 hQ0 hQ1
            subst p3 r3
            have hq0 : (0 : Int) ≤ (P0 : Int) := by omega
            -- the IDs of the entry
            have hsl := run_lh Tryd.underlying25 size28 (a := a) (len := li) (cap := c) (l := (P0 : Int)) (h := ((P0 + I : Nat) : Int)) (k := P0) (m := P0 + I) rfl rfl (by omega) (by omega)
            have SL := Lib.hid (fun w' hb => (LI.out w' hb).part (l := P0) (r := P0 + I) (m := c) (by omega) (by omega) (by omega) (Nat.le_refl _))
            rw [show P0 + I - P0 = I by omega] at hsl SL
            have hsl2 := run_lh Tryd.underlying23 size2 (a := a') (len := ln) (cap := c') (l := (Q0 : Int)) (h := ((Q0 + M : Nat) : Int)) (k := Q0) (m := Q0 + M) rfl rfl (by omega) (by omega)
            have SN := Lib.hid (fun w' hb => (LN.out w' hb).part (l := Q0) (r := Q0 + M) (m := c') (by omega) (by omega) (by omega) (Nat.le_refl _))
            rw [show Q0 + M - Q0 = M by omega] at hsl2 SN
            generalize part a P0 c 1 = pa at *
            generalize part a' Q0 c' 1 = pn at *
            generalize c - P0 = qa at *
            generalize c' - Q0 = qn at *
            push_cast at hsl hsl2 p2 r2
            go_wp2_with fail
            generalize wr = V1 at *
            go_loopw [6, 9, 68] (fun v6 _ v68 wr => LiRel W2 G I b T v6 v68 wr) (fun _ _ v68 _ => I - (intOf v68).toNat)
            case atStart => exact ⟨0, Nat.zero_le _, rfl, O.out, B.out⟩
            case round =>
              obtain ⟨j, hj, rfl, ho, hb⟩ := hrel
              have O1 := Lib.hid ho; have B1' := Lib.hid hb
              have hBr1 := Nat.le_trans hGW hb.size
              obtain ⟨a8, n8, c8, rfl⟩ := ho.shape
              clear ho hb xx3 xx4 kk1 kk2 O B
              obtain ⟨-, -, -, xx3, xx4, kk1, kk2⟩ := BXX.out _ B1'.out
              by_cases hjl : j < I
              · have hS := SL.out _ (BEL.out _ B1'.out)
                have hlen := hS.hlen
                obtain ⟨pb, off, rfl, _, _⟩ := hS.at_ (by intro h; rw [h, List.length_nil] at hlen; omega)
                have cx := hS.cellK (i := j) (by omega)
                rw [sub_get hjl, NG.out] at cx
                have hux : ids.getD (P0 + j) 0 < 18446744073709551616 := by
                  have := RII.out (ids.getD (P0 + j) 0)
                  by_cases hin : P0 + j < ids.length
                  · have := RII.out (ids.getD (P0 + j) 0) (by simp [hin]); omega
                  · rw [List.getD_eq_getElem?_getD, List.getElem?_eq_none (by omega)]; simp
                have ST := Lib.hid (TA.out j hjl)
                generalize ids.getD (P0 + j) 0 = u at *
                have hTl := TLN.out j (by omega)
                have A8 := Lib.hid (Below.alloc (Below.refl wr.heap.size wr) (Nat.le_refl _) (.cells #[.int .u8 32] 5))
                have O8 := Lib.hid (O1.out.below A8.out)
                have hB8 := Nat.le_trans hBr1 A8.out.size
                clear hS hlen xx3 xx4 kk1 kk2
                go_wp2_with (at_builtin; refine wpList_mBytes rfl (.tmp 72) (.tmp 73) rfl rfl O8.out hB8 [32] rfl rfl (fun j u' hj => by
                  match j, hj with
                  | 0, hj => simp [Lib.byteCells] at hj; subst hj; simp [Addr.add]) (by simp; omega) ?_)
                intro v9 w9 h1 h2
                have B9 := Lib.hid (B1'.out.trans ((A8.out.mono hBr1).trans h2))
                have P9 := Lib.hid (m_appu HE.out (BEL.out _ B9.out) (Nat.le_trans hB8 h2.size) h1 hux (by simp; omega))
                obtain ⟨a9, n9, c9, rfl⟩ := h1.shape
                clear h1 h2 A8 O8 hB8 cx
                go_wp2_with fail
                refine (P9.out).mono ?_; rintro e w10 ⟨v10, rfl, h1, h2⟩
                have O10 := Lib.hid h1
                have B10 := Lib.hid (B9.out.trans h2)
                clear h1 h2 P9
                go_wp2_with fail
                go_roundw
                case rel => exact ⟨j + 1, by omega, by go_num, by rw [← Nat.add_assoc, ST.out]; exact O10.out, B10.out⟩
                case measure => simp [intOf]; omega
              · have OI : Hid (OutM _ G (.slice a8 n8 c8) (T (b + I + 0))) := Lib.hid (by have := O1.out; rwa [show b + j = b + I + 0 by omega] at this)
                have BI := B1'
                clear O1 B1'
                go_wp2_with fail
                generalize wr = V2 at *
                go_loopw [6, 11, 91] (fun v6 _ v91 wr => LiRel W2 G M (b + I) T v6 v91 wr) (fun _ _ v91 _ => M - (intOf v91).toNat)
                case atStart => exact ⟨0, Nat.zero_le _, rfl, OI.out, BI.out⟩
                case round =>
                  obtain ⟨j2, hj2, rfl, ho, hb⟩ := hrel
                  have O1 := Lib.hid ho; have B1' := Lib.hid hb
                  have hBr2 := Nat.le_trans hGW hb.size
                  obtain ⟨a11, n11, c11, rfl⟩ := ho.shape
                  clear ho hb xx3 xx4 kk1 kk2 OI BI
                  obtain ⟨-, -, -, xx3, xx4, kk1, kk2⟩ := BXX.out _ B1'.out
                  by_cases hjm : j2 < M
                  · have hS := SN.out _ (BEL.out _ B1'.out)
                    have hlen := hS.hlen
                    obtain ⟨pb, off, rfl, _, _⟩ := hS.at_ (by intro h; rw [h, List.length_nil] at hlen; omega)
                    have cx := hS.cellK (i := j2) (by omega)
                    rw [sub_get hjm] at cx
                    have hux : -9223372036854775808 ≤ nums.getD (Q0 + j2) 0 ∧ nums.getD (Q0 + j2) 0 ≤ 9223372036854775807 := by
                      by_cases hin : Q0 + j2 < nums.length
                      · exact RN.out (nums.getD (Q0 + j2) 0) (by simp [hin])
                      · rw [List.getD_eq_getElem?_getD, List.getElem?_eq_none (by omega)]; simp
                    have ST := Lib.hid (TB.out j2 hjm)
                    generalize nums.getD (Q0 + j2) 0 = x at *
                    have hTl := TLN.out (I + j2) (by omega)
                    rw [← Nat.add_assoc] at hTl
                    have A8 := Lib.hid (Below.alloc (Below.refl wr.heap.size wr) (Nat.le_refl _) (.cells #[.int .u8 32] 5))
                    have O8 := Lib.hid (O1.out.below A8.out)
                    have hB8 := Nat.le_trans hBr2 A8.out.size
                    clear hS hlen xx3 xx4 kk1 kk2
                    go_wp2_with (at_builtin; refine wpList_mBytes rfl (.tmp 95) (.tmp 96) rfl rfl O8.out hB8 [32] rfl rfl (fun j u' hj => by
                      match j, hj with
                      | 0, hj => simp [Lib.byteCells] at hj; subst hj; simp [Addr.add]) (by simp; omega) ?_)
                    intro v9 w9 h1 h2
                    have B9 := Lib.hid (B1'.out.trans ((A8.out.mono hBr2).trans h2))
                    have P9 := Lib.hid (m_appi HE.out (BEL.out _ B9.out) (by have := B1.out.size; omega) (Nat.le_trans hB8 h2.size) h1 hux.1 hux.2 (by simp; omega))
                    obtain ⟨a9, n9, c9, rfl⟩ := h1.shape
                    clear h1 h2 A8 O8 hB8 cx
                    go_wp2_with fail
                    refine (P9.out).mono ?_; rintro e w10 ⟨v10, rfl, h1, h2⟩
                    have O10 := Lib.hid h1
                    have B10 := Lib.hid (B9.out.trans h2)
                    clear h1 h2 P9
                    go_wp2_with fail
                    go_roundw
                    case rel => exact ⟨j2 + 1, by omega, by go_num, by rw [← Nat.add_assoc, ST.out]; exact O10.out, B10.out⟩
                    case measure => simp [intOf]; omega
                  · have OF : Hid (OutM _ G (.slice a11 n11 c11) (T ((i + 1) * (I + M)))) := Lib.hid (by have := O1.out; rwa [show b + I + j2 = (i + 1) * (I + M) by rw [S3.out]; omega] at this)
                    have BF := B1'
                    clear O1 B1'
                    go_wp2_with fail
                    go_roundw
                    case rel => exact ⟨i + 1, by omega, by go_num, OF.out, BF.out⟩
                    case measure => simp [intOf]; omega
          · have hs := outM_string O.out (T5.out _)
            rw [show i * (I + M) = C * (I + M) by rw [show i = C by omega], ← HZ.out] at hs
            go_wp2_with fail
            go_ret2
            exact ⟨rfl, BEL.out _ B.out⟩
  refine cases3 (asksO (k : Int)) rfl (fun hy => ?_)
  cases hh : asksO (k : Int) with
  | true => rfl
  | false => exact absurd ⟨hy, hh⟩ hf4
end Go.Proofs.YtlmdkcpiimpniaaDoor

/- ReplyReturns: the walk. -/
import Derived.Test.YtlmdkcpiimpniaaDoorWf
namespace Go.Proofs.YtlmdkcpiimpniaaDoor
open Go.ChangeShapes Go.WideShapes Go.ChangeAt Go.RowKit
set_option linter.unusedVariables false
set_option linter.unusedSimpArgs false

theorem flat_le {g : Nat → List Nat} : ∀ (l : List Nat), (∀ x ∈ l, (g x).length ≤ 10) → (l.flatMap g).length ≤ 10 * l.length
  | [], _ => by simp
  | x :: l, h => by
    have := flat_le l (fun y hy => h y (List.mem_cons_of_mem _ hy))
    have := h x (by simp)
    simp only [List.flatMap_cons, List.length_append, List.length_cons]
    omega
theorem putL_le {l : List Nat} (h1 : l.length ≤ 65536) (h : ∀ x ∈ l, x < 18446744073709551616) : (putL l).length ≤ 10 + 10 * l.length := by
  unfold putL
  have := flat_le (g := vi) l (fun x hx => vi_len (h x hx))
  have := vi_len (show l.length < 18446744073709551616 by omega)
  rw [List.length_append]
  omega
theorem putR_le {r : Rp} (hk : chk r = 0) (hI : RpIn r) : (putR r).length ≤ 23 + 10 * r.ids.length + 10 * r.nums.length := by
  obtain ⟨_, h1, h2⟩ := chk_fits hk
  have g1 := putL_le h1 (fun x hx => by have := hI.ids x hx; omega)
  have g2 := putL_le (l := r.nums.map fold) (by simpa using h2) (fun x hx => by
    obtain ⟨y, hy, rfl⟩ := List.mem_map.1 hx
    exact fold_lt (hI.nums y hy))
  rw [List.length_map] at g2
  unfold putR
  simp only [List.length_cons, List.length_append]
  omega
theorem ns_app2 (x y : List Nat) : ns x ++ ns y = ns (x ++ y) := by simp [ns]
theorem put_bad {w : World} (hE : Env w) {r : Rp} {a a' : Option Addr} {c c' : Nat} (h : LsR w r a c a' c') (hI : RpIn r) (hl1 : r.ids.length ≤ 1000000) (hl2 : r.nums.length ≤ 1000000) {K : Int} (hk : chk r ≠ 0) (hK : chk r = K) :
    Calls Tryd.prog 12 #[.agg #[.int .i64 r.op, .int .i64 r.er, .bool r.yes, .slice a r.ids.length c, .slice a' r.nums.length c']] w fun e w' => ∃ p q, e = .returned (.tuple #[.slice p 0 q, .int .i64 K]) ∧ Below w.heap.size w w' := by
  refine (pput hE h hI hl1 hl2).mono ?_
  rintro e w' ⟨p, n, q, rfl, hs, hb⟩
  unfold putZ at hs
  rw [if_neg hk] at hs
  have := hs.u8
  subst this
  exact ⟨p, q, by rw [hK]; rfl, hb⟩
theorem line_bad {w : World} (hE : Env w) {r : Rp} {a a' : Option Addr} {c c' : Nat} (h : LsR w r a c a' c') (hI : RpIn r) (hl1 : r.ids.length ≤ 1000000) (hl2 : r.nums.length ≤ 1000000) {K : Int} (hk : chk r ≠ 0) (hK : chk r = K) :
    Calls Tryd.prog 13 #[.agg #[.int .i64 r.op, .int .i64 r.er, .bool r.yes, .slice a r.ids.length c, .slice a' r.nums.length c']] w fun e w' => e = .returned (.tuple #[.string ⟨#[]⟩, .int .i64 K]) ∧ Below w.heap.size w w' := by
  refine (pline hE h hI hl1 hl2).mono ?_
  rintro e w' ⟨he, hb⟩
  refine ⟨?_, hb⟩
  rw [he]
  unfold lineZ
  rw [if_neg hk, hK]
theorem lineS_len {r : Rp} (hk : chk r = 0) (hI : RpIn r) (f1 : r.ids.length ≤ 300) (f2 : r.nums.length ≤ 300) : (lineS r).length ≤ 100000 := by
  have hf := (chk_fits hk).1
  obtain ⟨o0, o1, e0, e1⟩ := op_er hf
  by_cases he : r.er = 0
  · rw [line_ok he, List.length_append]
    have h3 := hf.2.2
    rw [if_neg (by omega)] at h3
    obtain ⟨_, g1, g2⟩ := h3
    have h1 := head_len r.op.toNat r.yes
    have h2 := tail_len (k := r.op.toNat) hI.ids hI.nums (fun u hu => dec_len20 (by omega)) (fun x h0 h1 => itoa_len h0 h1) (count r.op.toNat r.yes r.ids.length r.nums.length * (ki r.op.toNat + kn r.op.toNat))
    have e : count r.op.toNat r.yes r.ids.length r.nums.length * (ki r.op.toNat + kn r.op.toNat) = r.ids.length + r.nums.length := by rw [Nat.mul_add, ← g1, ← g2]
    rw [e] at h2 ⊢
    omega
  · rw [line_err he, List.length_append, List.length_append]
    have h1 := (kw_len r.op.toNat).1
    have h2 := itoa_len (i := r.er) (by omega) (by omega)
    simp only [List.length_cons, List.length_nil]
    omega
set_option maxRecDepth 100000 in
set_option maxHeartbeats 8000000 in
theorem returns_walk (r : Rp) (a : Option Addr) (c : Nat) (a' : Option Addr) (c' : Nat) (ra : Option Addr) (n rc : Nat) (zs : List Int) (w : World) (hE : Env w) (hL : LsR w r a c a' c') (hI : RpIn r) (h : IsInts .u8 w ra n rc zs) :
    Calls Tryd.prog 10 #[.agg (rpV r a c a' c'), .slice ra n rc] w fun e w' => e = .returned (.bool true) ∧ Below w.heap.size w w' := by
  obtain ⟨b, hS, hb⟩ := ints_u8 h
  have hn := hS.u8
  obtain ⟨i0, hi, hz0, hz1, hz2⟩ := info_parts info5
  have A1 := Lib.hid (Below.alloc (Below.refl w.heap.size w) (Nat.le_refl _) (.cells (rpV r a c a' c') 27))
  have X := Lib.hid (block_new w (.cells (rpV r a c a' c') 27))
  have PF := Lib.hid (pfew (w.alloc (.cells (rpV r a c a' c') 27)) r a a' c c')
  have PW := Lib.hid (fun W (hb : Below w.heap.size w W) => pworks (hE.below hb))
  by_cases hf : fewB r = true
  · obtain ⟨f1, f2⟩ := few_iff.1 hf
    rw [hf] at PF
    by_cases hl : 300 < n
    · have e1 : decide ((300 : Int) < (n : Int)) = true := by simp; omega
      have e2 : decide (300 < n) = true := by simp; omega
      clear hE hL hI hf h hS hb hn f1 f2
      unfold rpV at *
      obtain ⟨op, er, yes, ids, nums⟩ := r
      simp only at *
      generalize ids.length = li at *
      generalize nums.length = ln at *
      go_enter Tryd.func10, Tryd.ntmps10
      go_wp2_with fail
      refine (PF.out).mono ?_; rintro e w1 ⟨rfl, hb1⟩
      have BB := Lib.hid (A1.out.trans (hb1.mono A1.out.size))
      clear hb1 PF
      go_wp2_with fail
      refine (PW.out _ BB.out).mono ?_; rintro e w2 ⟨rfl, hb2⟩
      have B2 := Lib.hid (BB.out.trans (hb2.mono BB.out.size))
      clear hb2 PW
      go_wp2_with fail
      go_ret
      exact ⟨rfl, B2.out⟩
    · have e1 : decide ((300 : Int) < (n : Int)) = false := by simp; omega
      have e2 : decide (300 < n) = false := by simp; omega
      by_cases hk : chk r = 0
      · have HE := Lib.hid hE
        have P12 := Lib.hid (fun W (hb : Below w.heap.size w W) => put_call (hE.below hb) (hL.keep hb) hI hk)
        have P13 := Lib.hid (fun W (hb : Below w.heap.size w W) => line_call (hE.below hb) (hL.keep hb) hI hk)
        have P14 := Lib.hid (fun W (hb : Below w.heap.size w W) => pcheck (hE.below hb) r a c a' c' (by omega) (by omega))
        rw [hk] at P14
        obtain ⟨L, hLen⟩ : ∃ L, L = (putR r).length := ⟨_, rfl⟩
        have hL9 := putR_le hk hI
        have P16 := Lib.hid (fun W x y (hb1 : Below w.heap.size w W) (hs : IsK .u8 W x (L + n) y (ns (putR r ++ b))) => (pget (hE.below hb1) hs (By.app (put_byte hk) hb) (by omega)).mono (fun e w' h => ges_some (get_put hk hI b) h))
        rw [← hLen] at P16
        have hl5 := lineS_len hk hI f1 f2
        have P15 := Lib.hid (fun W (hb : Below w.heap.size w W) => (pparse (hE.below hb) (s := lineS r) hl5).mono (fun e w' h => pas_some (parseR_line hk hI) h))
        have P18 : Hid (∀ W b d b' d', Below w.heap.size w W → LsR W r b d b' d' → Calls Tryd.prog 18 #[.agg (rpV r b d b' d'), .agg (rpV r a c a' c')] W fun e w' => e = .returned (.bool true) ∧ Below W.heap.size W w') := Lib.hid (fun W b d b' d' hb hl => by
          have := psame hl (hL.keep hb)
          rwa [sameB_refl] at this)
        have KEEP : Hid (∀ W b d b' d', LsR W r b d b' d' → ∀ W', Below W.heap.size W W' → LsR W' r b d b' d') := Lib.hid (fun W b d b' d' h W' hb => h.keep hb)
        have HPL : Hid (∀ W p k q, IsK .u8 W p k q (ns (putR r)) → k = L) := Lib.hid (fun W p k q h => by rw [hLen]; exact h.u8)
        have HSR := Lib.hid hS
        have HLN : Hid ((ns (putR r)).length = L) := Lib.hid (by rw [ns_len, hLen])
        have HBN : Hid ((ns b).length = n) := Lib.hid (by rw [ns_len, hn])
        have hL10 : L ≤ 10000 := by omega
        clear hE hL hI hf f1 f2 h hS hb hn hk hLen hL9 hl5
        generalize putR r = PZ at *
        generalize lineS r = SL at *
        unfold rpV at *
        obtain ⟨op, er, yes, ids, nums⟩ := r
        simp only at *
        generalize hli : ids.length = li at *
        generalize hln : nums.length = ln at *
        clear hli hln
        go_enter Tryd.func10, Tryd.ntmps10
        go_wp2_with fail
        refine (PF.out).mono ?_; rintro e w1 ⟨rfl, hb1⟩
        have B1 := Lib.hid (A1.out.trans (hb1.mono A1.out.size))
        have X1 := Lib.hid ((hb1.block _ (lt_of_block X.out)).trans X.out)
        obtain ⟨x0, x1, x2, x3, x4⟩ := at5_of X1.out
        clear hb1 PF X
        go_wp2_with fail
        refine (P12.out _ B1.out).mono ?_; rintro e w2 ⟨pp, pn, pq, rfl, hk2, hb2⟩
        obtain rfl := (HPL.out _ _ _ _ hk2).symm
        have B2 := Lib.hid (B1.out.trans (hb2.mono B1.out.size))
        have X2 := Lib.hid ((hb2.block _ (lt_of_block X1.out)).trans X1.out)
        have K2 := Lib.hid hk2
        clear hb2 hk2 P12 X1 x0 x1 x2 x3 x4
        obtain ⟨x0, x1, x2, x3, x4⟩ := at5_of X2.out
        go_wp2_with fail
        refine (P13.out _ B2.out).mono ?_; rintro e w3 ⟨rfl, hb3⟩
        have B3 := Lib.hid (B2.out.trans (hb3.mono B2.out.size))
        have X3 := Lib.hid ((hb3.block _ (lt_of_block X2.out)).trans X2.out)
        have K3 := Lib.hid (K2.out.below hb3)
        clear hb3 P13 X2 K2 x0 x1 x2 x3 x4
        obtain ⟨x0, x1, x2, x3, x4⟩ := at5_of X3.out
        go_wp2_with fail
        refine (P14.out _ B3.out).mono ?_; rintro e w4 ⟨rfl, hb4⟩
        have B4 := Lib.hid (B3.out.trans (hb4.mono B3.out.size))
        have X4 := Lib.hid ((hb4.block _ (lt_of_block X3.out)).trans X3.out)
        have K4 := Lib.hid (K3.out.below hb4)
        clear hb4 P14 X3 K3 x0 x1 x2 x3 x4
        have C4 := Lib.hid (Below.alloc (Below.refl w4.heap.size w4) (Nat.le_refl _) (.cells #[] 5))
        have E4 := Lib.hid (own_emptyK .u8 w4 5 (Nat.le_refl w4.heap.size))
        have K5 := Lib.hid (K4.out.below C4.out)
        go_wp2_with (at_builtin; refine wpList_appS rfl (.tmp 59) (.tmp 60) 31 rfl 5 i0 .u8 1 Tryd.underlying31 hi hz0 hz1 hz2 (by decide) rfl E4.out C4.out.size K5.out rfl (by simp; omega) ?_)
        intro v5 w5 h1 h2 h3 h4
        have O5 : Hid (OutR 1 (encK .u8) 5 w5 w4.heap.size v5 (ns PZ)) := Lib.hid (by simpa using h1)
        have C5 := Lib.hid (C4.out.trans h3)
        have S5 := Lib.hid (HSR.out.below (B4.out.trans (C5.out.mono B4.out.size)))
        clear h1 h2 h3 h4 E4 K5
        go_wp2_with (at_builtin; refine wpList_appS rfl (.tmp 61) (.tmp 62) 31 rfl 5 i0 .u8 1 Tryd.underlying31 hi hz0 hz1 hz2 (by decide) rfl O5.out C5.out.size S5.out rfl (by rw [HLN.out]; omega) ?_)
        intro v6 w6 h1 h2 h3 h4
        have hb6 : Below w4.heap.size w4 w6 := C5.out.trans h3
        obtain ⟨a6, c6, rfl, hS6⟩ := h1.sl
        rw [List.length_append, HLN.out, HBN.out] at hS6 ⊢
        rw [ns_app2] at hS6
        have B6 := Lib.hid (B4.out.trans (hb6.mono B4.out.size))
        have X6 := Lib.hid ((hb6.block _ (lt_of_block X4.out)).trans X4.out)
        have K6 := Lib.hid (K4.out.below hb6)
        have Q16 := Lib.hid (P16.out _ _ _ B6.out hS6)
        clear h1 h2 h3 h4 hb6 hS6 P16 O5 S5 C4 C5 X4 K4
        generalize hl6 : L + n = l6 at *
        clear hl6
        go_wp2_with fail
        refine (Q16.out).mono ?_; rintro e w7 ⟨ya, yc, yb, yd, rfl, hl7, hb7⟩
        have B7 := Lib.hid (B6.out.trans (hb7.mono B6.out.size))
        have X7 := Lib.hid ((hb7.block _ (lt_of_block X6.out)).trans X6.out)
        have D7 := Lib.hid (Below.alloc (Below.refl w7.heap.size w7) (Nat.le_refl _) (.cells #[.int .i64 op, .int .i64 er, .bool yes, .slice ya li yc, .slice yb ln yd] 27))
        have BD := Lib.hid (B7.out.trans (D7.out.mono B7.out.size))
        have XD := Lib.hid (block_old X7.out (.cells #[.int .i64 op, .int .i64 er, .bool yes, .slice ya li yc, .slice yb ln yd] 27))
        have YD := Lib.hid (block_new w7 (.cells #[.int .i64 op, .int .i64 er, .bool yes, .slice ya li yc, .slice yb ln yd] 27))
        have LD := Lib.hid (KEEP.out _ _ _ _ _ hl7 _ D7.out)
        have Q15 := Lib.hid (P15.out _ BD.out)
        clear hb7 hl7 Q16 K6 P15 X6 X7
        go_wp2_with fail
        refine (Q15.out).mono ?_; rintro e w8 ⟨za, zc, zb, zd, rfl, hl8, hb8⟩
        have B8 := Lib.hid (BD.out.trans (hb8.mono BD.out.size))
        have X8 := Lib.hid ((hb8.block _ (lt_of_block XD.out)).trans XD.out)
        have Y8 := Lib.hid ((hb8.block _ (lt_of_block YD.out)).trans YD.out)
        have L8 := Lib.hid (KEEP.out _ _ _ _ _ LD.out _ hb8)
        have D8 := Lib.hid (Below.alloc (Below.refl w8.heap.size w8) (Nat.le_refl _) (.cells #[.int .i64 op, .int .i64 er, .bool yes, .slice za li zc, .slice zb ln zd] 27))
        have BF := Lib.hid (B8.out.trans (D8.out.mono B8.out.size))
        have XF := Lib.hid (block_old X8.out (.cells #[.int .i64 op, .int .i64 er, .bool yes, .slice za li zc, .slice zb ln zd] 27))
        have ZF := Lib.hid (block_new w8 (.cells #[.int .i64 op, .int .i64 er, .bool yes, .slice za li zc, .slice zb ln zd] 27))
        have LF := Lib.hid (KEEP.out _ _ _ _ _ L8.out _ D8.out)
        have MF := Lib.hid (KEEP.out _ _ _ _ _ hl8 _ D8.out)
        have Q18 := Lib.hid (P18.out _ _ _ _ _ BF.out LF.out)
        obtain ⟨x0, x1, x2, x3, x4⟩ := at5_of X8.out
        obtain ⟨y0, y1, y2, y3, y4⟩ := at5_of Y8.out
        have lx := lt_of_block X8.out
        have ly := lt_of_block Y8.out
        clear hb8 hl8 Q15 X8 Y8 L8 LD
        go_wp2_with fail
        refine (Q18.out).mono ?_; rintro e w9 ⟨rfl, hb9⟩
        have B9 := Lib.hid (BF.out.trans (hb9.mono BF.out.size))
        have X9 := Lib.hid ((hb9.block _ (lt_of_block XF.out)).trans XF.out)
        have Z9 := Lib.hid ((hb9.block _ (lt_of_block ZF.out)).trans ZF.out)
        have M9 := Lib.hid (KEEP.out _ _ _ _ _ MF.out _ hb9)
        have Q19 := Lib.hid (P18.out _ _ _ _ _ B9.out M9.out)
        clear hb9 Q18 XF ZF MF x0 x1 x2 x3 x4 y0 y1 y2 y3 y4
        obtain ⟨x0, x1, x2, x3, x4⟩ := at5_of X9.out
        obtain ⟨y0, y1, y2, y3, y4⟩ := at5_of Z9.out
        go_wp2_with fail
        refine (Q19.out).mono ?_; rintro e w10 ⟨rfl, hb10⟩
        have B10 := Lib.hid (B9.out.trans (hb10.mono B9.out.size))
        clear hb10 Q19 x0 x1 x2 x3 x4 y0 y1 y2 y3 y4
        go_wp2_with fail
        refine (PW.out _ B10.out).mono ?_; rintro e w11 ⟨rfl, hb11⟩
        have B11 := Lib.hid (B10.out.trans (hb11.mono B10.out.size))
        clear hb11 PW
        go_wp2_with fail
        go_ret
        exact ⟨rfl, B11.out⟩
      · obtain ⟨K, hKK⟩ : ∃ K, chk r = K := ⟨_, rfl⟩
        have P12 := Lib.hid (fun W (hb : Below w.heap.size w W) => put_bad (K := K) (hE.below hb) (hL.keep hb) hI (by omega) (by omega) hk hKK)
        have P13 := Lib.hid (fun W (hb : Below w.heap.size w W) => line_bad (K := K) (hE.below hb) (hL.keep hb) hI (by omega) (by omega) hk hKK)
        have P14 := Lib.hid (fun W (hb : Below w.heap.size w W) => pcheck (hE.below hb) r a c a' c' (by omega) (by omega))
        rw [hKK] at P14
        have k0 : (K != 0) = true := by rw [← hKK]; simpa using hk
        have k1 : (K == 0) = false := by rw [← hKK]; simpa using hk
        clear hE hL hI hf f1 f2 h hS hb hn hk hKK
        unfold rpV at *
        obtain ⟨op, er, yes, ids, nums⟩ := r
        simp only at *
        generalize hli : ids.length = li at *
        generalize hln : nums.length = ln at *
        clear hli hln
        go_enter Tryd.func10, Tryd.ntmps10
        go_wp2_with fail
        refine (PF.out).mono ?_; rintro e w1 ⟨rfl, hb1⟩
        have B1 := Lib.hid (A1.out.trans (hb1.mono A1.out.size))
        have X1 := Lib.hid ((hb1.block _ (lt_of_block X.out)).trans X.out)
        obtain ⟨x0, x1, x2, x3, x4⟩ := at5_of X1.out
        clear hb1 PF X
        go_wp2_with fail
        refine (P12.out _ B1.out).mono ?_; rintro e w2 ⟨pp, pq, rfl, hb2⟩
        have B2 := Lib.hid (B1.out.trans (hb2.mono B1.out.size))
        have X2 := Lib.hid ((hb2.block _ (lt_of_block X1.out)).trans X1.out)
        clear hb2 P12 X1 x0 x1 x2 x3 x4
        obtain ⟨x0, x1, x2, x3, x4⟩ := at5_of X2.out
        go_wp2_with fail
        refine (P13.out _ B2.out).mono ?_; rintro e w3 ⟨rfl, hb3⟩
        have B3 := Lib.hid (B2.out.trans (hb3.mono B2.out.size))
        have X3 := Lib.hid ((hb3.block _ (lt_of_block X2.out)).trans X2.out)
        clear hb3 P13 X2 x0 x1 x2 x3 x4
        obtain ⟨x0, x1, x2, x3, x4⟩ := at5_of X3.out
        go_wp2_with fail
        refine (P14.out _ B3.out).mono ?_; rintro e w4 ⟨rfl, hb4⟩
        have B4 := Lib.hid (B3.out.trans (hb4.mono B3.out.size))
        clear hb4 P14 X3 x0 x1 x2 x3 x4
        go_wp2_with fail
        refine (PW.out _ B4.out).mono ?_; rintro e w5 ⟨rfl, hb5⟩
        have B5 := Lib.hid (B4.out.trans (hb5.mono B4.out.size))
        clear hb5 PW
        go_wp2_with fail
        go_ret
        exact ⟨rfl, B5.out⟩
  · rw [Bool.eq_false_iff.2 hf] at PF
    clear hE hL hI hf h hS hb hn
    unfold rpV at *
    obtain ⟨op, er, yes, ids, nums⟩ := r
    simp only at *
    generalize ids.length = li at *
    generalize nums.length = ln at *
    go_enter Tryd.func10, Tryd.ntmps10
    go_wp2_with fail
    refine (PF.out).mono ?_; rintro e w1 ⟨rfl, hb1⟩
    have BB := Lib.hid (A1.out.trans (hb1.mono A1.out.size))
    clear hb1 PF
    go_wp2_with fail
    refine (PW.out _ BB.out).mono ?_; rintro e w2 ⟨rfl, hb2⟩
    have B2 := Lib.hid (BB.out.trans (hb2.mono BB.out.size))
    clear hb2 PW
    go_wp2_with fail
    go_ret
    exact ⟨rfl, B2.out⟩
end Go.Proofs.YtlmdkcpiimpniaaDoor

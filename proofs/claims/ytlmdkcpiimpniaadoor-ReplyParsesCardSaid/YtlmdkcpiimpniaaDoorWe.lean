/- ReplyPuts: the walk. -/
import Derived.Test.YtlmdkcpiimpniaaDoorWc
namespace Go.Proofs.YtlmdkcpiimpniaaDoor
open Go.ChangeShapes Go.WideShapes Go.ChangeAt Go.RowKit
set_option linter.unusedVariables false
set_option linter.unusedSimpArgs false

theorem pline {w : World} (hE : Env w) {r : Rp} {a a' : Option Addr} {c c' : Nat} (h : LsR w r a c a' c') (hI : RpIn r) (hl1 : r.ids.length ≤ 1000000) (hl2 : r.nums.length ≤ 1000000) :
    Calls Tryd.prog 13 #[.agg (rpV r a c a' c')] w (LnS w r) := by
  by_cases hk : chk r = 0
  · by_cases he : r.er = 0
    · exact pline_ok hE h hI hk he
    · exact pline_err hE hk he hl1 hl2
  · exact pline_bad hE hk hl1 hl2
theorem rline {w : World} {r : Rp} {a a' : Option Addr} {c c' : Nat} (h : LsR w r a c a' c') (hI : RpIn r) (hl1 : r.ids.length ≤ 1000000) (hl2 : r.nums.length ≤ 1000000) :
    Calls Tryd.prog 24 #[.agg (rpV r a c a' c')] w (LnS w r) := by
  by_cases hk : chk r = 0
  · by_cases he : r.er = 0
    · exact rline_ok h hI hk he
    · exact rline_err hk he hl1 hl2
  · exact rline_bad hk hl1 hl2
theorem putZ_byte (r : Rp) : ∀ x ∈ putZ r, x < 256 := fun x hx => by
  unfold putZ at hx
  split at hx
  · rename_i hk; exact put_byte hk x hx
  · cases hx
set_option maxRecDepth 100000 in
set_option maxHeartbeats 8000000 in
theorem puts_walk (r : Rp) (a : Option Addr) (c : Nat) (a' : Option Addr) (c' : Nat) (w : World) (hE : Env w) (hL : LsR w r a c a' c') (hI : RpIn r) :
    Calls Tryd.prog 5 #[.agg (rpV r a c a' c')] w fun e w' => e = .returned (.bool true) ∧ Below w.heap.size w w' := by
  have A1 := Lib.hid (Below.alloc (Below.refl w.heap.size w) (Nat.le_refl _) (.cells (rpV r a c a' c') 27))
  have X := Lib.hid (block_new w (.cells (rpV r a c a' c') 27))
  have PF := Lib.hid (pfew (w.alloc (.cells (rpV r a c a' c') 27)) r a a' c c')
  have PW := Lib.hid (fun W (hb : Below w.heap.size w W) => pworks (hE.below hb))
  by_cases hf : fewB r = true
  · obtain ⟨f1, f2⟩ := few_iff.1 hf
    rw [hf] at PF
    have PC := Lib.hid (fun W (hb : Below w.heap.size w W) => pcopied (hL.keep hb) (by omega) (by omega))
    have P1 := Lib.hid (fun W (hb : Below w.heap.size w W) b d b' d' (hl : LsR W r b d b' d') => pput (hE.below hb) hl hI (by omega) (by omega))
    have P2 := Lib.hid (fun W (hb : Below w.heap.size w W) => rput (hL.keep hb) hI (by omega) (by omega))
    have P3 := Lib.hid (fun W (hb : Below w.heap.size w W) b d b' d' (hl : LsR W r b d b' d') => pline (hE.below hb) hl hI (by omega) (by omega))
    have P4 := Lib.hid (fun W (hb : Below w.heap.size w W) => rline (hL.keep hb) hI (by omega) (by omega))
    have P5 : Hid (∀ W b d b' d', Below w.heap.size w W → LsR W r b d b' d' → Calls Tryd.prog 25 #[.agg (rpV r b d b' d'), .agg (rpV r a c a' c')] W fun e w' => e = .returned (.bool true) ∧ Below W.heap.size W w') := Lib.hid (fun W b d b' d' hb hl => by
      have := rsame hl (hL.keep hb)
      rwa [sameB_refl] at this)
    have CV : Hid (∀ W p n q, IsK .u8 W p n q (ns (putZ r)) → (convert 31 9 (.slice p n q)).run Tryd.prog W = .ok (.string ⟨(strB (putZ r)).toArray⟩) W) := Lib.hid (fun W p n q h => conv_sl h (putZ_byte r))
    have KEEP : Hid (∀ W b d b' d', LsR W r b d b' d' → ∀ W', Below W.heap.size W W' → LsR W' r b d b' d') := Lib.hid (fun W b d b' d' h W' hb => h.keep hb)
    clear hE hL hI hf f1 f2
    unfold LnS at P3 P4
    unfold PutS at P1 P2
    generalize chk r = K at *
    generalize lineZ r = Z at *
    generalize putZ r = PZ at *
    generalize strB PZ = SB at *
    unfold CpR at PC
    unfold rpV at *
    obtain ⟨op, er, yes, ids, nums⟩ := r
    simp only at *
    generalize hli : ids.length = li at *
    generalize hln : nums.length = ln at *
    clear hli hln
    go_enter Tryd.func5, Tryd.ntmps5
    go_wp2_with fail
    refine (PF.out).mono ?_; rintro e w1 ⟨rfl, hb1⟩
    have B1 := Lib.hid (A1.out.trans (hb1.mono A1.out.size))
    have X1 := Lib.hid ((hb1.block _ (lt_of_block X.out)).trans X.out)
    obtain ⟨x0, x1, x2, x3, x4⟩ := at5_of X1.out
    clear hb1 PF X
    go_wp2_with fail
    refine (PC.out _ B1.out).mono ?_; rintro e w3 ⟨b2, d2, b3, d3, rfl, hl2, hb3⟩
    have B3 := Lib.hid (B1.out.trans (hb3.mono B1.out.size))
    have A3 := Lib.hid (Below.alloc (Below.refl w3.heap.size w3) (Nat.le_refl _) (.cells #[.int .i64 op, .int .i64 er, .bool yes, .slice b2 li d2, .slice b3 ln d3] 27))
    have B4 := Lib.hid (B3.out.trans (A3.out.mono B3.out.size))
    have X4 := Lib.hid (block_old ((hb3.block _ (lt_of_block X1.out)).trans X1.out) (.cells #[.int .i64 op, .int .i64 er, .bool yes, .slice b2 li d2, .slice b3 ln d3] 27))
    have Y4 := Lib.hid (block_new w3 (.cells #[.int .i64 op, .int .i64 er, .bool yes, .slice b2 li d2, .slice b3 ln d3] 27))
    have L4 := Lib.hid (KEEP.out _ _ _ _ _ hl2 _ A3.out)
    have Q1 := Lib.hid (P1.out _ B4.out _ _ _ _ L4.out)
    clear hb3 hl2 PC P1 x0 x1 x2 x3 x4
    go_wp2_with fail
    refine (Q1.out).mono ?_; rintro e w5 ⟨p5, n5, c5, rfl, hk5, hb5⟩
    have B5 := Lib.hid (B4.out.trans (hb5.mono B4.out.size))
    have X5 := Lib.hid ((hb5.block _ (lt_of_block X4.out)).trans X4.out)
    have Y5 := Lib.hid ((hb5.block _ (lt_of_block Y4.out)).trans Y4.out)
    have L5 := Lib.hid (KEEP.out _ _ _ _ _ L4.out _ hb5)
    have K5 := Lib.hid hk5
    obtain ⟨x0, x1, x2, x3, x4⟩ := at5_of X5.out
    clear hb5 hk5 Q1 X4 Y4 L4
    go_wp2_with fail
    refine (P2.out _ B5.out).mono ?_; rintro e w6 ⟨p6, n6, c6, rfl, hk6, hb6⟩
    have B6 := Lib.hid (B5.out.trans (hb6.mono B5.out.size))
    have X6 := Lib.hid ((hb6.block _ (lt_of_block X5.out)).trans X5.out)
    have Y6 := Lib.hid ((hb6.block _ (lt_of_block Y5.out)).trans Y5.out)
    have L6 := Lib.hid (KEEP.out _ _ _ _ _ L5.out _ hb6)
    have K6 := Lib.hid (K5.out.below hb6)
    have J6 := Lib.hid hk6
    have Q3 := Lib.hid (P3.out _ B6.out _ _ _ _ L6.out)
    clear hb6 hk6 P2 P3 X5 Y5 L5 K5 x0 x1 x2 x3 x4
    obtain ⟨x0, x1, x2, x3, x4⟩ := at5_of Y6.out
    go_wp2_with fail
    refine (Q3.out).mono ?_; rintro e w7 ⟨rfl, hb7⟩
    have B7 := Lib.hid (B6.out.trans (hb7.mono B6.out.size))
    have X7 := Lib.hid ((hb7.block _ (lt_of_block X6.out)).trans X6.out)
    have Y7 := Lib.hid ((hb7.block _ (lt_of_block Y6.out)).trans Y6.out)
    have L7 := Lib.hid (KEEP.out _ _ _ _ _ L6.out _ hb7)
    have K7 := Lib.hid (K6.out.below hb7)
    have J7 := Lib.hid (J6.out.below hb7)
    clear hb7 Q3 X6 Y6 L6 K6 J6 x0 x1 x2 x3 x4
    obtain ⟨x0, x1, x2, x3, x4⟩ := at5_of X7.out
    go_wp2_with fail
    refine (P4.out _ B7.out).mono ?_; rintro e w8 ⟨rfl, hb8⟩
    have B8 := Lib.hid (B7.out.trans (hb8.mono B7.out.size))
    have X8 := Lib.hid ((hb8.block _ (lt_of_block X7.out)).trans X7.out)
    have Y8 := Lib.hid ((hb8.block _ (lt_of_block Y7.out)).trans Y7.out)
    have L8 := Lib.hid (KEEP.out _ _ _ _ _ L7.out _ hb8)
    have cv1 := CV.out _ _ _ _ (K7.out.below hb8)
    have cv2 := CV.out _ _ _ _ (J7.out.below hb8)
    have Q5 := Lib.hid (P5.out _ _ _ _ _ B8.out L8.out)
    clear hb8 P4 P5 X7 Y7 L7 K7 J7 x0 x1 x2 x3 x4 CV KEEP
    obtain ⟨x0, x1, x2, x3, x4⟩ := at5_of X8.out
    obtain ⟨y0, y1, y2, y3, y4⟩ := at5_of Y8.out
    go_wp2_with fail
    refine (Q5.out).mono ?_; rintro e w9 ⟨rfl, hb9⟩
    have B9 := Lib.hid (B8.out.trans (hb9.mono B8.out.size))
    clear hb9 Q5 x0 x1 x2 x3 x4 y0 y1 y2 y3 y4 cv1 cv2
    go_wp2_with fail
    refine (PW.out _ B9.out).mono ?_; rintro e w10 ⟨rfl, hb10⟩
    have B10 := Lib.hid (B9.out.trans (hb10.mono B9.out.size))
    clear hb10
    go_wp2_with fail
    go_ret
    exact ⟨rfl, B10.out⟩
  · rw [Bool.eq_false_iff.2 hf] at PF
    clear hE hL hI hf
    unfold rpV at *
    obtain ⟨op, er, yes, ids, nums⟩ := r
    simp only at *
    generalize ids.length = li at *
    generalize nums.length = ln at *
    go_enter Tryd.func5, Tryd.ntmps5
    go_wp2_with fail
    refine (PF.out).mono ?_; rintro e w1 ⟨rfl, hb1⟩
    have BB := Lib.hid (A1.out.trans (hb1.mono A1.out.size))
    clear hb1 PF
    go_wp2_with fail
    refine (PW.out _ BB.out).mono ?_; rintro e w2 ⟨rfl, hb2⟩
    have B2 := Lib.hid (BB.out.trans (hb2.mono BB.out.size))
    clear hb2 PW
    go_wp2_with fail
    go_ret
    exact ⟨rfl, B2.out⟩
end Go.Proofs.YtlmdkcpiimpniaaDoor

/- Parse of the document, all of it; ReplyParses: the walk. -/
import Derived.Test.YtlmdkcpiimpniaaDoorXj
import Derived.Test.YtlmdkcpiimpniaaDoorXk
import Derived.Test.YtlmdkcpiimpniaaDoorXl
import Derived.Test.YtlmdkcpiimpniaaDoorXm
namespace Go.Proofs.YtlmdkcpiimpniaaDoor
open Go.ChangeShapes Go.WideShapes Go.ChangeAt Go.RowKit
set_option linter.unusedVariables false
set_option linter.unusedSimpArgs false

theorem str_cases2 (x : ByteArray) : ∃ s : Str, x = ⟨s.toArray⟩ := ⟨x.data.toList, ba_of x⟩
theorem in_none {k er : Int} {y : Bool} : RpIn ⟨k, er, y, [], []⟩ := ⟨fun x hx => (by cases hx), fun x hx => (by cases hx)⟩
theorem lsG_short (I M n : Nat) (s : Str) (hs : s.length ≤ 100000) : (lsG I M 0 ((sp s).drop n) ([], [])).1.length ≤ 1000000 ∧ (lsG I M 0 ((sp s).drop n) ([], [])).2.length ≤ 1000000 := by
  have h := lsG_len I M ((sp s).drop n) 0 ([], [])
  have h2 := (sp_len s).2
  rw [List.length_drop] at h
  simp only [List.length_nil] at h
  omega
theorem rparse {w : World} {s : Str} (hs : s.length ≤ 100000) : Calls Tryd.prog 26 #[.string ⟨s.toArray⟩] w (PaS w (docParse s)) := by
  cases hf : findW ((sp s).getD 0 []) with
  | none => exact rparse_none hs (opv_miss hf) (doc_none (loose_miss hf))
  | some k =>
    have hO := opv_some hf
    have hk := (findW_some hf).1
    by_cases hn : (sp s).length < 2
    · exact rparse_short hs hO hn (doc_none (loose_short hn))
    · have hn2 : 2 ≤ (sp s).length := by omega
      by_cases h1 : (sp s).getD 1 [] = errW
      · by_cases h3 : (sp s).length = 3
        · exact rparse_a hs hk hO (Nat.zero_le _) (Nat.zero_le _) rfl rfl h3 h1 rfl in_none (doc_err hf h1 h3)
        · exact rparse_b hs hk hO (Nat.zero_le _) (Nat.zero_le _) rfl rfl hn2 h3 h1 in_none (doc_err2 hf h1 hn2 h3)
      · by_cases h2 : (sp s).getD 1 [] = okW
        · cases ha : asksK k with
          | true =>
            by_cases hl : (sp s).length = 2
            · exact rparse_d2 hs hk hO (Nat.zero_le _) (Nat.zero_le _) rfl rfl hl h2 ha in_none (doc_ask2 hf h2 hl ha)
            · have hl3 : 3 ≤ (sp s).length := by omega
              by_cases h0 : ki k + en k = 0
              · have hk3 := (kin_zero hk).1 h0
                exact rparse_d3 hs hk hO (Nat.zero_le _) (Nat.zero_le _) rfl rfl hl3 h2 rfl ha (by omega) (by omega) in_none (doc_yes3 hf h2 hl3 ha hk3)
              · obtain ⟨q1, q2⟩ := lsG_short (ki k) (en k) 3 s hs
                exact rparse_e hs hk hO q1 q2 hl3 h2 rfl ha (by omega) rfl (in_lsG _ _ _) (doc_yes hf h2 hl3 ha h0)
          | false =>
            have h0 : ki k + en k ≠ 0 := fun e => by
              have := (kin_zero hk).1 e
              subst this
              revert ha; decide
            obtain ⟨q1, q2⟩ := lsG_short (ki k) (en k) 2 s hs
            exact rparse_f hs hk hO q1 q2 hn2 h2 ha (by omega) rfl (in_lsG _ _ _) (doc_ok hf h2 hn2 ha h0)
        · exact rparse_c hs hk hO (Nat.zero_le _) (Nat.zero_le _) rfl rfl hn2 h1 h2 in_none (doc_oth hf h1 h2 hn2)
set_option maxRecDepth 100000 in
set_option maxHeartbeats 8000000 in
theorem parses_walk (s0 : ByteArray) (w : World) (hE : Env w) : Calls Tryd.prog 6 #[.string s0] w fun e w' => e = .returned (.bool true) ∧ Below w.heap.size w w' := by
  obtain ⟨s, rfl⟩ := str_cases2 s0
  have PW := Lib.hid (fun W (hb : Below w.heap.size w W) => pworks (hE.below hb))
  by_cases hl : 1000 < s.length
  · have e1 : decide ((1000 : Int) < (s.length : Int)) = true := by simp; omega
    have e2 : decide (1000 < s.length) = true := by simp; omega
    clear hE
    go_enter Tryd.func6, Tryd.ntmps6
    go_wp2_with fail
    refine (PW.out _ (Below.refl _ _)).mono ?_; rintro e w1 ⟨rfl, hb⟩
    have B := Lib.hid hb
    clear hb
    go_wp2_with fail
    go_ret
    exact ⟨rfl, B.out⟩
  · have e1 : decide ((1000 : Int) < (s.length : Int)) = false := by simp; omega
    have e2 : decide (1000 < s.length) = false := by simp; omega
    have P15 := Lib.hid (pparse hE (s := s) (by omega))
    have P26 := Lib.hid (fun W => rparse (w := W) (s := s) (by omega))
    rw [parse_doc] at P15
    unfold PaS rpV at P15 P26
    have PS : Hid (∀ W (r : Rp) a c a' c' b d b' d', LsR W r a c a' c' → LsR W r b d b' d' → Calls Tryd.prog 25 #[.agg #[.int .i64 r.op, .int .i64 r.er, .bool r.yes, .slice a r.ids.length c, .slice a' r.nums.length c'], .agg #[.int .i64 r.op, .int .i64 r.er, .bool r.yes, .slice b r.ids.length d, .slice b' r.nums.length d']] W fun e w' => e = .returned (.bool true) ∧ Below W.heap.size W w') := Lib.hid (fun W r a c a' c' b d b' d' h1 h2 => by
      have := rsame h1 h2
      rwa [sameB_refl] at this)
    generalize docParse s = R at *
    generalize (if R.isSome = true then (0 : Int) else 15) = er at *
    generalize R.getD r0 = q at *
    clear hE R
    have KP : Hid (∀ W W' a c a' c', LsR W q a c a' c' → Below W.heap.size W W' → LsR W' q a c a' c') := Lib.hid (fun W W' a c a' c' h hb => h.keep hb)
    obtain ⟨op, e1r, yes, ids, nums⟩ := q
    have PS := Lib.hid (PS.out · ⟨op, e1r, yes, ids, nums⟩)
    simp only at *
    generalize ids.length = li at *
    generalize nums.length = ln at *
    go_enter Tryd.func6, Tryd.ntmps6
    go_wp2_with fail
    refine (P15.out).mono ?_; rintro e w1 ⟨ya, yc, yb, yd, rfl, hl1, hb1⟩
    have B1 := Lib.hid hb1
    have A2 := Lib.hid (Below.alloc (Below.refl w1.heap.size w1) (Nat.le_refl _) (.cells #[.int .i64 op, .int .i64 e1r, .bool yes, .slice ya li yc, .slice yb ln yd] 27))
    have X2 := Lib.hid (block_new w1 (.cells #[.int .i64 op, .int .i64 e1r, .bool yes, .slice ya li yc, .slice yb ln yd] 27))
    have B2 := Lib.hid (B1.out.trans (A2.out.mono B1.out.size))
    have L2 := Lib.hid (KP.out _ _ _ _ _ _ hl1 A2.out)
    clear hb1 hl1 P15
    go_wp2_with fail
    refine (P26.out _).mono ?_; rintro e w3 ⟨xa, xc, xb, xd, rfl, hl3, hb3⟩
    have B3 := Lib.hid (B2.out.trans (hb3.mono B2.out.size))
    have A4 := Lib.hid (Below.alloc (Below.refl w3.heap.size w3) (Nat.le_refl _) (.cells #[.int .i64 op, .int .i64 e1r, .bool yes, .slice xa li xc, .slice xb ln xd] 27))
    have X4 := Lib.hid (block_new w3 (.cells #[.int .i64 op, .int .i64 e1r, .bool yes, .slice xa li xc, .slice xb ln xd] 27))
    have L4 := Lib.hid (KP.out _ _ _ _ _ _ hl3 A4.out)
    have L5 := Lib.hid (KP.out _ _ _ _ _ _ (KP.out _ _ _ _ _ _ L2.out hb3) A4.out)
    have X5 := Lib.hid (block_old ((hb3.block _ (lt_of_block X2.out)).trans X2.out) (.cells #[.int .i64 op, .int .i64 e1r, .bool yes, .slice xa li xc, .slice xb ln xd] 27))
    have B4 := Lib.hid (B3.out.trans (A4.out.mono B3.out.size))
    have hsz : w1.heap.size < w3.heap.size := by have := hb3.size; have := lt_of_block X2.out; omega
    have QS := Lib.hid (PS.out _ _ _ _ _ _ _ _ _ L5.out L4.out)
    obtain ⟨x0, x1, x2, x3, x4⟩ := at5_of X5.out
    obtain ⟨y0, y1, y2, y3, y4⟩ := at5_of X4.out
    clear hb3 hl3 P26 L2 PS
    go_wp2_with fail
    refine (QS.out).mono ?_; rintro e w6 ⟨rfl, hb6⟩
    have B6 := Lib.hid (B4.out.trans (hb6.mono B4.out.size))
    clear hb6 QS x0 x1 x2 x3 x4 y0 y1 y2 y3 y4
    go_wp2_with fail
    refine (PW.out _ B6.out).mono ?_; rintro e wz ⟨rfl, hbz⟩
    have BZ := Lib.hid (B6.out.trans (hbz.mono B6.out.size))
    clear hbz
    go_wp2_with fail
    go_ret
    exact ⟨rfl, BZ.out⟩
end Go.Proofs.YtlmdkcpiimpniaaDoor

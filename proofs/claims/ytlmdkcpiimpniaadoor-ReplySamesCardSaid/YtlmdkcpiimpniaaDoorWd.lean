/- ReplySames: the walk. -/
import Derived.Test.YtlmdkcpiimpniaaDoorWc
namespace Go.Proofs.YtlmdkcpiimpniaaDoor
open Go.ChangeShapes Go.WideShapes Go.ChangeAt Go.RowKit
set_option linter.unusedVariables false
set_option linter.unusedSimpArgs false

theorem LsR.drewR {w : World} {r : Rp} {a a' : Option Addr} {c c' : Nat} (h : LsR w r a c a' c') : LsR w.drew r a c a' c' := h.keep (Below.drew (Below.refl _ _))
set_option maxRecDepth 100000 in
set_option maxHeartbeats 8000000 in
theorem sames_walk (r : Rp) (a : Option Addr) (c : Nat) (a' : Option Addr) (c' : Nat) (q : Rp) (b : Option Addr) (d : Nat) (b' : Option Addr) (d' : Nat) (w : World) (hE : Env w) (hL : LsR w r a c a' c') (hI : RpIn r) (hM : LsR w q b d b' d') (hJ : RpIn q) :
    Calls Tryd.prog 7 #[.agg (rpV r a c a' c'), .agg (rpV q b d b' d')] w fun e w' => e = .returned (.bool true) ∧ Below w.heap.size w w' := by
  have A1 : Hid (Below w.heap.size w ((w.alloc (.cells (rpV r a c a' c') 27)).alloc (.cells (rpV q b d b' d') 27))) := Lib.hid ((Below.alloc (Below.refl _ _) (Nat.le_refl _) _).alloc (by simp) _)
  have X := Lib.hid (block_old (block_new w (.cells (rpV r a c a' c') 27)) (.cells (rpV q b d b' d') 27))
  have Y : Hid (((w.alloc (.cells (rpV r a c a' c') 27)).alloc (.cells (rpV q b d b' d') 27)).heap[w.heap.size + 1]? = some (.cells (rpV q b d b' d') 27 (0, 0))) := Lib.hid (by
    have := block_new (w.alloc (.cells (rpV r a c a' c') 27)) (.cells (rpV q b d b' d') 27)
    rwa [show (w.alloc (.cells (rpV r a c a' c') 27)).heap.size = w.heap.size + 1 by simp] at this)
  have PF := Lib.hid (pfew ((w.alloc (.cells (rpV r a c a' c') 27)).alloc (.cells (rpV q b d b' d') 27)) r a a' c c')
  have PG := Lib.hid (fun W => pfew W q b b' d d')
  have PW := Lib.hid (fun W (hb : Below w.heap.size w W) => pworks (hE.below hb))
  by_cases hf : fewB r = true
  · obtain ⟨f1, f2⟩ := few_iff.1 hf
    rw [hf] at PF
    by_cases hg : fewB q = true
    · obtain ⟨f3, f4⟩ := few_iff.1 hg
      rw [hg] at PG
      have PC1 := Lib.hid (fun W (hb : Below w.heap.size w W) => pcopied (hL.keep hb) (by omega) (by omega))
      have PC2 := Lib.hid (fun W (hb : Below w.heap.size w W) => pcopied (hM.keep hb) (by omega) (by omega))
      have PS := Lib.hid (fun W (hb : Below w.heap.size w W) => psame (hL.keep hb) (hM.keep hb))
      have PT := Lib.hid (fun W (hb : Below w.heap.size w W) => rsame (hL.keep hb) (hM.keep hb))
      have PS1 : Hid (∀ W b2 d2 b3 d3, Below w.heap.size w W → LsR W r b2 d2 b3 d3 → Calls Tryd.prog 18 #[.agg (rpV r a c a' c'), .agg (rpV r b2 d2 b3 d3)] W fun e w' => e = .returned (.bool true) ∧ Below W.heap.size W w') := Lib.hid (fun W b2 d2 b3 d3 hb hl => by
        have := psame (hL.keep hb) hl
        rwa [sameB_refl] at this)
      have PS2 : Hid (∀ W b2 d2 b3 d3, Below w.heap.size w W → LsR W q b2 d2 b3 d3 → Calls Tryd.prog 18 #[.agg (rpV q b2 d2 b3 d3), .agg (rpV q b d b' d')] W fun e w' => e = .returned (.bool true) ∧ Below W.heap.size W w') := Lib.hid (fun W b2 d2 b3 d3 hb hl => by
        have := psame hl (hM.keep hb)
        rwa [sameB_refl] at this)
      clear hE hL hI hM hJ hf hg f1 f2 f3 f4
      generalize sameB r q = K at *
      unfold CpR at PC1 PC2
      unfold rpV at *
      obtain ⟨op, er, yes, ids, nums⟩ := r
      obtain ⟨op', er', yes', ids', nums'⟩ := q
      simp only at *
      generalize hli : ids.length = li at *
      generalize hln : nums.length = ln at *
      generalize hli' : ids'.length = li' at *
      generalize hln' : nums'.length = ln' at *
      clear hli hln hli' hln'
      go_enter Tryd.func7, Tryd.ntmps7
      go_wp2_with fail
      refine (PF.out).mono ?_; rintro e w1 ⟨rfl, hb1⟩
      have B1 := Lib.hid (A1.out.trans (hb1.mono A1.out.size))
      have X1 := Lib.hid ((hb1.block _ (lt_of_block X.out)).trans X.out)
      have Y1 := Lib.hid ((hb1.block _ (lt_of_block Y.out)).trans Y.out)
      obtain ⟨y0, y1, y2, y3, y4⟩ := at5_of Y1.out
      clear hb1 PF X Y
      go_wp2_with fail
      refine (PG.out w1).mono ?_; rintro e w2 ⟨rfl, hb2⟩
      have BB := Lib.hid (B1.out.trans (hb2.mono B1.out.size))
      have X2 := Lib.hid ((hb2.block _ (lt_of_block X1.out)).trans X1.out)
      have Y2 := Lib.hid ((hb2.block _ (lt_of_block Y1.out)).trans Y1.out)
      have HX : Hid (∀ w', Below w2.heap.size w2 w' → At5 w' w.heap.size op er yes a li c a' ln c' ∧ At5 w' (w.heap.size + 1) op' er' yes' b li' d b' ln' d') := Lib.hid (fun w' hb => ⟨at5_of ((hb.block _ (lt_of_block X2.out)).trans X2.out), at5_of ((hb.block _ (lt_of_block Y2.out)).trans Y2.out)⟩)
      clear hb2 PG y0 y1 y2 y3 y4
      obtain ⟨⟨x0, x1, x2, x3, x4⟩, ⟨y0, y1, y2, y3, y4⟩⟩ := HX.out w2 (Below.refl _ _)
      have BR := Below.refl w2.heap.size w2
      have KK : Hid (∀ w', Below w2.heap.size w2 w' → w'.cell? ⟨w.heap.size, 0, none⟩ = some (.int .i64 op) ∧ w'.cell? ⟨w.heap.size, 1, none⟩ = some (.int .i64 er) ∧ w'.cell? ⟨w.heap.size, 2, none⟩ = some (.bool yes) ∧ w'.cell? ⟨w.heap.size, 3, none⟩ = some (.slice a li c) ∧ w'.cell? ⟨w.heap.size, 4, none⟩ = some (.slice a' ln c') ∧ w'.cell? ⟨w.heap.size + 1, 0, none⟩ = some (.int .i64 op') ∧ w'.cell? ⟨w.heap.size + 1, 1, none⟩ = some (.int .i64 er') ∧ w'.cell? ⟨w.heap.size + 1, 2, none⟩ = some (.bool yes') ∧ w'.cell? ⟨w.heap.size + 1, 3, none⟩ = some (.slice b li' d) ∧ w'.cell? ⟨w.heap.size + 1, 4, none⟩ = some (.slice b' ln' d')) := Lib.hid (fun w' hb => by
        obtain ⟨⟨u0, u1, u2, u3, u4⟩, v0, v1, v2, v3, v4⟩ := HX.out w' hb
        exact ⟨u0, u1, u2, u3, u4, v0, v1, v2, v3, v4⟩)
      have D1 := Lib.hid (fun W (h : Below w2.heap.size w2 W) => (PC1.out W (BB.out.trans (h.mono BB.out.size))).mono (fun e w' (k : ∃ _, _) => by obtain ⟨b2, d2, b3, d3, h1, h2, h3⟩ := k; exact (⟨b2, d2, b3, d3, h1, h2, h.trans (h3.mono h.size)⟩ : ∃ b2 d2 b3 d3, e = .returned (.agg #[.int .i64 op, .int .i64 er, .bool yes, .slice b2 li d2, .slice b3 ln d3]) ∧ LsR w' ⟨op, er, yes, ids, nums⟩ b2 d2 b3 d3 ∧ Below w2.heap.size w2 w')))
      have D2 := Lib.hid (fun W (h : Below w2.heap.size w2 W) => (PC2.out W (BB.out.trans (h.mono BB.out.size))).mono (fun e w' (k : ∃ _, _) => by obtain ⟨b2, d2, b3, d3, h1, h2, h3⟩ := k; exact (⟨b2, d2, b3, d3, h1, h2, h.trans (h3.mono h.size)⟩ : ∃ b2 d2 b3 d3, e = .returned (.agg #[.int .i64 op', .int .i64 er', .bool yes', .slice b2 li' d2, .slice b3 ln' d3]) ∧ LsR w' ⟨op', er', yes', ids', nums'⟩ b2 d2 b3 d3 ∧ Below w2.heap.size w2 w')))
      have D3 := Lib.hid (fun W (h : Below w2.heap.size w2 W) => (PS.out W (BB.out.trans (h.mono BB.out.size))).mono (fun e w' (k : _ ∧ Below W.heap.size W w') => And.intro k.1 (h.trans (k.2.mono h.size))))
      have D4 := Lib.hid (fun W (h : Below w2.heap.size w2 W) => (PT.out W (BB.out.trans (h.mono BB.out.size))).mono (fun e w' (k : _ ∧ Below W.heap.size W w') => And.intro k.1 (h.trans (k.2.mono h.size))))
      have D5 := Lib.hid (fun W (h : Below w2.heap.size w2 W) => (PW.out W (BB.out.trans (h.mono BB.out.size))).mono (fun e w' (k : _ ∧ Below W.heap.size W w') => And.intro k.1 (h.trans (k.2.mono h.size))))
      have D6 := Lib.hid (fun W b2 d2 b3 d3 (h : Below w2.heap.size w2 W) (hl : LsR W ⟨op, er, yes, ids, nums⟩ b2 d2 b3 d3) => (PS1.out W b2 d2 b3 d3 (BB.out.trans (h.mono BB.out.size)) hl).mono (fun e w' (k : _ ∧ Below W.heap.size W w') => And.intro k.1 (h.trans (k.2.mono h.size))))
      have D7 := Lib.hid (fun W b2 d2 b3 d3 (h : Below w2.heap.size w2 W) (hl : LsR W ⟨op', er', yes', ids', nums'⟩ b2 d2 b3 d3) => (PS2.out W b2 d2 b3 d3 (BB.out.trans (h.mono BB.out.size)) hl).mono (fun e w' (k : _ ∧ Below W.heap.size W w') => And.intro k.1 (h.trans (k.2.mono h.size))))
      clear PC1 PC2 PS PT PW PS1 PS2
      go_wp2_with fail
      go_region_held3 (fun w' => w'.cell? ⟨w.heap.size, 0, none⟩ = some (.int .i64 op) ∧ w'.cell? ⟨w.heap.size, 1, none⟩ = some (.int .i64 er) ∧ w'.cell? ⟨w.heap.size, 2, none⟩ = some (.bool yes) ∧ w'.cell? ⟨w.heap.size, 3, none⟩ = some (.slice a li c) ∧ w'.cell? ⟨w.heap.size, 4, none⟩ = some (.slice a' ln c') ∧ w'.cell? ⟨w.heap.size + 1, 0, none⟩ = some (.int .i64 op') ∧ w'.cell? ⟨w.heap.size + 1, 1, none⟩ = some (.int .i64 er') ∧ w'.cell? ⟨w.heap.size + 1, 2, none⟩ = some (.bool yes') ∧ w'.cell? ⟨w.heap.size + 1, 3, none⟩ = some (.slice b li' d) ∧ w'.cell? ⟨w.heap.size + 1, 4, none⟩ = some (.slice b' ln' d'))
        (first | exact KK.out _ (by first | assumption | exact Below.drewR (by assumption)))
        (first
          | (go_at_call 21; (with_reducible refine (D1.out _ (by first | assumption | exact Below.drewR (by assumption))).mono ?_); rintro e w7 ⟨b2, d2, b3, d3, rfl, hl2, hb7⟩)
          | (go_at_call 21; (with_reducible refine (D2.out _ (by first | assumption | exact Below.drewR (by assumption))).mono ?_); rintro e w7 ⟨b2, d2, b3, d3, rfl, hl2, hb7⟩)
          | (go_at_call 18; (with_reducible refine (D3.out _ (by first | assumption | exact Below.drewR (by assumption))).mono ?_); rintro e w7 ⟨rfl, hb7⟩)
          | (go_at_call 18; (with_reducible refine (D6.out _ _ _ _ _ (by first | assumption | exact Below.drewR (by assumption)) (by first | assumption | exact LsR.drewR (by assumption))).mono ?_); rintro e w7 ⟨rfl, hb7⟩)
          | (go_at_call 18; (with_reducible refine (D7.out _ _ _ _ _ (by first | assumption | exact Below.drewR (by assumption)) (by first | assumption | exact LsR.drewR (by assumption))).mono ?_); rintro e w7 ⟨rfl, hb7⟩)
          | (go_at_call 25; (with_reducible refine (D4.out _ (by first | assumption | exact Below.drewR (by assumption))).mono ?_); rintro e w7 ⟨rfl, hb7⟩)
          | (go_at_call 19; refine (D5.out _ (by first | assumption | exact Below.drewR (by assumption))).mono ?_; rintro e w7 ⟨rfl, hb7⟩))
      go_wp2_with fail
      go_ret
      exact ⟨rfl, BB.out.trans (Below.mono (by first | assumption | exact Below.drewR (by assumption)) BB.out.size)⟩
    · rw [Bool.eq_false_iff.2 hg] at PG
      clear hE hL hI hM hJ hf hg f1 f2
      unfold rpV at *
      obtain ⟨op, er, yes, ids, nums⟩ := r
      obtain ⟨op', er', yes', ids', nums'⟩ := q
      simp only at *
      generalize ids.length = li at *
      generalize nums.length = ln at *
      generalize ids'.length = li' at *
      generalize nums'.length = ln' at *
      go_enter Tryd.func7, Tryd.ntmps7
      go_wp2_with fail
      refine (PF.out).mono ?_; rintro e w1 ⟨rfl, hb1⟩
      have B1 := Lib.hid (A1.out.trans (hb1.mono A1.out.size))
      have Y1 := Lib.hid ((hb1.block _ (lt_of_block Y.out)).trans Y.out)
      obtain ⟨y0, y1, y2, y3, y4⟩ := at5_of Y1.out
      clear hb1 PF X Y
      go_wp2_with fail
      refine (PG.out w1).mono ?_; rintro e w2 ⟨rfl, hb2⟩
      have BB := Lib.hid (B1.out.trans (hb2.mono B1.out.size))
      clear hb2 PG y0 y1 y2 y3 y4
      go_wp2_with fail
      refine (PW.out _ BB.out).mono ?_; rintro e w3 ⟨rfl, hb3⟩
      have B3 := Lib.hid (BB.out.trans (hb3.mono BB.out.size))
      clear hb3 PW
      go_wp2_with fail
      go_ret
      exact ⟨rfl, B3.out⟩
  · rw [Bool.eq_false_iff.2 hf] at PF
    clear hE hL hI hM hJ hf PG
    unfold rpV at *
    obtain ⟨op, er, yes, ids, nums⟩ := r
    obtain ⟨op', er', yes', ids', nums'⟩ := q
    simp only at *
    generalize ids.length = li at *
    generalize nums.length = ln at *
    generalize ids'.length = li' at *
    generalize nums'.length = ln' at *
    go_enter Tryd.func7, Tryd.ntmps7
    go_wp2_with fail
    refine (PF.out).mono ?_; rintro e w1 ⟨rfl, hb1⟩
    have BB := Lib.hid (A1.out.trans (hb1.mono A1.out.size))
    clear hb1 PF X Y
    go_wp2_with fail
    refine (PW.out _ BB.out).mono ?_; rintro e w2 ⟨rfl, hb2⟩
    have B2 := Lib.hid (BB.out.trans (hb2.mono BB.out.size))
    clear hb2 PW
    go_wp2_with fail
    go_ret
    exact ⟨rfl, B2.out⟩
end Go.Proofs.YtlmdkcpiimpniaaDoor

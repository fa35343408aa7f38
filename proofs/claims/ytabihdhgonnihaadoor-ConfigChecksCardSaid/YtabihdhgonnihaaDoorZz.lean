/- ConfigChecks: the walk. -/
import Derived.Test.YtabihdhgonnihaaDoorZy
import Derived.Test.YtabihdhgonnihaaDoorZk
import Derived.Test.YtabihdhgonnihaaDoorZg
namespace Go.Proofs.YtabihdhgonnihaaDoor
open Go.ChangeShapes Go.WideShapes Go.ChangeAt Go.RowKit
set_option linter.unusedVariables false
set_option linter.unusedSimpArgs false

abbrev agf (f : Cf) : Value := .agg #[.int .i64 f.a, .int .i64 f.b, .int .i64 f.c, .int .i64 f.d]
abbrev AnyT (n : FuncId) (w : World) (f : Cf) (s : Str) (er : Int) : Prop := ∀ w', Below w.heap.size w w' → Calls Tryd.prog n #[.agg #[.int .i64 f.a, .int .i64 f.b, .int .i64 f.c, .int .i64 f.d]] w' fun e w'' => e = .returned (.tuple #[.string ⟨s.toArray⟩, .int .i64 er]) ∧ Below w'.heap.size w' w''
abbrev AnyP (n : FuncId) (w : World) (f : Cf) (zs : List Int) (er : Int) : Prop := ∀ w', Below w.heap.size w w' → Calls Tryd.prog n #[.agg #[.int .i64 f.a, .int .i64 f.b, .int .i64 f.c, .int .i64 f.d]] w' fun e w'' => ∃ a l c, e = .returned (.tuple #[.slice a l c, .int .i64 er]) ∧ IsK .u8 w'' a l c zs ∧ Below w'.heap.size w' w''
theorem four_calls {w : World} (h : Env w) (f : Cf) (hf : f.ok) : ∃ s er zs, AnyT 15 w f s er ∧ AnyT 31 w f s er ∧ AnyP 30 w f zs er ∧ AnyP 32 w f zs er := by
  by_cases hw : wrong f < 0
  · refine ⟨txt f 4, 0, putB f 4, fun w' hb => ptext_ok (h.below hb) f hf hw, fun w' hb => rtext_ok f hf hw w', fun w' hb => (pput_ok (h.below hb) f hf hw).mono ?_, fun w' hb => (rput_ok f hf hw w').mono ?_⟩
    all_goals
      rintro e w'' ⟨v, rfl, ho, hb2⟩
      obtain ⟨a, c, rfl, hS⟩ := ho.sl
      exact ⟨a, _, c, rfl, hS, hb2⟩
  · refine ⟨[], 2, [], fun w' hb => ptext_bad (h.below hb) f hf hw, fun w' hb => rtext_bad f hf hw w', fun w' hb => (pput_bad (h.below hb) f hf hw).mono ?_, fun w' hb => (rput_bad f hf hw w').mono ?_⟩
    all_goals
      rintro e w'' ⟨rfl, hb2⟩
      exact ⟨none, 0, 0, rfl, IsSl.nil _, hb2⟩
abbrev Any33 (W : World) (g : Cf) (v : Int) : Prop := ∀ w', Below W.heap.size W w' → Calls Tryd.prog 33 #[.agg #[.int .i64 g.a, .int .i64 g.b, .int .i64 g.c, .int .i64 g.d]] w' fun e w'' => e = .returned (.int .i64 v) ∧ Below W.heap.size W w''
abbrev Any34 (W : World) (g : Cf) (v : Str) : Prop := ∀ w', Below W.heap.size W w' → Calls Tryd.prog 34 #[.agg #[.int .i64 g.a, .int .i64 g.b, .int .i64 g.c, .int .i64 g.d]] w' fun e w'' => e = .returned (.string ⟨v.toArray⟩) ∧ Below W.heap.size W w''
abbrev Any35 (W : World) (g r : Cf) : Prop := ∀ w', Below W.heap.size W w' → Calls Tryd.prog 35 #[.agg #[.int .i64 g.a, .int .i64 g.b, .int .i64 g.c, .int .i64 g.d]] w' fun e w'' => e = .returned (.agg #[.int .i64 r.a, .int .i64 r.b, .int .i64 r.c, .int .i64 r.d]) ∧ Below W.heap.size W w''
theorem any33 (W : World) (g : Cf) (hg : g.ok) : Any33 W g (chk g) := fun w' hb => (rcheck g hg w').mono fun e w'' ⟨h1, h2⟩ => ⟨h1, hb.trans (h2.mono hb.size)⟩
theorem any34 (W : World) (g : Cf) (hg : g.ok) : Any34 W g (field g) := fun w' hb => (rfield g hg w').mono fun e w'' ⟨h1, h2⟩ => ⟨h1, hb.trans (h2.mono hb.size)⟩
theorem any35 (W : World) (g : Cf) (hg : g.ok) : Any35 W g (clamp g) := fun w' hb => (rclamp g hg w').mono fun e w'' ⟨h1, h2⟩ => ⟨h1, hb.trans (h2.mono hb.size)⟩
set_option maxRecDepth 100000 in
set_option maxHeartbeats 40000000 in
theorem checks_law (f : Cf) (hf : f.ok) (w : World) (h : Env w) : Calls Tryd.prog 10 #[.agg #[.int .i64 f.a, .int .i64 f.b, .int .i64 f.c, .int .i64 f.d]] w fun e w' => e = .returned (.bool true) ∧ Below w.heap.size w w' := by
  obtain ⟨s, er, zs, t1, t2, p1, p2⟩ := four_calls h f hf
  have T1 := Lib.hid t1
  have T2 := Lib.hid t2
  have P1 := Lib.hid p1
  have P2 := Lib.hid p2
  have HE := Lib.hid h
  have HF := Lib.hid hf
  have N := Lib.hid (new25 w f)
  have X := Lib.hid (block_new w (.cells #[.int .i64 f.a, .int .i64 f.b, .int .i64 f.c, .int .i64 f.d] 25))
  have Q1 := Lib.hid (T1.out _ N.out)
  clear t1 t2 p1 p2 hf h
  go_enter Tryd.func10, Tryd.ntmps10
  go_wp2_with fail
  refine (Q1.out).mono ?_; rintro e w1 ⟨rfl, hb1⟩
  have B1 := Lib.hid (N.out.trans (hb1.mono N.out.size))
  have X1 := Lib.hid ((hb1.block _ (lt_of_block X.out)).trans X.out)
  have Q2 := Lib.hid (T2.out _ B1.out)
  obtain ⟨c0, c1, c2, c3⟩ := At4.of X1.out
  clear hb1 Q1 T1 T2 N X
  go_wp2_with fail
  refine (Q2.out).mono ?_; rintro e w2 ⟨rfl, hb2⟩
  have B2 := Lib.hid (B1.out.trans (hb2.mono B1.out.size))
  have X2 := Lib.hid ((hb2.block _ (lt_of_block X1.out)).trans X1.out)
  have Q3 := Lib.hid (P1.out _ B2.out)
  clear hb2 Q2 P1 c0 c1 c2 c3 X1
  obtain ⟨c0, c1, c2, c3⟩ := At4.of X2.out
  go_wp2_with fail
  refine (Q3.out).mono ?_; rintro e w3 ⟨aa, la, ca, rfl, hSa, hb3⟩
  have B3 := Lib.hid (B2.out.trans (hb3.mono B2.out.size))
  have X3 := Lib.hid ((hb3.block _ (lt_of_block X2.out)).trans X2.out)
  have S3 := Lib.hid hSa
  have Q4 := Lib.hid (P2.out _ B3.out)
  clear hb3 Q3 P2 c0 c1 c2 c3 X2 hSa
  obtain ⟨c0, c1, c2, c3⟩ := At4.of X3.out
  go_wp2_with fail
  refine (Q4.out).mono ?_; rintro e w4 ⟨ab, lb, cb, rfl, hSb, hb4⟩
  have B4 := Lib.hid (B3.out.trans (hb4.mono B3.out.size))
  have X4 := Lib.hid ((hb4.block _ (lt_of_block X3.out)).trans X3.out)
  have S4 := Lib.hid (S3.out.below hb4)
  have Z4 := Lib.hid hSb
  clear hb4 Q4 c0 c1 c2 c3 X3 hSb S3
  go_upto_region 5 with fail
  have C1 := Lib.hid (any27 (HE.out.below B4.out) f HF.out)
  have C2 := Lib.hid (any33 w4 f HF.out)
  have C3 := Lib.hid (any29 (HE.out.below B4.out) f HF.out)
  have C4 := Lib.hid (any34 w4 f HF.out)
  have C5 := Lib.hid (any26 (HE.out.below B4.out) f HF.out)
  have C6 := Lib.hid (any35 w4 f HF.out)
  generalize chk f = ck at *
  generalize field f = fd at *
  generalize clamp f = cl at *
  have KK := Lib.hid (fun w' (hb : Below w4.heap.size w4 w') => (At4.of X4.out).keep (lt_of_block X4.out) hb)
  have WK := Lib.hid (fun w' (hb : Below w.heap.size w w') => works_any (HE.out.below hb))
  obtain ⟨x0, x1, x2, x3⟩ := KK.out w4 (Below.refl _ _)
  have BR := Below.refl w4.heap.size w4
  go_cut [49] (fun s49 wx => s49 = .bool false ∧ Below w4.heap.size w4 wx)
  case first =>
    go_region_held3 (fun w' => w'.cell? ⟨w.heap.size, 0, none⟩ = some (.int .i64 f.a) ∧ w'.cell? ⟨w.heap.size, 1, none⟩ = some (.int .i64 f.b) ∧ w'.cell? ⟨w.heap.size, 2, none⟩ = some (.int .i64 f.c) ∧ w'.cell? ⟨w.heap.size, 3, none⟩ = some (.int .i64 f.d))
      (first | exact ⟨x0, x1, x2, x3⟩ | exact KK.out _ (by first | assumption | exact Below.drewR (by assumption)))
      (first
        | (go_at_call 27; refine (C1.out _ (by first | assumption | exact Below.drewR (by assumption))).mono ?_; rintro e w7 ⟨rfl, hb7⟩)
        | (go_at_call 33; refine (C2.out _ (by first | assumption | exact Below.drewR (by assumption))).mono ?_; rintro e w7 ⟨rfl, hb7⟩)
        | (go_at_call 29; refine (C3.out _ (by first | assumption | exact Below.drewR (by assumption))).mono ?_; rintro e w7 ⟨rfl, hb7⟩)
        | (go_at_call 34; refine (C4.out _ (by first | assumption | exact Below.drewR (by assumption))).mono ?_; rintro e w7 ⟨rfl, hb7⟩)
        | (go_at_call 26; refine (C5.out _ (by first | assumption | exact Below.drewR (by assumption))).mono ?_; rintro e w7 ⟨rfl, hb7⟩)
        | (go_at_call 35; refine (C6.out _ (by first | assumption | exact Below.drewR (by assumption))).mono ?_; rintro e w7 ⟨rfl, hb7⟩))
    all_goals
      go_wp2_with fail
      go_meet
      exact ⟨rfl, by first | assumption | exact Below.drewR (by assumption)⟩
  case rest =>
    obtain ⟨rfl, hbx⟩ := hcut
    clear x0 x1 x2 x3 C1 C2 C3 C4 C5 C6 BR KK X4
    have BX := Lib.hid (B4.out.trans (hbx.mono B4.out.size))
    have Q5 := Lib.hid (psame (S4.out.below hbx) (Z4.out.below hbx))
    simp only [decide_true] at Q5
    clear S4 Z4 hbx B4
    go_wp2_with fail
    refine (Q5.out).mono ?_; rintro e w5 ⟨rfl, hb5⟩
    have B5 := Lib.hid (BX.out.trans (hb5.mono BX.out.size))
    have Q6 := Lib.hid (pdefault w5)
    clear hb5 Q5 BX
    go_wp2_with fail
    refine (Q6.out).mono ?_; rintro e w6 ⟨rfl, hb6⟩
    have B6 := Lib.hid (B5.out.trans (hb6.mono B5.out.size))
    have Q7 := Lib.hid (rdefault w6)
    clear hb6 Q6 B5
    go_wp2_with fail
    refine (Q7.out).mono ?_; rintro e w7 ⟨rfl, hb7⟩
    have B7 := Lib.hid (B6.out.trans (hb7.mono B6.out.size))
    have W7 := Lib.hid (WK.out _ B7.out)
    clear hb7 Q7 B6 WK
    go_wp2_with fail
    refine (W7.out).mono ?_; rintro e w9 ⟨rfl, hb9⟩
    have B9 := Lib.hid (B7.out.trans (hb9.mono B7.out.size))
    clear hb9 W7
    go_wp2_with fail
    go_ret
    exact ⟨rfl, B9.out⟩
theorem checks_walk (r : {f : Cf // f.ok}) (w : World) (h : Env w) : Calls Tryd.prog 10 #[.agg #[.int .i64 r.1.a, .int .i64 r.1.b, .int .i64 r.1.c, .int .i64 r.1.d]] w fun e w' => e = .returned (.bool true) ∧ Below w.heap.size w w' := checks_law r.1 r.2 w h
end Go.Proofs.YtabihdhgonnihaaDoor

/- ConfigFirst: the walk. -/
import Derived.Test.YtabihdhgonnihaaDoorZs
namespace Go.Proofs.YtabihdhgonnihaaDoor
open Go.ChangeShapes Go.WideShapes Go.ChangeAt Go.RowKit
set_option linter.unusedVariables false
set_option linter.unusedSimpArgs false

/-- The fields below k are valid; s tells the first one that is not. -/
def FR (k : Nat) (g : Cf) (s : Str) : Prop := g.ok ∧ (∀ j, j < k → okf g j = true) ∧ ((s = [] ∧ ∀ j, j < 4 → okf g j = true) ∨ ∃ m, k ≤ m ∧ m < 4 ∧ s = nm m ∧ okf g m = false ∧ ∀ j, j < m → okf g j = true)
theorem FR.weak {k : Nat} {g : Cf} {s : Str} (h : FR (k + 1) g s) : FR k g s := by
  obtain ⟨h1, h2, h3⟩ := h
  refine ⟨h1, fun j hj => h2 j (by omega), ?_⟩
  rcases h3 with h | ⟨m, a, b⟩
  · exact Or.inl h
  · exact Or.inr ⟨m, by omega, b⟩
theorem okf_put {g : Cf} {k j : Nat} (hj : j < k) (hk : k < 4) (x : Int) : okf (g.put k x) j = okf g j := by
  have h4 : k = 1 ∨ k = 2 ∨ k = 3 := by omega
  have h5 : j = 0 ∨ j = 1 ∨ j = 2 := by omega
  rcases h4 with rfl | rfl | rfl <;> rcases h5 with rfl | rfl | rfl <;> first | rfl | omega
theorem FR.hit {k : Nat} {g : Cf} {s : Str} (h : FR (k + 1) g s) (hk : k < 4) {x : Int} (h0 : -9223372036854775808 ≤ x) (h1 : x ≤ 9223372036854775807) (hb : okf (g.put k x) k = false) : FR k (g.put k x) (nm k) := by
  obtain ⟨h2, h3, _⟩ := h
  have hlow : ∀ j, j < k → okf (g.put k x) j = true := fun j hj => by rw [okf_put hj hk]; exact h3 j (by omega)
  exact ⟨put_ok' h2 k h0 h1, hlow, Or.inr ⟨k, Nat.le_refl _, hk, rfl, hb, hlow⟩⟩
theorem FR.first {f : Cf} (h : f.ok) (hw : wrong f < 0) : FR 4 f [] := by
  have ha : ∀ j, j < 4 → okf f j = true := fun j hj => by
    rw [wrong_iff] at hw
    unfold okf
    have h5 : j = 0 ∨ j = 1 ∨ j = 2 ∨ j = 3 := by omega
    rcases h5 with rfl | rfl | rfl | rfl <;> simp only [Cf.at, lo, hi, Bool.and_eq_true, decide_eq_true_eq] <;> omega
  exact ⟨h, ha, Or.inl ⟨rfl, ha⟩⟩
theorem FR.last {g : Cf} {s : Str} (h : FR 0 g s) : g.ok ∧ field g = s ∧ ((s = [] ∧ wrong g < 0) ∨ (s ≠ [] ∧ ¬ wrong g < 0)) := by
  obtain ⟨h1, _, h3⟩ := h
  rcases h3 with ⟨rfl, ha⟩ | ⟨m, _, hm, rfl, hb, hl⟩
  · have := wrong_no ha
    exact ⟨h1, by unfold field; rw [this]; rfl, Or.inl ⟨rfl, by rw [this]; decide⟩⟩
  · have := wrong_at hm hl hb
    refine ⟨h1, by unfold field; rw [this, if_neg (by omega)]; simp, Or.inr ⟨by unfold nm; split <;> simp, by rw [this]; omega⟩⟩
abbrev names51 : Array Value := #[.string ⟨#[119, 105, 110, 100, 111, 119]⟩, .string ⟨#[101, 100, 103, 101, 115]⟩, .string ⟨#[118, 101, 114, 116, 115]⟩, .string ⟨#[100, 114, 97, 119, 115]⟩]
structure FiW (w : World) (p q k : Nat) (v : Value) (wx : World) : Prop where
  ex : ∃ (g : Cf) (s : Str), v = .string ⟨s.toArray⟩ ∧ wx.heap[p]? = some (.cells #[.int .i64 g.a, .int .i64 g.b, .int .i64 g.c, .int .i64 g.d] 25 (0, 0)) ∧ FR k g s
  nam : wx.heap[q]? = some (.cells names51 51 (0, 0))
  below : Below w.heap.size w wx
theorem FiW.set {w : World} {p q k : Nat} {wx : World} {g : Cf} {x : Int} {s : Str} (h1 : wx.heap[p]? = some (.cells #[.int .i64 g.a, .int .i64 g.b, .int .i64 g.c, .int .i64 g.d] 25 (0, 0))) (hn : wx.heap[q]? = some (.cells names51 51 (0, 0))) (hb : Below w.heap.size w wx) (hp : w.heap.size ≤ p) (hpq : q ≠ p)
    (hf : FR (k + 1) g s) (hk : k < 4) (h0 : -9223372036854775808 ≤ x) (hx : x ≤ 9223372036854775807) (hbad : okf (g.put k x) k = false) : FiW w p q k (.string ⟨(nm k).toArray⟩) (wx.setCell ⟨p, k, none⟩ (.int .i64 x)).drew := by
  have h2 := set_of h1 k (.int .i64 x)
  have h3 : (#[.int .i64 g.a, .int .i64 g.b, .int .i64 g.c, .int .i64 g.d] : Array Value).setIfInBounds k (.int .i64 x) = #[.int .i64 (g.put k x).a, .int .i64 (g.put k x).b, .int .i64 (g.put k x).c, .int .i64 (g.put k x).d] := by
    have h4 : k = 0 ∨ k = 1 ∨ k = 2 ∨ k = 3 := by omega
    rcases h4 with rfl | rfl | rfl | rfl <;> rfl
  rw [h3] at h2
  exact ⟨⟨_, _, rfl, h2, hf.hit hk h0 hx hbad⟩, block_set hn (by simpa using hpq) _, (hb.setCell (by simpa using hp) _).drew⟩
set_option maxRecDepth 100000 in
set_option maxHeartbeats 40000000 in
theorem first_walk (a b c d bi n : Int) (w : World) (hE : Env w) (wa : (Lit.int .u64 a).wf = true) (wb : (Lit.int .u16 b).wf = true) (wc : (Lit.int .u16 c).wf = true) (wd : (Lit.int .u16 d).wf = true) (wbi : (Lit.int .u8 bi).wf = true) (wn : (Lit.int .i64 n).wf = true) :
    Calls Tryd.prog 8 #[.int .u64 a, .int .u16 b, .int .u16 c, .int .u16 d, .int .u8 bi, .int .i64 n] w fun e w' => e = .returned (.bool true) ∧ Below w.heap.size w w' := by
  obtain ⟨A, rfl, hA⟩ := nat_u64 wa
  obtain ⟨B, rfl, hB⟩ := nat_u16 wb
  obtain ⟨C, rfl, hC⟩ := nat_u16 wc
  obtain ⟨D, rfl, hD⟩ := nat_u16 wd
  have HN : Hid (-9223372036854775808 ≤ n ∧ n ≤ 9223372036854775807) := Lib.hid (by simp [Lit.wf, IntKind.min, IntKind.max, IntKind.bits, IntKind.signed] at wn; omega)
  have HE := Lib.hid hE
  have P1 := Lib.hid (pdrawn A B C D hA hB hC hD w)
  have F0 := Lib.hid (FR.first (drawn_ok A B C D) (drawn_wrong A B C D))
  generalize drawnC A B C D = f at *
  clear hE hA hB hC hD wa wb wc wd wbi wn
  go_enter Tryd.func8, Tryd.ntmps8
  go_wp2_with fail
  refine (P1.out).mono ?_; rintro e w1 ⟨rfl, hb1⟩
  have S0 : Hid (FiW w w1.heap.size (w1.heap.size + 1) 4 (.string ⟨#[]⟩) ((w1.alloc (.cells #[.int .i64 f.a, .int .i64 f.b, .int .i64 f.c, .int .i64 f.d] 25)).alloc (.cells names51 51))) := Lib.hid ⟨⟨f, [], rfl, block_old (block_new _ _) _, F0.out⟩, by
    have := block_new (w1.alloc (.cells #[.int .i64 f.a, .int .i64 f.b, .int .i64 f.c, .int .i64 f.d] 25)) (.cells names51 51)
    rwa [show (w1.alloc (.cells #[.int .i64 f.a, .int .i64 f.b, .int .i64 f.c, .int .i64 f.d] 25)).heap.size = w1.heap.size + 1 by simp] at this, (hb1.alloc hb1.size _).alloc (by have := hb1.size; simp; omega) _⟩
  have HP : Hid (w.heap.size ≤ w1.heap.size) := Lib.hid hb1.size
  clear hb1 P1 F0
  go_upto_if 29 with fail
  have HW0 := S0.out
  clear S0
  generalize ((w1.alloc (.cells #[.int .i64 f.a, .int .i64 f.b, .int .i64 f.c, .int .i64 f.d] 25)).alloc (.cells names51 51)) = W at *
  obtain ⟨⟨g, s, hs, hg, hfr⟩, hnm, hbl⟩ := HW0
  rw [hs]
  clear hs
  generalize (bits BinOp.and IntKind.u8 bi 8 == 8) = tb at *
  have HFR := Lib.hid hfr
  have HG := Lib.hid hg
  have HNM := Lib.hid hnm
  have HBL := Lib.hid hbl
  clear hfr hg hnm hbl
  go_cut [14] (fun s14 wx => FiW w w1.heap.size (w1.heap.size + 1) 3 s14 wx)
  case first =>
    cases tb
    · go_wp2_with fail
      go_meet
      exact ⟨⟨g, s, rfl, HG.out, HFR.out.weak⟩, HNM.out, HBL.out⟩
    · have xk : W.cell? ⟨w1.heap.size + 1, 3, none⟩ = some (.string ⟨#[100, 114, 97, 119, 115]⟩) := cell_of HNM.out 3
      have ck : W.cell? ⟨w1.heap.size, 3, none⟩ = some (.int .i64 g.d) := cell_of HG.out 3
      have zk : W.frozen? ⟨w1.heap.size, 3, none⟩ = false := free_of HG.out 3
      have l1 := lt_of_block HG.out
      have l2 := lt_of_block HNM.out
      go_upto_region 5 with fail
      go_region
      go_wp2_with fail
      go_meet
      have hn := HN.out
      exact FiW.set HG.out HNM.out HBL.out HP.out (by omega) HFR.out (by omega) (by first | omega | (split <;> omega)) (by first | omega | (split <;> omega)) (by simp only [Cf.put, okf, Cf.at, lo, hi, Bool.and_eq_false_iff, decide_eq_false_iff_not]; first | omega | (split <;> omega))
  case rest =>
    obtain ⟨⟨g, s, rfl, hg, hfr⟩, hnm, hbl⟩ := hcut
    go_upto_if 37 with fail
    generalize (bits BinOp.and IntKind.u8 bi 4 == 4) = tb at *
    have HFR := Lib.hid hfr
    have HG := Lib.hid hg
    have HNM := Lib.hid hnm
    have HBL := Lib.hid hbl
    clear hfr hg hnm hbl
    go_cut [14] (fun s14 wx => FiW w w1.heap.size (w1.heap.size + 1) 2 s14 wx)
    case first =>
      cases tb
      · go_wp2_with fail
        go_meet
        exact ⟨⟨g, s, rfl, HG.out, HFR.out.weak⟩, HNM.out, HBL.out⟩
      · have xk : wc.cell? ⟨w1.heap.size + 1, 2, none⟩ = some (.string ⟨#[118, 101, 114, 116, 115]⟩) := cell_of HNM.out 2
        have ck : wc.cell? ⟨w1.heap.size, 2, none⟩ = some (.int .i64 g.c) := cell_of HG.out 2
        have zk : wc.frozen? ⟨w1.heap.size, 2, none⟩ = false := free_of HG.out 2
        have l1 := lt_of_block HG.out
        have l2 := lt_of_block HNM.out
        go_upto_region 7 with fail
        go_region
        go_wp2_with fail
        go_meet
        have hn := HN.out
        exact FiW.set HG.out HNM.out HBL.out HP.out (by omega) HFR.out (by omega) (by first | omega | (split <;> omega)) (by first | omega | (split <;> omega)) (by simp only [Cf.put, okf, Cf.at, lo, hi, Bool.and_eq_false_iff, decide_eq_false_iff_not]; first | omega | (split <;> omega))
    case rest =>
      obtain ⟨⟨g, s, rfl, hg, hfr⟩, hnm, hbl⟩ := hcut
      go_upto_if 45 with fail
      generalize (bits BinOp.and IntKind.u8 bi 2 == 2) = tb at *
      have HFR := Lib.hid hfr
      have HG := Lib.hid hg
      have HNM := Lib.hid hnm
      have HBL := Lib.hid hbl
      clear hfr hg hnm hbl
      go_cut [14] (fun s14 wx => FiW w w1.heap.size (w1.heap.size + 1) 1 s14 wx)
      case first =>
        cases tb
        · go_wp2_with fail
          go_meet
          exact ⟨⟨g, s, rfl, HG.out, HFR.out.weak⟩, HNM.out, HBL.out⟩
        · have xk : wc.cell? ⟨w1.heap.size + 1, 1, none⟩ = some (.string ⟨#[101, 100, 103, 101, 115]⟩) := cell_of HNM.out 1
          have ck : wc.cell? ⟨w1.heap.size, 1, none⟩ = some (.int .i64 g.b) := cell_of HG.out 1
          have zk : wc.frozen? ⟨w1.heap.size, 1, none⟩ = false := free_of HG.out 1
          have l1 := lt_of_block HG.out
          have l2 := lt_of_block HNM.out
          go_upto_region 9 with fail
          go_region
          go_wp2_with fail
          go_meet
          have hn := HN.out
          exact FiW.set HG.out HNM.out HBL.out HP.out (by omega) HFR.out (by omega) (by first | omega | (split <;> omega)) (by first | omega | (split <;> omega)) (by simp only [Cf.put, okf, Cf.at, lo, hi, Bool.and_eq_false_iff, decide_eq_false_iff_not]; first | omega | (split <;> omega))
      case rest =>
        obtain ⟨⟨g, s, rfl, hg, hfr⟩, hnm, hbl⟩ := hcut
        go_upto_if 53 with fail
        generalize (bits BinOp.and IntKind.u8 bi 1 == 1) = tb at *
        have HFR := Lib.hid hfr
        have HG := Lib.hid hg
        have HNM := Lib.hid hnm
        have HBL := Lib.hid hbl
        clear hfr hg hnm hbl
        go_cut [14] (fun s14 wx => FiW w w1.heap.size (w1.heap.size + 1) 0 s14 wx)
        case first =>
          cases tb
          · go_wp2_with fail
            go_meet
            exact ⟨⟨g, s, rfl, HG.out, HFR.out.weak⟩, HNM.out, HBL.out⟩
          · have xk : wc.cell? ⟨w1.heap.size + 1, 0, none⟩ = some (.string ⟨#[119, 105, 110, 100, 111, 119]⟩) := cell_of HNM.out 0
            have ck : wc.cell? ⟨w1.heap.size, 0, none⟩ = some (.int .i64 g.a) := cell_of HG.out 0
            have zk : wc.frozen? ⟨w1.heap.size, 0, none⟩ = false := free_of HG.out 0
            have l1 := lt_of_block HG.out
            have l2 := lt_of_block HNM.out
            go_upto_region 11 with fail
            go_region
            go_wp2_with fail
            go_meet
            have hn := HN.out
            exact FiW.set HG.out HNM.out HBL.out HP.out (by omega) HFR.out (by omega) (by first | omega | (split <;> omega)) (by first | omega | (split <;> omega)) (by simp only [Cf.put, okf, Cf.at, lo, hi, Bool.and_eq_false_iff, decide_eq_false_iff_not]; first | omega | (split <;> omega))
        case rest =>
          obtain ⟨⟨g, s, rfl, hg, hfr⟩, hnm, hbl⟩ := hcut
          obtain ⟨GO, GF, GC⟩ := hfr.last
          have HGO := Lib.hid GO
          have HGF := Lib.hid GF
          have HG := Lib.hid hg
          have HBL := Lib.hid hbl
          obtain ⟨c0, c1, c2, c3⟩ := At4.of hg
          clear HN GO GF hfr hg hnm
          have K29 := Lib.hid (fun w' (hb : Below w.heap.size w w') => pfield (HE.out.below hb) g HGO.out)
          have K27 := Lib.hid (fun w' (hb : Below w.heap.size w w') => pcheck (HE.out.below hb) g HGO.out)
          have WK := Lib.hid (fun w' (hb : Below w.heap.size w w') => works_any (HE.out.below hb))
          rw [HGF.out] at K29
          unfold chk at K27
          rcases GC with ⟨rfl, hw⟩ | ⟨hs, hw⟩
          · have T1 := Lib.hid (ptext_ok (HE.out.below HBL.out) g HGO.out hw)
            have PP := Lib.hid (fun w' (hb : Below w.heap.size w w') => pput_ok (HE.out.below hb) g HGO.out hw)
            rw [if_pos hw] at K27
            clear hw HE HGO HGF hbl
            generalize txt g 4 = tx at *
            go_wp2_with fail
            refine (T1.out).mono ?_; rintro e w2 ⟨rfl, hb2⟩
            have B2 := Lib.hid (HBL.out.trans (hb2.mono HBL.out.size))
            have G2 := Lib.hid ((hb2.block _ (lt_of_block HG.out)).trans HG.out)
            have P2 := Lib.hid (PP.out _ B2.out)
            clear hb2 T1 PP c0 c1 c2 c3
            obtain ⟨c0, c1, c2, c3⟩ := At4.of G2.out
            go_wp2_with fail
            refine (P2.out).mono ?_; rintro e w3 ⟨v, rfl, ho, hb3⟩
            have B3 := Lib.hid (B2.out.trans (hb3.mono B2.out.size))
            have G3 := Lib.hid ((hb3.block _ (lt_of_block G2.out)).trans G2.out)
            obtain ⟨a3, l3, q3, rfl⟩ : ∃ a l c, v = .slice a l c := by obtain ⟨a, c, e⟩ := own_shape ho.row; exact ⟨a, _, c, e⟩
            have Q29 := Lib.hid (K29.out _ B3.out)
            clear hb3 P2 c0 c1 c2 c3 ho K29
            obtain ⟨c0, c1, c2, c3⟩ := At4.of G3.out
            go_wp2_with fail
            refine (Q29.out).mono ?_; rintro e w4 ⟨rfl, hb4⟩
            have B4 := Lib.hid (B3.out.trans (hb4.mono B3.out.size))
            have G4 := Lib.hid ((hb4.block _ (lt_of_block G3.out)).trans G3.out)
            have Q27 := Lib.hid (K27.out _ B4.out)
            clear hb4 Q29 c0 c1 c2 c3 K27
            obtain ⟨c0, c1, c2, c3⟩ := At4.of G4.out
            go_wp2_with fail
            refine (Q27.out).mono ?_; rintro e w5 ⟨rfl, hb5⟩
            have B5 := Lib.hid (B4.out.trans (hb5.mono B4.out.size))
            have W5 := Lib.hid (WK.out _ B5.out)
            clear hb5 Q27 WK c0 c1 c2 c3
            go_wp2_with fail
            refine (W5.out).mono ?_; rintro e w9 ⟨rfl, hb9⟩
            have B9 := Lib.hid (B5.out.trans (hb9.mono B5.out.size))
            clear hb9 W5
            go_wp2_with fail
            go_ret
            exact ⟨rfl, B9.out⟩
          · have T1 := Lib.hid (ptext_bad (HE.out.below HBL.out) g HGO.out hw)
            have PP := Lib.hid (fun w' (hb : Below w.heap.size w w') => pput_bad (HE.out.below hb) g HGO.out hw)
            rw [if_neg hw] at K27
            have hem : s.isEmpty = false := by simpa using hs
            clear hw HE HGO HGF hbl hs
            go_wp2_with fail
            refine (T1.out).mono ?_; rintro e w2 ⟨rfl, hb2⟩
            have B2 := Lib.hid (HBL.out.trans (hb2.mono HBL.out.size))
            have G2 := Lib.hid ((hb2.block _ (lt_of_block HG.out)).trans HG.out)
            have P2 := Lib.hid (PP.out _ B2.out)
            clear hb2 T1 PP c0 c1 c2 c3
            obtain ⟨c0, c1, c2, c3⟩ := At4.of G2.out
            go_wp2_with fail
            refine (P2.out).mono ?_; rintro e w3 ⟨rfl, hb3⟩
            have B3 := Lib.hid (B2.out.trans (hb3.mono B2.out.size))
            have G3 := Lib.hid ((hb3.block _ (lt_of_block G2.out)).trans G2.out)
            have Q29 := Lib.hid (K29.out _ B3.out)
            clear hb3 P2 c0 c1 c2 c3 K29
            obtain ⟨c0, c1, c2, c3⟩ := At4.of G3.out
            go_wp2_with fail
            refine (Q29.out).mono ?_; rintro e w4 ⟨rfl, hb4⟩
            have B4 := Lib.hid (B3.out.trans (hb4.mono B3.out.size))
            have G4 := Lib.hid ((hb4.block _ (lt_of_block G3.out)).trans G3.out)
            have Q27 := Lib.hid (K27.out _ B4.out)
            clear hb4 Q29 c0 c1 c2 c3 K27
            obtain ⟨c0, c1, c2, c3⟩ := At4.of G4.out
            go_wp2_with fail
            refine (Q27.out).mono ?_; rintro e w5 ⟨rfl, hb5⟩
            have B5 := Lib.hid (B4.out.trans (hb5.mono B4.out.size))
            have W5 := Lib.hid (WK.out _ B5.out)
            clear hb5 Q27 WK c0 c1 c2 c3
            go_wp2_with fail
            refine (W5.out).mono ?_; rintro e w9 ⟨rfl, hb9⟩
            have B9 := Lib.hid (B5.out.trans (hb9.mono B5.out.size))
            clear hb9 W5
            go_wp2_with fail
            go_ret
            exact ⟨rfl, B9.out⟩
end Go.Proofs.YtabihdhgonnihaaDoor

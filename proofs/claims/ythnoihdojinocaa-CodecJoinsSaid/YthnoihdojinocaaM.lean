/- Check of the program. -/
import Derived.Test.YthnoihdojinocaaL
namespace Go.Proofs.Ythnoihdojinocaa
open Go.ChangeShapes Go.WideShapes Go.ChangeAt Go.RowKit
set_option linter.unusedVariables false
set_option linter.unusedSimpArgs false

theorem clrs_op : ∀ (fs : List Fd) (c : Cm), (fs.foldl clr c).op = c.op
  | [], _ => rfl
  | f :: fs, c => by rw [List.foldl_cons, clrs_op fs]; cases f <;> rfl
theorem lgs_long {c : Cm} {fs : List Fd} (hu : uses c.op = some fs) (hz : fs.foldl clr c = nul c.op) : lgs fs c false = decide (16384 < c.d.length ∨ 1024 < c.b.length) := by
  obtain ⟨op, u, v, w, t, d, b⟩ := c
  rcases (uses_some hu).2 with rfl | rfl | rfl | rfl | rfl | rfl | rfl | rfl | rfl <;> simp_all [clr, nul, lgs, lgF] <;> (first | rfl | omega | skip)
theorem kc_new (w : World) (c : Cm) (ad ab : Option Addr) (cd cb : Nat) :
    KC ((w.alloc (.cells (cmV c (.slice ad c.d.length cd) (.slice ab c.b.length cb)) 27)).alloc (.cells #[.bool false] 58)) (w.heap.size + 1) w.heap.size c false ((w.alloc (.cells (cmV c (.slice ad c.d.length cd) (.slice ab c.b.length cb)) 27)).alloc (.cells #[.bool false] 58)) := by
  refine ⟨⟨ad, cd, ab, cb, block_old (block_new _ _) _⟩, ?_, Touch.refl _ _, by omega⟩
  have := block_new (w.alloc (.cells (cmV c (.slice ad c.d.length cd) (.slice ab c.b.length cb)) 27)) (.cells #[.bool false] 58)
  rwa [show (w.alloc (.cells (cmV c (.slice ad c.d.length cd) (.slice ab c.b.length cb)) 27)).heap.size = w.heap.size + 1 by simp] at this
theorem kc_below {w W w2 : World} {c : Cm} {lg : Bool} (hb : Below w.heap.size w W) (h : KC W (w.heap.size + 1) w.heap.size c lg w2) : Below w.heap.size w w2 :=
  hb.trans (h.touch.below hb.size (fun k hk e => by omega))
theorem chk_no {c : Cm} {fs : List Fd} (hu : uses c.op = some fs) (h : fs.foldl clr c ≠ nul c.op) : chk c = 2 := by
  unfold chk; rw [hu]; simp only []; rw [if_neg h]
set_option maxRecDepth 100000 in
set_option maxHeartbeats 8000000 in
theorem pcheck_c {w : World} {c : Cm} {ad ab : Option Addr} {cd cb : Nat} (hd : c.d.length ≤ 1000000) (hb : c.b.length ≤ 1000000) :
    Calls Try.prog 19 #[.agg (cmV c (.slice ad c.d.length cd) (.slice ab c.b.length cb))] w fun e w' => e = .returned (.int .i64 (chk c)) ∧ Below w.heap.size w w' := by
  have KN := Lib.hid (kc_new w c ad ab cd cb)
  have B1 : Hid (Below w.heap.size w ((w.alloc (.cells (cmV c (.slice ad c.d.length cd) (.slice ab c.b.length cb)) 27)).alloc (.cells #[.bool false] 58))) := Lib.hid ((Below.alloc (Below.refl _ _) (Nat.le_refl _) _).alloc (by simp) _)
  have hnot : ∀ (x : Bool) (w : World), (Op.unary .not (.bool x)).run Try.prog w = .ok (.bool (!x)) w := fun _ _ => rfl
  cases hu : uses c.op with
  | none =>
    have hk : chk c = 2 := by unfold chk; rw [hu]
    rw [hk]
    have V := Lib.hid (pvc_no KN.out hu)
    clear KN hk hu
    unfold cmV at *
    go_enter Try.func19, Try.ntmps19
    go_wp2_with fail
    refine (V.out).mono ?_; rintro e w2 ⟨rfl, hk⟩
    have K := Lib.hid hk
    clear hk
    go_wp2_with fail
    go_ret
    exact ⟨rfl, kc_below B1.out K.out⟩
  | some fs =>
    have V := Lib.hid (pvc KN.out hu)
    have HU := Lib.hid hu
    have hop := clrs_op fs c
    have HCN := Lib.hid (fun h => chk_no hu h)
    have HLG := Lib.hid (fun h => lgs_long hu h)
    obtain ⟨R, hR⟩ : ∃ R, R = chk c := ⟨_, rfl⟩
    rw [← hR] at HCN ⊢
    have HR := Lib.hid hR
    have HDL : Hid ((fs.foldl clr c).d.length ≤ 1000000 ∧ (fs.foldl clr c).b.length ≤ 1000000) := Lib.hid (by
      rcases (uses_some hu).2 with rfl | rfl | rfl | rfl | rfl | rfl | rfl | rfl | rfl <;> simp [clr] <;> omega)
    clear KN hu hR
    generalize hc2 : fs.foldl clr c = c2 at *
    have HC2 := Lib.hid hc2
    generalize lgs fs c false = lg at *
    clear hc2
    unfold cmV at *
    go_enter Try.func19, Try.ntmps19
    go_wp2_with fail
    refine (V.out).mono ?_; rintro e w2 ⟨rfl, hk⟩
    have K := Lib.hid hk
    obtain ⟨ad2, cd2, ab2, cb2, hcs⟩ := hk.cells
    have x1 : w2.cell? ⟨w.heap.size, 1, none⟩ = some (.int .u64 (c2.u : Int)) := cell_of hcs 1
    have x2 : w2.cell? ⟨w.heap.size, 2, none⟩ = some (.int .u64 (c2.v : Int)) := cell_of hcs 2
    have x3 : w2.cell? ⟨w.heap.size, 3, none⟩ = some (.int .i64 c2.w) := cell_of hcs 3
    have x4 : w2.cell? ⟨w.heap.size, 4, none⟩ = some (.int .i64 c2.t) := cell_of hcs 4
    have x5 : w2.cell? ⟨w.heap.size, 5, none⟩ = some (.slice ad2 c2.d.length cd2) := cell_of hcs 5
    have x6 : w2.cell? ⟨w.heap.size, 6, none⟩ = some (.slice ab2 c2.b.length cb2) := cell_of hcs 6
    have xf : w2.cell? ⟨w.heap.size + 1, 0, none⟩ = some (.bool lg) := cell_of hk.flag 0
    have hdl := HDL.out
    obtain ⟨hdl, hbl⟩ := hdl
    clear hk hcs V
    have CN : Hid (¬ (c2.u = 0 ∧ c2.v = 0 ∧ c2.w = 0 ∧ c2.t = 0 ∧ c2.d.length = 0 ∧ c2.b.length = 0) → R = 2) := Lib.hid (fun hh => HCN.out (fun e => hh (by rw [e]; simp [nul])))
    have CY : Hid ((c2.u = 0 ∧ c2.v = 0 ∧ c2.w = 0 ∧ c2.t = 0 ∧ c2.d.length = 0 ∧ c2.b.length = 0) → R = if lg = true then 16 else 0) := Lib.hid (fun hh => by
      obtain ⟨h1, h2, h3, h4, h5, h6⟩ := hh
      have e : c2 = nul c.op := by
        obtain ⟨op, u, v, w, t, d, b⟩ := c2
        simp only [List.length_eq_zero_iff] at h1 h2 h3 h4 h5 h6 hop
        subst h1 h2 h3 h4 h5 h6 hop
        rfl
      have hlg := HLG.out e
      rw [HR.out]
      unfold chk
      rw [HU.out]
      simp only []
      rw [HC2.out, if_pos e, hlg]
      simp)
    clear HCN HLG HR HU HC2 HDL hop
    generalize c2.u = u at *
    generalize c2.v = v at *
    generalize c2.w = wz at *
    generalize c2.t = t at *
    generalize c2.d.length = dl at *
    generalize c2.b.length = bl at *
    by_cases h1 : u = 0
    case neg =>
      have CH := Lib.hid (CN.out (fun h => h1 h.1))
      have e1 : ((u : Int) == 0) = false := by simp; omega
      have e2 : ((u : Int) != 0) = true := by simp; omega
      clear CN CY h1
      go_wp2_with fail
      go_ret
      exact ⟨ret_int CH.out.symm, kc_below B1.out K.out⟩
    by_cases h2 : v = 0
    case neg =>
      have CH := Lib.hid (CN.out (fun h => h2 h.2.1))
      have e1 : ((v : Int) == 0) = false := by simp; omega
      have e2 : ((v : Int) != 0) = true := by simp; omega
      clear CN CY h2
      subst h1
      go_wp2_with fail
      go_ret
      exact ⟨ret_int CH.out.symm, kc_below B1.out K.out⟩
    by_cases h3 : wz = 0
    case neg =>
      have CH := Lib.hid (CN.out (fun h => h3 h.2.2.1))
      have e1 : (wz == 0) = false := by simp; omega
      have e2 : (wz != 0) = true := by simp; omega
      clear CN CY h3
      subst h1 h2
      go_wp2_with fail
      go_ret
      exact ⟨ret_int CH.out.symm, kc_below B1.out K.out⟩
    by_cases h4 : t = 0
    case neg =>
      have CH := Lib.hid (CN.out (fun h => h4 h.2.2.2.1))
      have e1 : (t == 0) = false := by simp; omega
      have e2 : (t != 0) = true := by simp; omega
      clear CN CY h4
      subst h1 h2 h3
      go_wp2_with fail
      go_ret
      exact ⟨ret_int CH.out.symm, kc_below B1.out K.out⟩
    by_cases h5 : dl = 0
    case neg =>
      have CH := Lib.hid (CN.out (fun h => h5 h.2.2.2.2.1))
      have e1 : decide (0 < (dl : Int)) = true := by simp; omega
      have e2 : decide (0 < dl) = true := by simp; omega
      clear CN CY h5
      subst h1 h2 h3 h4
      go_wp2_with fail
      go_ret
      exact ⟨ret_int CH.out.symm, kc_below B1.out K.out⟩
    by_cases h6 : bl = 0
    case neg =>
      have CH := Lib.hid (CN.out (fun h => h6 h.2.2.2.2.2))
      have e1 : decide (0 < (bl : Int)) = true := by simp; omega
      have e2 : decide (0 < bl) = true := by simp; omega
      clear CN CY h6
      subst h1 h2 h3 h4 h5
      go_wp2_with fail
      go_ret
      exact ⟨ret_int CH.out.symm, kc_below B1.out K.out⟩
    have CH := Lib.hid (CY.out ⟨h1, h2, h3, h4, h5, h6⟩)
    clear CN CY
    subst h1 h2 h3 h4 h5 h6
    cases lg
    · go_wp2_with fail
      go_ret
      exact ⟨ret_int (by rw [CH.out]; rfl), kc_below B1.out K.out⟩
    · go_wp2_with fail
      go_ret
      exact ⟨ret_int (by rw [CH.out]; rfl), kc_below B1.out K.out⟩
end Go.Proofs.Ythnoihdojinocaa

/- The document's Check. -/
import Derived.Test.YthnoihdojinocaaZa
import Derived.Test.YthnoihdojinocaaJ
import Derived.Deep.DeepCutAuto
namespace Go.Proofs.Ythnoihdojinocaa
open Go.ChangeShapes Go.WideShapes Go.ChangeAt Go.RowKit
set_option linter.unusedVariables false
set_option linter.unusedSimpArgs false

theorem rhas_in {s : ByteArray} {fs : List Fd} (h : Str s fs) (hl : fs.length ≤ 1000) {f : Fd} (hm : f ∈ fs) (w : World) : Calls Try.prog 41 #[.string s, .int .u8 (lt f : Nat)] w fun e w' => e = .returned (.bool true) ∧ w = w' := by
  have := rhas h hl f w
  rwa [decide_eq_true hm] at this
theorem rhas_no {s : ByteArray} {fs : List Fd} (h : Str s fs) (hl : fs.length ≤ 1000) {f : Fd} (hm : f ∉ fs) (w : World) : Calls Try.prog 41 #[.string s, .int .u8 (lt f : Nat)] w fun e w' => e = .returned (.bool false) ∧ w = w' := by
  have := rhas h hl f w
  rwa [decide_eq_false hm] at this
/-- The fields that are not used are zero. -/
def clean4 (u v : Nat) (w t : Int) (fs : List Fd) : Prop := (u = 0 ∨ Fd.u ∈ fs) ∧ (v = 0 ∨ Fd.v ∈ fs) ∧ (w = 0 ∨ Fd.w ∈ fs) ∧ (t = 0 ∨ Fd.t ∈ fs)
def clean2 (dl bl : Nat) (fs : List Fd) : Prop := (dl = 0 ∨ Fd.d ∈ fs) ∧ (bl = 0 ∨ Fd.b ∈ fs)
theorem clean_iff {c : Cm} {fs : List Fd} (hu : uses c.op = some fs) : fs.foldl clr c = nul c.op ↔ (clean4 c.u c.v c.w c.t fs ∧ clean2 c.d.length c.b.length fs) := by
  obtain ⟨op, u, v, w, t, d, b⟩ := c
  rcases (uses_some hu).2 with rfl | rfl | rfl | rfl | rfl | rfl | rfl | rfl | rfl <;> simp [clr, nul, clean4, clean2, and_assoc]
theorem chk_clean {c : Cm} {fs : List Fd} (hu : uses c.op = some fs) (h : clean4 c.u c.v c.w c.t fs) (h2 : clean2 c.d.length c.b.length fs) : chk c = if 16384 < c.d.length ∨ 1024 < c.b.length then 16 else 0 := by
  unfold chk; rw [hu]; simp only []; rw [if_pos ((clean_iff hu).2 ⟨h, h2⟩)]
theorem chk_dirty {c : Cm} {fs : List Fd} (hu : uses c.op = some fs) (h : ¬ (clean4 c.u c.v c.w c.t fs ∧ clean2 c.d.length c.b.length fs)) : chk c = 2 := by
  unfold chk; rw [hu]; simp only []; rw [if_neg (fun e => h ((clean_iff hu).1 e))]
theorem uses_len {op : Int} {fs : List Fd} (h : uses op = some fs) : fs.length ≤ 1000 := by
  rcases (uses_some h).2 with rfl | rfl | rfl | rfl | rfl | rfl | rfl | rfl | rfl <;> simp
theorem bool_of (p : Prop) : ∃ q : Bool, (p → q = false) ∧ (¬ p → q = true) := by
  by_cases h : p
  · exact ⟨false, fun _ => rfl, fun k => absurd h k⟩
  · exact ⟨true, fun k => absurd k h, fun _ => rfl⟩
set_option maxRecDepth 100000 in
set_option maxHeartbeats 40000000 in
theorem rcheck {w : World} {c : Cm} {ad ab : Option Addr} {cd cb : Nat} (hd : c.d.length ≤ 1000000) (hb : c.b.length ≤ 1000000) :
    Calls Try.prog 20 #[.agg (cmV c (.slice ad c.d.length cd) (.slice ab c.b.length cb))] w fun e w' => e = .returned (.int .i64 (chk c)) ∧ Below w.heap.size w w' := by
  have B1 : Hid (Below w.heap.size w (w.alloc (.cells (cmV c (.slice ad c.d.length cd) (.slice ab c.b.length cb)) 27))) := Lib.hid (Below.alloc (Below.refl _ _) (Nat.le_refl _) _)
  have hnot : ∀ (x : Bool) (w : World), (Op.unary .not (.bool x)).run Try.prog w = .ok (.bool (!x)) w := fun _ _ => rfl
  have U := Lib.hid (ruses c.op (w.alloc (.cells (cmV c (.slice ad c.d.length cd) (.slice ab c.b.length cb)) 27)))
  cases hu : uses c.op with
  | none =>
    have hk : chk c = 2 := by unfold chk; rw [hu]
    rw [hk]
    rw [hu] at U
    clear hk hu
    unfold cmV at *
    go_enter Try.func20, Try.ntmps20
    go_wp2_with fail
    refine (U.out).mono ?_; rintro e w2 ⟨⟨s, rfl, hS⟩, rfl⟩
    go_wp2_with fail
    go_ret
    exact ⟨rfl, B1.out⟩
  | some fs =>
    rw [hu] at U
    have hfl := uses_len hu
    have CN := Lib.hid (fun h => chk_dirty hu h)
    have CY := Lib.hid (fun h h2 => chk_clean hu h h2)
    generalize chk c = R at *
    clear hu
    generalize c.d.length = dl at *
    generalize c.b.length = bl at *
    unfold cmV at *
    generalize c.u = u at *
    generalize c.v = v at *
    generalize c.w = wz at *
    generalize c.t = t at *
    generalize c.op = op at *
    obtain ⟨q1, hq1, hq2⟩ := bool_of (clean4 u v wz t fs)
    obtain ⟨q3, hq3, hq4⟩ := bool_of (clean2 dl bl fs)
    have Q1 := Lib.hid hq1; have Q2 := Lib.hid hq2; have Q3 := Lib.hid hq3; have Q4 := Lib.hid hq4
    clear hq1 hq2 hq3 hq4
    generalize hW1 : w.alloc (.cells #[.int .i64 op, .int .u64 (u : Int), .int .u64 (v : Int), .int .i64 wz, .int .i64 t, .slice ad dl cd, .slice ab bl cb] 27) = W1 at *
    have x1 : W1.cell? ⟨w.heap.size, 1, none⟩ = some (.int .u64 (u : Int)) := by rw [← hW1]; exact cell_of (block_new _ _) 1
    have x2 : W1.cell? ⟨w.heap.size, 2, none⟩ = some (.int .u64 (v : Int)) := by rw [← hW1]; exact cell_of (block_new _ _) 2
    have x3 : W1.cell? ⟨w.heap.size, 3, none⟩ = some (.int .i64 wz) := by rw [← hW1]; exact cell_of (block_new _ _) 3
    have x4 : W1.cell? ⟨w.heap.size, 4, none⟩ = some (.int .i64 t) := by rw [← hW1]; exact cell_of (block_new _ _) 4
    have x5 : W1.cell? ⟨w.heap.size, 5, none⟩ = some (.slice ad dl cd) := by rw [← hW1]; exact cell_of (block_new _ _) 5
    have x6 : W1.cell? ⟨w.heap.size, 6, none⟩ = some (.slice ab bl cb) := by rw [← hW1]; exact cell_of (block_new _ _) 6
    have HW1 := Lib.hid hW1
    clear hW1
    go_enter Try.func20, Try.ntmps20
    go_wp2_with fail
    rw [HW1.out]
    refine (U.out).mono ?_; rintro e w2 ⟨⟨s, rfl, hS⟩, rfl⟩
    have S := Lib.hid hS
    clear hS U
    go_upto_region 2 with fail
    go_cut [52] (fun s52 wx => wx = W1 ∧ s52 = .bool q1)
    case first =>
      by_cases z0 : u = 0
      · have g0a : ((u : Int) == 0) = true := by simp; omega
        have g0b : ((u : Int) != 0) = false := by simp; omega
        have Z0 := Lib.hid z0; clear z0
        by_cases z1 : v = 0
        · have g1a : ((v : Int) == 0) = true := by simp; omega
          have g1b : ((v : Int) != 0) = false := by simp; omega
          have Z1 := Lib.hid z1; clear z1
          by_cases z2 : wz = 0
          · have g2a : (wz == 0) = true := by simp; omega
            have g2b : (wz != 0) = false := by simp; omega
            have Z2 := Lib.hid z2; clear z2
            by_cases z3 : t = 0
            · have g3a : (t == 0) = true := by simp; omega
              have g3b : (t != 0) = false := by simp; omega
              have Z3 := Lib.hid z3; clear z3
              have HQ := Q1.out ⟨Or.inl Z0.out, Or.inl Z1.out, Or.inl Z2.out, Or.inl Z3.out⟩
              go_wp2_with fail
              go_meet
              exact ⟨rfl, by rw [HQ]⟩
            · have g3a : (t == 0) = false := by simp; omega
              have g3b : (t != 0) = true := by simp; omega
              go_wp2_with fail
              by_cases m3 : Fd.t ∈ fs
              · refine (rhas_in S.out hfl m3 _).mono ?_; rintro e w6 ⟨rfl, rfl⟩
                have Z3 := Lib.hid m3; clear m3 z3
                have HQ := Q1.out ⟨Or.inl Z0.out, Or.inl Z1.out, Or.inl Z2.out, Or.inr Z3.out⟩
                go_wp2_with fail
                go_meet
                exact ⟨rfl, by rw [HQ]⟩
              · refine (rhas_no S.out hfl m3 _).mono ?_; rintro e w6 ⟨rfl, rfl⟩
                have HQ := Q2.out (fun h => h.2.2.2.elim z3 m3)
                clear z3 m3
                go_wp2_with fail
                go_meet
                exact ⟨rfl, by rw [HQ]⟩
          · have g2a : (wz == 0) = false := by simp; omega
            have g2b : (wz != 0) = true := by simp; omega
            go_wp2_with fail
            by_cases m2 : Fd.w ∈ fs
            · refine (rhas_in S.out hfl m2 _).mono ?_; rintro e w5 ⟨rfl, rfl⟩
              have Z2 := Lib.hid m2; clear m2 z2
              by_cases z3 : t = 0
              · have g3a : (t == 0) = true := by simp; omega
                have g3b : (t != 0) = false := by simp; omega
                have Z3 := Lib.hid z3; clear z3
                have HQ := Q1.out ⟨Or.inl Z0.out, Or.inl Z1.out, Or.inr Z2.out, Or.inl Z3.out⟩
                go_wp2_with fail
                go_meet
                exact ⟨rfl, by rw [HQ]⟩
              · have g3a : (t == 0) = false := by simp; omega
                have g3b : (t != 0) = true := by simp; omega
                go_wp2_with fail
                by_cases m3 : Fd.t ∈ fs
                · refine (rhas_in S.out hfl m3 _).mono ?_; rintro e w6 ⟨rfl, rfl⟩
                  have Z3 := Lib.hid m3; clear m3 z3
                  have HQ := Q1.out ⟨Or.inl Z0.out, Or.inl Z1.out, Or.inr Z2.out, Or.inr Z3.out⟩
                  go_wp2_with fail
                  go_meet
                  exact ⟨rfl, by rw [HQ]⟩
                · refine (rhas_no S.out hfl m3 _).mono ?_; rintro e w6 ⟨rfl, rfl⟩
                  have HQ := Q2.out (fun h => h.2.2.2.elim z3 m3)
                  clear z3 m3
                  go_wp2_with fail
                  go_meet
                  exact ⟨rfl, by rw [HQ]⟩
            · refine (rhas_no S.out hfl m2 _).mono ?_; rintro e w5 ⟨rfl, rfl⟩
              have HQ := Q2.out (fun h => h.2.2.1.elim z2 m2)
              clear z2 m2
              go_wp2_with fail
              go_meet
              exact ⟨rfl, by rw [HQ]⟩
        · have g1a : ((v : Int) == 0) = false := by simp; omega
          have g1b : ((v : Int) != 0) = true := by simp; omega
          go_wp2_with fail
          by_cases m1 : Fd.v ∈ fs
          · refine (rhas_in S.out hfl m1 _).mono ?_; rintro e w4 ⟨rfl, rfl⟩
            have Z1 := Lib.hid m1; clear m1 z1
            by_cases z2 : wz = 0
            · have g2a : (wz == 0) = true := by simp; omega
              have g2b : (wz != 0) = false := by simp; omega
              have Z2 := Lib.hid z2; clear z2
              by_cases z3 : t = 0
              · have g3a : (t == 0) = true := by simp; omega
                have g3b : (t != 0) = false := by simp; omega
                have Z3 := Lib.hid z3; clear z3
                have HQ := Q1.out ⟨Or.inl Z0.out, Or.inr Z1.out, Or.inl Z2.out, Or.inl Z3.out⟩
                go_wp2_with fail
                go_meet
                exact ⟨rfl, by rw [HQ]⟩
              · have g3a : (t == 0) = false := by simp; omega
                have g3b : (t != 0) = true := by simp; omega
                go_wp2_with fail
                by_cases m3 : Fd.t ∈ fs
                · refine (rhas_in S.out hfl m3 _).mono ?_; rintro e w6 ⟨rfl, rfl⟩
                  have Z3 := Lib.hid m3; clear m3 z3
                  have HQ := Q1.out ⟨Or.inl Z0.out, Or.inr Z1.out, Or.inl Z2.out, Or.inr Z3.out⟩
                  go_wp2_with fail
                  go_meet
                  exact ⟨rfl, by rw [HQ]⟩
                · refine (rhas_no S.out hfl m3 _).mono ?_; rintro e w6 ⟨rfl, rfl⟩
                  have HQ := Q2.out (fun h => h.2.2.2.elim z3 m3)
                  clear z3 m3
                  go_wp2_with fail
                  go_meet
                  exact ⟨rfl, by rw [HQ]⟩
            · have g2a : (wz == 0) = false := by simp; omega
              have g2b : (wz != 0) = true := by simp; omega
              go_wp2_with fail
              by_cases m2 : Fd.w ∈ fs
              · refine (rhas_in S.out hfl m2 _).mono ?_; rintro e w5 ⟨rfl, rfl⟩
                have Z2 := Lib.hid m2; clear m2 z2
                by_cases z3 : t = 0
                · have g3a : (t == 0) = true := by simp; omega
                  have g3b : (t != 0) = false := by simp; omega
                  have Z3 := Lib.hid z3; clear z3
                  have HQ := Q1.out ⟨Or.inl Z0.out, Or.inr Z1.out, Or.inr Z2.out, Or.inl Z3.out⟩
                  go_wp2_with fail
                  go_meet
                  exact ⟨rfl, by rw [HQ]⟩
                · have g3a : (t == 0) = false := by simp; omega
                  have g3b : (t != 0) = true := by simp; omega
                  go_wp2_with fail
                  by_cases m3 : Fd.t ∈ fs
                  · refine (rhas_in S.out hfl m3 _).mono ?_; rintro e w6 ⟨rfl, rfl⟩
                    have Z3 := Lib.hid m3; clear m3 z3
                    have HQ := Q1.out ⟨Or.inl Z0.out, Or.inr Z1.out, Or.inr Z2.out, Or.inr Z3.out⟩
                    go_wp2_with fail
                    go_meet
                    exact ⟨rfl, by rw [HQ]⟩
                  · refine (rhas_no S.out hfl m3 _).mono ?_; rintro e w6 ⟨rfl, rfl⟩
                    have HQ := Q2.out (fun h => h.2.2.2.elim z3 m3)
                    clear z3 m3
                    go_wp2_with fail
                    go_meet
                    exact ⟨rfl, by rw [HQ]⟩
              · refine (rhas_no S.out hfl m2 _).mono ?_; rintro e w5 ⟨rfl, rfl⟩
                have HQ := Q2.out (fun h => h.2.2.1.elim z2 m2)
                clear z2 m2
                go_wp2_with fail
                go_meet
                exact ⟨rfl, by rw [HQ]⟩
          · refine (rhas_no S.out hfl m1 _).mono ?_; rintro e w4 ⟨rfl, rfl⟩
            have HQ := Q2.out (fun h => h.2.1.elim z1 m1)
            clear z1 m1
            go_wp2_with fail
            go_meet
            exact ⟨rfl, by rw [HQ]⟩
      · have g0a : ((u : Int) == 0) = false := by simp; omega
        have g0b : ((u : Int) != 0) = true := by simp; omega
        go_wp2_with fail
        by_cases m0 : Fd.u ∈ fs
        · refine (rhas_in S.out hfl m0 _).mono ?_; rintro e w3 ⟨rfl, rfl⟩
          have Z0 := Lib.hid m0; clear m0 z0
          by_cases z1 : v = 0
          · have g1a : ((v : Int) == 0) = true := by simp; omega
            have g1b : ((v : Int) != 0) = false := by simp; omega
            have Z1 := Lib.hid z1; clear z1
            by_cases z2 : wz = 0
            · have g2a : (wz == 0) = true := by simp; omega
              have g2b : (wz != 0) = false := by simp; omega
              have Z2 := Lib.hid z2; clear z2
              by_cases z3 : t = 0
              · have g3a : (t == 0) = true := by simp; omega
                have g3b : (t != 0) = false := by simp; omega
                have Z3 := Lib.hid z3; clear z3
                have HQ := Q1.out ⟨Or.inr Z0.out, Or.inl Z1.out, Or.inl Z2.out, Or.inl Z3.out⟩
                go_wp2_with fail
                go_meet
                exact ⟨rfl, by rw [HQ]⟩
              · have g3a : (t == 0) = false := by simp; omega
                have g3b : (t != 0) = true := by simp; omega
                go_wp2_with fail
                by_cases m3 : Fd.t ∈ fs
                · refine (rhas_in S.out hfl m3 _).mono ?_; rintro e w6 ⟨rfl, rfl⟩
                  have Z3 := Lib.hid m3; clear m3 z3
                  have HQ := Q1.out ⟨Or.inr Z0.out, Or.inl Z1.out, Or.inl Z2.out, Or.inr Z3.out⟩
                  go_wp2_with fail
                  go_meet
                  exact ⟨rfl, by rw [HQ]⟩
                · refine (rhas_no S.out hfl m3 _).mono ?_; rintro e w6 ⟨rfl, rfl⟩
                  have HQ := Q2.out (fun h => h.2.2.2.elim z3 m3)
                  clear z3 m3
                  go_wp2_with fail
                  go_meet
                  exact ⟨rfl, by rw [HQ]⟩
            · have g2a : (wz == 0) = false := by simp; omega
              have g2b : (wz != 0) = true := by simp; omega
              go_wp2_with fail
              by_cases m2 : Fd.w ∈ fs
              · refine (rhas_in S.out hfl m2 _).mono ?_; rintro e w5 ⟨rfl, rfl⟩
                have Z2 := Lib.hid m2; clear m2 z2
                by_cases z3 : t = 0
                · have g3a : (t == 0) = true := by simp; omega
                  have g3b : (t != 0) = false := by simp; omega
                  have Z3 := Lib.hid z3; clear z3
                  have HQ := Q1.out ⟨Or.inr Z0.out, Or.inl Z1.out, Or.inr Z2.out, Or.inl Z3.out⟩
                  go_wp2_with fail
                  go_meet
                  exact ⟨rfl, by rw [HQ]⟩
                · have g3a : (t == 0) = false := by simp; omega
                  have g3b : (t != 0) = true := by simp; omega
                  go_wp2_with fail
                  by_cases m3 : Fd.t ∈ fs
                  · refine (rhas_in S.out hfl m3 _).mono ?_; rintro e w6 ⟨rfl, rfl⟩
                    have Z3 := Lib.hid m3; clear m3 z3
                    have HQ := Q1.out ⟨Or.inr Z0.out, Or.inl Z1.out, Or.inr Z2.out, Or.inr Z3.out⟩
                    go_wp2_with fail
                    go_meet
                    exact ⟨rfl, by rw [HQ]⟩
                  · refine (rhas_no S.out hfl m3 _).mono ?_; rintro e w6 ⟨rfl, rfl⟩
                    have HQ := Q2.out (fun h => h.2.2.2.elim z3 m3)
                    clear z3 m3
                    go_wp2_with fail
                    go_meet
                    exact ⟨rfl, by rw [HQ]⟩
              · refine (rhas_no S.out hfl m2 _).mono ?_; rintro e w5 ⟨rfl, rfl⟩
                have HQ := Q2.out (fun h => h.2.2.1.elim z2 m2)
                clear z2 m2
                go_wp2_with fail
                go_meet
                exact ⟨rfl, by rw [HQ]⟩
          · have g1a : ((v : Int) == 0) = false := by simp; omega
            have g1b : ((v : Int) != 0) = true := by simp; omega
            go_wp2_with fail
            by_cases m1 : Fd.v ∈ fs
            · refine (rhas_in S.out hfl m1 _).mono ?_; rintro e w4 ⟨rfl, rfl⟩
              have Z1 := Lib.hid m1; clear m1 z1
              by_cases z2 : wz = 0
              · have g2a : (wz == 0) = true := by simp; omega
                have g2b : (wz != 0) = false := by simp; omega
                have Z2 := Lib.hid z2; clear z2
                by_cases z3 : t = 0
                · have g3a : (t == 0) = true := by simp; omega
                  have g3b : (t != 0) = false := by simp; omega
                  have Z3 := Lib.hid z3; clear z3
                  have HQ := Q1.out ⟨Or.inr Z0.out, Or.inr Z1.out, Or.inl Z2.out, Or.inl Z3.out⟩
                  go_wp2_with fail
                  go_meet
                  exact ⟨rfl, by rw [HQ]⟩
                · have g3a : (t == 0) = false := by simp; omega
                  have g3b : (t != 0) = true := by simp; omega
                  go_wp2_with fail
                  by_cases m3 : Fd.t ∈ fs
                  · refine (rhas_in S.out hfl m3 _).mono ?_; rintro e w6 ⟨rfl, rfl⟩
                    have Z3 := Lib.hid m3; clear m3 z3
                    have HQ := Q1.out ⟨Or.inr Z0.out, Or.inr Z1.out, Or.inl Z2.out, Or.inr Z3.out⟩
                    go_wp2_with fail
                    go_meet
                    exact ⟨rfl, by rw [HQ]⟩
                  · refine (rhas_no S.out hfl m3 _).mono ?_; rintro e w6 ⟨rfl, rfl⟩
                    have HQ := Q2.out (fun h => h.2.2.2.elim z3 m3)
                    clear z3 m3
                    go_wp2_with fail
                    go_meet
                    exact ⟨rfl, by rw [HQ]⟩
              · have g2a : (wz == 0) = false := by simp; omega
                have g2b : (wz != 0) = true := by simp; omega
                go_wp2_with fail
                by_cases m2 : Fd.w ∈ fs
                · refine (rhas_in S.out hfl m2 _).mono ?_; rintro e w5 ⟨rfl, rfl⟩
                  have Z2 := Lib.hid m2; clear m2 z2
                  by_cases z3 : t = 0
                  · have g3a : (t == 0) = true := by simp; omega
                    have g3b : (t != 0) = false := by simp; omega
                    have Z3 := Lib.hid z3; clear z3
                    have HQ := Q1.out ⟨Or.inr Z0.out, Or.inr Z1.out, Or.inr Z2.out, Or.inl Z3.out⟩
                    go_wp2_with fail
                    go_meet
                    exact ⟨rfl, by rw [HQ]⟩
                  · have g3a : (t == 0) = false := by simp; omega
                    have g3b : (t != 0) = true := by simp; omega
                    go_wp2_with fail
                    by_cases m3 : Fd.t ∈ fs
                    · refine (rhas_in S.out hfl m3 _).mono ?_; rintro e w6 ⟨rfl, rfl⟩
                      have Z3 := Lib.hid m3; clear m3 z3
                      have HQ := Q1.out ⟨Or.inr Z0.out, Or.inr Z1.out, Or.inr Z2.out, Or.inr Z3.out⟩
                      go_wp2_with fail
                      go_meet
                      exact ⟨rfl, by rw [HQ]⟩
                    · refine (rhas_no S.out hfl m3 _).mono ?_; rintro e w6 ⟨rfl, rfl⟩
                      have HQ := Q2.out (fun h => h.2.2.2.elim z3 m3)
                      clear z3 m3
                      go_wp2_with fail
                      go_meet
                      exact ⟨rfl, by rw [HQ]⟩
                · refine (rhas_no S.out hfl m2 _).mono ?_; rintro e w5 ⟨rfl, rfl⟩
                  have HQ := Q2.out (fun h => h.2.2.1.elim z2 m2)
                  clear z2 m2
                  go_wp2_with fail
                  go_meet
                  exact ⟨rfl, by rw [HQ]⟩
            · refine (rhas_no S.out hfl m1 _).mono ?_; rintro e w4 ⟨rfl, rfl⟩
              have HQ := Q2.out (fun h => h.2.1.elim z1 m1)
              clear z1 m1
              go_wp2_with fail
              go_meet
              exact ⟨rfl, by rw [HQ]⟩
        · refine (rhas_no S.out hfl m0 _).mono ?_; rintro e w3 ⟨rfl, rfl⟩
          have HQ := Q2.out (fun h => h.1.elim z0 m0)
          clear z0 m0
          go_wp2_with fail
          go_meet
          exact ⟨rfl, by rw [HQ]⟩
    case rest =>
      obtain ⟨rfl, rfl⟩ := hcut
      by_cases k1 : clean4 u v wz t fs
      · have hq := Q1.out k1
        subst hq
        have K1 := Lib.hid k1
        clear k1 Q1 Q2
        go_upto_region 4 with fail
        go_cut [72] (fun s72 wy => wy = wc ∧ s72 = .bool q3)
        case first =>
          by_cases z4 : dl = 0
          · have g4a : decide ((0 : Int) < (dl : Int)) = false := by simp; omega
            have g4b : decide (0 < dl) = false := by simp; omega
            have Z4 := Lib.hid z4; clear z4
            by_cases z5 : bl = 0
            · have g5a : decide ((0 : Int) < (bl : Int)) = false := by simp; omega
              have g5b : decide (0 < bl) = false := by simp; omega
              have Z5 := Lib.hid z5; clear z5
              have HQ := Q3.out ⟨Or.inl Z4.out, Or.inl Z5.out⟩
              go_wp2_with fail
              go_meet
              exact ⟨rfl, by rw [HQ]⟩
            · have g5a : decide ((0 : Int) < (bl : Int)) = true := by simp; omega
              have g5b : decide (0 < bl) = true := by simp; omega
              go_wp2_with fail
              by_cases m5 : Fd.b ∈ fs
              · refine (rhas_in S.out hfl m5 _).mono ?_; rintro e w8 ⟨rfl, rfl⟩
                have Z5 := Lib.hid m5; clear m5 z5
                have HQ := Q3.out ⟨Or.inl Z4.out, Or.inr Z5.out⟩
                go_wp2_with fail
                go_meet
                exact ⟨rfl, by rw [HQ]⟩
              · refine (rhas_no S.out hfl m5 _).mono ?_; rintro e w8 ⟨rfl, rfl⟩
                have HQ := Q4.out (fun h => h.2.elim z5 m5)
                clear z5 m5
                go_wp2_with fail
                go_meet
                exact ⟨rfl, by rw [HQ]⟩
          · have g4a : decide ((0 : Int) < (dl : Int)) = true := by simp; omega
            have g4b : decide (0 < dl) = true := by simp; omega
            go_wp2_with fail
            by_cases m4 : Fd.d ∈ fs
            · refine (rhas_in S.out hfl m4 _).mono ?_; rintro e w7 ⟨rfl, rfl⟩
              have Z4 := Lib.hid m4; clear m4 z4
              by_cases z5 : bl = 0
              · have g5a : decide ((0 : Int) < (bl : Int)) = false := by simp; omega
                have g5b : decide (0 < bl) = false := by simp; omega
                have Z5 := Lib.hid z5; clear z5
                have HQ := Q3.out ⟨Or.inr Z4.out, Or.inl Z5.out⟩
                go_wp2_with fail
                go_meet
                exact ⟨rfl, by rw [HQ]⟩
              · have g5a : decide ((0 : Int) < (bl : Int)) = true := by simp; omega
                have g5b : decide (0 < bl) = true := by simp; omega
                go_wp2_with fail
                by_cases m5 : Fd.b ∈ fs
                · refine (rhas_in S.out hfl m5 _).mono ?_; rintro e w8 ⟨rfl, rfl⟩
                  have Z5 := Lib.hid m5; clear m5 z5
                  have HQ := Q3.out ⟨Or.inr Z4.out, Or.inr Z5.out⟩
                  go_wp2_with fail
                  go_meet
                  exact ⟨rfl, by rw [HQ]⟩
                · refine (rhas_no S.out hfl m5 _).mono ?_; rintro e w8 ⟨rfl, rfl⟩
                  have HQ := Q4.out (fun h => h.2.elim z5 m5)
                  clear z5 m5
                  go_wp2_with fail
                  go_meet
                  exact ⟨rfl, by rw [HQ]⟩
            · refine (rhas_no S.out hfl m4 _).mono ?_; rintro e w7 ⟨rfl, rfl⟩
              have HQ := Q4.out (fun h => h.1.elim z4 m4)
              clear z4 m4
              go_wp2_with fail
              go_meet
              exact ⟨rfl, by rw [HQ]⟩
        case rest =>
          obtain ⟨rfl, rfl⟩ := hcut
          by_cases k2 : clean2 dl bl fs
          · have hq := Q3.out k2
            subst hq
            have CH := Lib.hid (CY.out K1.out k2)
            clear k2 Q3 Q4 CN CY
            by_cases l1 : 16384 < dl
            · have HR := Lib.hid (CH.out.trans (if_pos (Or.inl l1)))
              clear CH
              have f1 : decide ((16384 : Int) < (dl : Int)) = true := by simp; omega
              have f2 : decide (16384 < dl) = true := by simp; omega
              go_wp2_with fail
              go_ret
              exact ⟨ret_int HR.out.symm, B1.out⟩
            · have f1 : decide ((16384 : Int) < (dl : Int)) = false := by simp; omega
              have f2 : decide (16384 < dl) = false := by simp; omega
              by_cases l2 : 1024 < bl
              · have HR := Lib.hid (CH.out.trans (if_pos (Or.inr l2)))
                clear CH
                have f3 : decide ((1024 : Int) < (bl : Int)) = true := by simp; omega
                have f4 : decide (1024 < bl) = true := by simp; omega
                go_wp2_with fail
                go_ret
                exact ⟨ret_int HR.out.symm, B1.out⟩
              · have HR := Lib.hid (CH.out.trans (if_neg (by omega)))
                clear CH
                have f3 : decide ((1024 : Int) < (bl : Int)) = false := by simp; omega
                have f4 : decide (1024 < bl) = false := by simp; omega
                go_wp2_with fail
                go_ret
                exact ⟨ret_int HR.out.symm, B1.out⟩
          · have hq := Q4.out k2
            subst hq
            have HR := Lib.hid (CN.out (fun h => k2 h.2))
            clear k2 Q3 Q4 CN CY
            go_wp2_with fail
            go_ret
            exact ⟨ret_int HR.out.symm, B1.out⟩
      · have hq := Q2.out k1
        subst hq
        have HR := Lib.hid (CN.out (fun h => k1 h.1))
        clear k1 Q1 Q2 CN CY
        go_wp2_with fail
        go_ret
        exact ⟨ret_int HR.out.symm, B1.out⟩
end Go.Proofs.Ythnoihdojinocaa

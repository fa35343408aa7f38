/- fits and Check of the program. -/
import Derived.Test.YtlmdkcpiimpniaaDoorRb
namespace Go.Proofs.YtlmdkcpiimpniaaDoor
open Go.ChangeShapes Go.WideShapes Go.ChangeAt Go.RowKit
set_option linter.unusedVariables false
set_option linter.unusedSimpArgs false

set_option maxRecDepth 100000 in
set_option maxHeartbeats 800000 in
theorem pfits_o {w : World} (h : Env w) (r : Rp) (a : Option Addr) (c : Nat) (a' : Option Addr) (c' : Nat) (h1 : ¬ (r.op < 0 ∨ 16 ≤ r.op)) (h2 : ¬ (r.op = 0 ∧ r.er ≠ 15)) (h3 : r.er = 0) (hl1 : r.ids.length ≤ 100000000) (hl2 : r.nums.length ≤ 100000000) :
    Calls Tryd.prog 37 #[.agg (rpV r a c a' c')] w fun e w' => e = .returned (.bool (decide (fits r))) ∧ Below w.heap.size w w' := by
  have hA : Hid (Below w.heap.size w (w.alloc (.cells (rpV r a c a' c') 27))) := Lib.hid (Below.alloc (Below.refl _ _) (Nat.le_refl _) _)
  have HF := Lib.hid (fit_ok h1 h2 h3)
  obtain ⟨R, hR⟩ : ∃ R, R = decide (fits r) := ⟨_, rfl⟩
  rw [← hR]
  rw [← hR] at HF
  clear hR
  have HE := Lib.hid h
  have HA := Lib.hid (fun w' (hb : Below w.heap.size w w') => h.below hb)
  unfold rpV at *
  obtain ⟨op, er, yes, ids, nums⟩ := r
  simp only at *
  generalize ids.length = li at *
  generalize nums.length = ln at *
  subst h3
  have hp0 : 1 ≤ op := by omega
  obtain ⟨k, rfl⟩ := Int.eq_ofNat_of_zero_le (show 0 ≤ op by omega)
  have hk : k < 16 := by omega
  have e0 : ((k : Int) == 0) = false := by simp; omega
  have hk1 : 1 ≤ k := by omega
  have i1 : (0 : Int) ≤ (k : Int) := by omega
  have i2 : (k : Int) < 16 := by omega
  have d1 : decide ((k : Int) < 0) = false := by simp
  have d2 : decide ((16 : Int) ≤ (k : Int)) = false := by simp; omega
  have d3 : decide (16 ≤ k) = false := by simp; exact hk
  clear h1 h2 h
  rw [Int.toNat_natCast] at HF
  by_cases hy : yes = true ∧ asksO (k : Int) = false
  · obtain ⟨rfl, ha⟩ := hy
    have hr : Hid (R = false) := Lib.hid (by rw [HF.out]; exact decide_eq_false fun hh => hh.1 ⟨rfl, ha⟩)
    have PA := Lib.hid (pasks (k : Int))
    rw [ha] at PA
    clear HF ha
    go_enter Tryd.func37, Tryd.ntmps37
    go_wp2_with (go_at_call 34; refine (PA.out _).mono ?_; rintro e w' ⟨rfl, rfl⟩)
    go_ret
    exact ⟨by rw [hr.out]; rfl, hA.out⟩
  · have HR : Hid (R = decide (li = count k yes li ln * ki k ∧ ln = count k yes li ln * kn k)) := Lib.hid (by
      rw [HF.out]; simp only [hy, not_false_eq_true, true_and])
    have PC := Lib.hid (fun w' (hb : Below w.heap.size w w') => pcount (HA.out w' hb) hk 0 yes a a' li c ln c' (by omega) (by omega))
    have KC := Lib.hid (fun w' (hb : Below w.heap.size w w') => (HA.out w' hb).kind hk)
    have hcl := count_le (k := k) yes li ln
    obtain ⟨n1, n2, n3, n4, -⟩ := kinds_num hk
    have h0 := lt_of_cell (HE.out.kind hk).1
    clear n3 n4 HE HA
    generalize count k yes li ln = C at *
    generalize ki k = I at *
    generalize kn k = M at *
    generalize ke k = E at *
    generalize kwS k = S at *
    have PA := Lib.hid (pasks (k : Int))
    obtain ⟨W, hW⟩ : ∃ W, W = w.alloc (.cells #[.int .i64 (k : Int), .int .i64 0, .bool yes, .slice a li c, .slice a' ln c'] 27) := ⟨_, rfl⟩
    have HW := Lib.hid hW
    obtain ⟨g, hg⟩ : ∃ g, g = w.heap.size := ⟨_, rfl⟩
    have hbl : W.heap[g]? = some (.cells #[.int .i64 (k : Int), .int .i64 0, .bool yes, .slice a li c, .slice a' ln c'] 27 (0, 0)) := by rw [hW, hg]; exact block_new _ _
    have BW := Lib.hid (show Below w.heap.size w W by rw [hW]; exact hA.out)
    obtain ⟨y0, y1, y2, y3⟩ := KC.out W BW.out
    have x0 : W.cell? ⟨g, 0, none⟩ = some (.int .i64 (k : Int)) := cell_of hbl 0
    have x1 : W.cell? ⟨g, 1, none⟩ = some (.int .i64 0) := cell_of hbl 1
    have x2 : W.cell? ⟨g, 2, none⟩ = some (.bool yes) := cell_of hbl 2
    have x3 : W.cell? ⟨g, 3, none⟩ = some (.slice a li c) := cell_of hbl 3
    have x4 : W.cell? ⟨g, 4, none⟩ = some (.slice a' ln c') := cell_of hbl 4
    have HG := Lib.hid hg
    have KK : Hid (∀ w', Below W.heap.size W w' → w'.cell? ⟨g, 0, none⟩ = some (.int .i64 (k : Int)) ∧ w'.cell? ⟨g, 1, none⟩ = some (.int .i64 0) ∧ w'.cell? ⟨g, 2, none⟩ = some (.bool yes) ∧ w'.cell? ⟨g, 3, none⟩ = some (.slice a li c) ∧ w'.cell? ⟨g, 4, none⟩ = some (.slice a' ln c') ∧
          w'.cell? ⟨0, k * 4, none⟩ = some (.string ⟨S.toArray⟩) ∧ w'.cell? ⟨0, k * 4 + 1, none⟩ = some (.int .i64 (I : Int)) ∧ w'.cell? ⟨0, k * 4 + 2, none⟩ = some (.int .i64 (M : Int)) ∧ w'.cell? ⟨0, k * 4 + 3, none⟩ = some (.int .i64 (E : Int))) := Lib.hid (fun w' hb => by
      have hc := (bcell hb).1
      rw [hc g 0 (lt_of_cell x0), hc g 1 (lt_of_cell x0), hc g 2 (lt_of_cell x0), hc g 3 (lt_of_cell x0), hc g 4 (lt_of_cell x0), hc 0 _ (lt_of_cell y0), hc 0 _ (lt_of_cell y0), hc 0 _ (lt_of_cell y0), hc 0 _ (lt_of_cell y0)]
      exact ⟨x0, x1, x2, x3, x4, y0, y1, y2, y3⟩)
    have BA1 := Lib.hid (Below.drew BW.out)
    have BA2 := Lib.hid (Below.drew (BW.out.alloc BW.out.size (.cells #[.string ⟨#[]⟩, .int .i64 0, .int .i64 0, .int .i64 0] 57)))
    have ne1 := World.new_ne W _ x0
    have ne2 := World.new_ne W _ y0
    have gl := lt_of_cell x0
    have zl := lt_of_cell y0
    clear hW hg hbl
    have m1 : (C : Int) * (I : Int) = ((C * I : Nat) : Int) := by simp
    have m2 : (C : Int) * (M : Int) = ((C * M : Nat) : Int) := by simp
    have m3 : C * I ≤ C * 2 := Nat.mul_le_mul_left _ n1
    have m4 : C * M ≤ C * 5 := Nat.mul_le_mul_left _ n2
    generalize C * I = P at *
    generalize C * M = Q at *
    have HY := Lib.hid hy
    clear hy
    have key : ∀ b1 b2 : Bool, ((li : Int) == (P : Int)) = b1 → (li == P) = b1 → ((ln : Int) == (Q : Int)) = b2 → (ln == Q) = b2 → R = (b1 && b2) → Calls Tryd.prog 37 #[.agg #[.int .i64 (k : Int), .int .i64 0, .bool yes, .slice a li c, .slice a' ln c']] w fun e w' => e = .returned (.bool R) ∧ Below w.heap.size w w' := by
      intro b1 b2 q1 q2 q3 q4 q5
      have HR5 := Lib.hid q5
      clear q5 HR
      have NP : Hid (yes = true → asksO (k : Int) = true) := Lib.hid (fun e => by
        cases hh : asksO (k : Int) with
        | true => rfl
        | false => exact absurd ⟨e, hh⟩ HY.out)
      cases yes
      · clear NP
        cases b1 <;> cases b2
        all_goals
          go_enter Tryd.func37, Tryd.ntmps37
          go_wp2_with fail
          rw [← HW.out, ← HG.out]
          go_region_held3 (fun w' => w'.cell? ⟨g, 0, none⟩ = some (.int .i64 (k : Int)) ∧ w'.cell? ⟨g, 1, none⟩ = some (.int .i64 0) ∧ w'.cell? ⟨g, 2, none⟩ = some (.bool false) ∧ w'.cell? ⟨g, 3, none⟩ = some (.slice a li c) ∧ w'.cell? ⟨g, 4, none⟩ = some (.slice a' ln c') ∧
              w'.cell? ⟨0, k * 4, none⟩ = some (.string ⟨S.toArray⟩) ∧ w'.cell? ⟨0, k * 4 + 1, none⟩ = some (.int .i64 (I : Int)) ∧ w'.cell? ⟨0, k * 4 + 2, none⟩ = some (.int .i64 (M : Int)) ∧ w'.cell? ⟨0, k * 4 + 3, none⟩ = some (.int .i64 (E : Int)))
            (first | (with_reducible exact ⟨x0, x1, x2, x3, x4, y0, y1, y2, y3⟩) | exact KK.out _ (by repeat (first | (with_reducible exact Below.refl _ _) | (with_reducible refine Below.drew ?_) | (with_reducible refine Below.setCell ?_ (by simp) _) | (with_reducible refine Below.alloc ?_ (by simp; try omega) _))))
            ((go_at_call 35; refine (PC.out _ (by first | (with_reducible exact BA1.out) | (with_reducible exact BA2.out))).mono ?_; rintro e w' ⟨rfl, rfl⟩))
          all_goals
            go_wp2_with fail
            go_ret
            exact ⟨by rw [HR5.out]; rfl, by repeat (first | (with_reducible exact BW.out) | (with_reducible refine Below.drew ?_) | (with_reducible refine Below.setCell ?_ (by simp) _) | (with_reducible refine Below.alloc ?_ (by have := BW.out.size; simp; omega) _))⟩
      · have hask := NP.out rfl
        rw [hask] at PA
        clear NP hask
        cases b1 <;> cases b2
        all_goals
          go_enter Tryd.func37, Tryd.ntmps37
          go_wp2_with (go_at_call 34; refine (PA.out _).mono ?_; rintro e w' ⟨rfl, rfl⟩)
          rw [← HW.out, ← HG.out]
          go_region_held3 (fun w' => w'.cell? ⟨g, 0, none⟩ = some (.int .i64 (k : Int)) ∧ w'.cell? ⟨g, 1, none⟩ = some (.int .i64 0) ∧ w'.cell? ⟨g, 2, none⟩ = some (.bool true) ∧ w'.cell? ⟨g, 3, none⟩ = some (.slice a li c) ∧ w'.cell? ⟨g, 4, none⟩ = some (.slice a' ln c') ∧
              w'.cell? ⟨0, k * 4, none⟩ = some (.string ⟨S.toArray⟩) ∧ w'.cell? ⟨0, k * 4 + 1, none⟩ = some (.int .i64 (I : Int)) ∧ w'.cell? ⟨0, k * 4 + 2, none⟩ = some (.int .i64 (M : Int)) ∧ w'.cell? ⟨0, k * 4 + 3, none⟩ = some (.int .i64 (E : Int)))
            (first | (with_reducible exact ⟨x0, x1, x2, x3, x4, y0, y1, y2, y3⟩) | exact KK.out _ (by repeat (first | (with_reducible exact Below.refl _ _) | (with_reducible refine Below.drew ?_) | (with_reducible refine Below.setCell ?_ (by simp) _) | (with_reducible refine Below.alloc ?_ (by simp; try omega) _))))
            ((go_at_call 35; refine (PC.out _ (by first | (with_reducible exact BA1.out) | (with_reducible exact BA2.out))).mono ?_; rintro e w' ⟨rfl, rfl⟩))
          all_goals
            go_wp2_with fail
            go_ret
            exact ⟨by rw [HR5.out]; rfl, by repeat (first | (with_reducible exact BW.out) | (with_reducible refine Below.drew ?_) | (with_reducible refine Below.setCell ?_ (by simp) _) | (with_reducible refine Below.alloc ?_ (by have := BW.out.size; simp; omega) _))⟩
    refine key (li == P) (ln == Q) ?_ rfl ?_ rfl ?_
    · rw [Bool.eq_iff_iff]; simp; omega
    · rw [Bool.eq_iff_iff]; simp; omega
    · rw [HR.out, Bool.eq_iff_iff]; simp
end Go.Proofs.YtlmdkcpiimpniaaDoor

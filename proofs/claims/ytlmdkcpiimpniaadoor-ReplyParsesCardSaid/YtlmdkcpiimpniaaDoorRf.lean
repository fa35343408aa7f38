/- shaped and Check of the document. -/
import Derived.Test.YtlmdkcpiimpniaaDoorRe
namespace Go.Proofs.YtlmdkcpiimpniaaDoor
open Go.ChangeShapes Go.WideShapes Go.ChangeAt Go.RowKit
set_option linter.unusedVariables false
set_option linter.unusedSimpArgs false

theorem sh_zero {r : Rp} (h : r.op = 0) : decide (fits r) = decide (r.er = 15 ∧ r.yes = false ∧ r.ids.length = 0 ∧ r.nums.length = 0) := by
  have : fits r ↔ (r.er = 15 ∧ r.yes = false ∧ r.ids.length = 0 ∧ r.nums.length = 0) := by
    rw [fits_shaped]; unfold shaped noneR; rw [if_pos h]
  simp only [this]
theorem sh_out {r : Rp} (h : r.op ≠ 0) (h1 : r.op < 1 ∨ 15 < r.op) : decide (fits r) = false := by
  have : ¬ fits r := by
    rw [fits_shaped]; unfold shaped; rw [if_neg h, if_pos h1]; exact id
  exact decide_eq_false this
theorem sh_err {r : Rp} (h : r.op ≠ 0) (h1 : ¬ (r.op < 1 ∨ 15 < r.op)) (h2 : r.er ≠ 0) : decide (fits r) = decide ((1 ≤ r.er ∧ r.er ≤ 18) ∧ r.yes = false ∧ r.ids.length = 0 ∧ r.nums.length = 0) := by
  have : fits r ↔ ((1 ≤ r.er ∧ r.er ≤ 18) ∧ r.yes = false ∧ r.ids.length = 0 ∧ r.nums.length = 0) := by
    rw [fits_shaped]; unfold shaped noneR; rw [if_neg h, if_neg h1, if_pos h2]
  simp only [this]
theorem sh_ok {k : Nat} {yes : Bool} {ids : List Nat} {nums : List Int} (h : 1 ≤ k) (h1 : k ≤ 15) : fits ⟨k, 0, yes, ids, nums⟩ ↔ entOk k ids.length nums.length ∧ ¬ (yes = true ∧ asksO (k : Int) = false) ∧
    (manyO (k : Int) = true ∨ (manyO (k : Int) = false ∧ k = 3 ∧ entK k ids.length nums.length = 0) ∨
      (manyO (k : Int) = false ∧ k = 8 ∧ ((yes = true ∧ entK k ids.length nums.length = 1) ∨ (yes = false ∧ entK k ids.length nums.length = 0))) ∨
      (manyO (k : Int) = false ∧ k ≠ 3 ∧ k ≠ 8 ∧ entK k ids.length nums.length = 1)) := by
  rw [fits_shaped]
  unfold shaped
  simp only [Int.toNat_natCast]
  rw [if_neg (by omega), if_neg (by omega), if_neg (by simp)]
  have e3 : ((k : Int) = 3) = (k = 3) := by simp only [eq_iff_iff]; omega
  have e8 : ((k : Int) = 8) = (k = 8) := by simp only [eq_iff_iff]; omega
  simp only [ne_eq, e3, e8]
set_option maxRecDepth 100000 in
set_option maxHeartbeats 8000000 in
theorem rshaped_n {w : World} (r : Rp) (a : Option Addr) (c : Nat) (a' : Option Addr) (c' : Nat) (h : r.op = 0 ∨ (r.op < 1 ∨ 15 < r.op) ∨ r.er ≠ 0) :
    Calls Tryd.prog 47 #[.agg (rpV r a c a' c')] w fun e w' => e = .returned (.bool (decide (fits r))) ∧ Below w.heap.size w w' := by
  have hA : Hid (Below w.heap.size w (w.alloc (.cells (rpV r a c a' c') 27))) := Lib.hid (Below.alloc (Below.refl _ _) (Nat.le_refl _) _)
  have H0 := Lib.hid (fun h => sh_zero (r := r) h)
  have H1 := Lib.hid (fun h h1 => sh_out (r := r) h h1)
  have H2 := Lib.hid (fun h h1 h2 => sh_err (r := r) h h1 h2)
  generalize decide (fits r) = R at *
  unfold rpV at *
  obtain ⟨op, er, yes, ids, nums⟩ := r
  simp only at *
  generalize ids.length = li at *
  generalize nums.length = ln at *
  have key : ∀ b1 b2 : Bool, (li == 0) = b1 → ((li : Int) == 0) = b1 → (ln == 0) = b2 → ((ln : Int) == 0) = b2 → decide (yes = false ∧ li = 0 ∧ ln = 0) = (!yes && b1 && b2) →
      Calls Tryd.prog 47 #[.agg #[.int .i64 op, .int .i64 er, .bool yes, .slice a li c, .slice a' ln c']] w fun e w' => e = .returned (.bool R) ∧ Below w.heap.size w w' := by
    intro b1 b2 q1 q2 q3 q4 q5
    by_cases h0 : op = 0
    · have HR : Hid (R = (decide (er = 15) && (!yes && b1 && b2))) := Lib.hid (by rw [H0.out h0, ← q5]; simp)
      clear H0 H1 H2 q5 h
      subst h0
      by_cases h15 : er = 15
      · subst h15
        cases yes <;> cases b1 <;> cases b2
        all_goals
          go_enter Tryd.func47, Tryd.ntmps47
          go_wp2_with fail
          go_ret
          exact ⟨by rw [HR.out]; rfl, hA.out⟩
      · have e1 : (er == 15) = false := by simpa using h15
        have e2 : decide (er = 15) = false := by simpa using h15
        rw [e2] at HR
        clear h15 e2
        cases yes <;> cases b1 <;> cases b2
        all_goals
          go_enter Tryd.func47, Tryd.ntmps47
          go_wp2_with fail
          go_ret
          exact ⟨by rw [HR.out]; rfl, hA.out⟩
    · have e0 : (op == 0) = false := by simpa using h0
      by_cases h1 : op < 1 ∨ 15 < op
      · have HR := Lib.hid (H1.out h0 h1)
        clear H0 H1 H2 q5 h h0
        by_cases h2 : op < 1
        · clear h1
          cases yes <;> cases b1 <;> cases b2
          all_goals
            go_enter Tryd.func47, Tryd.ntmps47
            go_wp2_with fail
            go_ret
            exact ⟨by rw [HR.out]; rfl, hA.out⟩
        · have h3 : 15 < op := by omega
          clear h1
          cases yes <;> cases b1 <;> cases b2
          all_goals
            go_enter Tryd.func47, Tryd.ntmps47
            go_wp2_with fail
            go_ret
            exact ⟨by rw [HR.out]; rfl, hA.out⟩
      · have her : er ≠ 0 := by omega
        have HR : Hid (R = (decide (1 ≤ er ∧ er ≤ 18) && (!yes && b1 && b2))) := Lib.hid (by rw [H2.out h0 h1 her, ← q5]; simp)
        have e3 : (er == 0) = false := by simpa using her
        have e4 : (er != 0) = true := by simpa using her
        have h4 : 1 ≤ op := by omega
        have h5 : op ≤ 15 := by omega
        clear H0 H1 H2 q5 h h0 h1 her
        by_cases h6 : 1 ≤ er
        · by_cases h7 : er ≤ 18
          · have e5 : decide (1 ≤ er ∧ er ≤ 18) = true := by simp; omega
            rw [e5] at HR
            clear e5
            cases yes <;> cases b1 <;> cases b2
            all_goals
              go_enter Tryd.func47, Tryd.ntmps47
              go_wp2_with fail
              go_ret
              exact ⟨by rw [HR.out]; rfl, hA.out⟩
          · have e5 : decide (1 ≤ er ∧ er ≤ 18) = false := by simp; omega
            rw [e5] at HR
            clear e5
            cases yes <;> cases b1 <;> cases b2
            all_goals
              go_enter Tryd.func47, Tryd.ntmps47
              go_wp2_with fail
              go_ret
              exact ⟨by rw [HR.out]; rfl, hA.out⟩
        · have e5 : decide (1 ≤ er ∧ er ≤ 18) = false := by simp; omega
          rw [e5] at HR
          clear e5
          cases yes <;> cases b1 <;> cases b2
          all_goals
            go_enter Tryd.func47, Tryd.ntmps47
            go_wp2_with fail
            go_ret
            exact ⟨by rw [HR.out]; rfl, hA.out⟩
  refine key (li == 0) (ln == 0) rfl ?_ rfl ?_ ?_
  · rw [Bool.eq_iff_iff]; simp
  · rw [Bool.eq_iff_iff]; simp
  · rw [Bool.eq_iff_iff]; simp [and_assoc]
end Go.Proofs.YtlmdkcpiimpniaaDoor

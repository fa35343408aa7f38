/- shaped and Check of the document, at replies without an error. -/
import Derived.Test.YtlmdkcpiimpniaaDoorRf
namespace Go.Proofs.YtlmdkcpiimpniaaDoor
open Go.ChangeShapes Go.WideShapes Go.ChangeAt Go.RowKit
set_option linter.unusedVariables false
set_option linter.unusedSimpArgs false

set_option maxRecDepth 100000 in
set_option maxHeartbeats 8000000 in
theorem rshaped_o {w : World} (r : Rp) (a : Option Addr) (c : Nat) (a' : Option Addr) (c' : Nat) (h : ¬ (r.op = 0 ∨ (r.op < 1 ∨ 15 < r.op) ∨ r.er ≠ 0)) (hl1 : r.ids.length ≤ 100000000) (hl2 : r.nums.length ≤ 100000000) :
    Calls Tryd.prog 47 #[.agg (rpV r a c a' c')] w fun e w' => e = .returned (.bool (decide (fits r))) ∧ Below w.heap.size w w' := by
  have hA : Hid (Below w.heap.size w (w.alloc (.cells (rpV r a c a' c') 27))) := Lib.hid (Below.alloc (Below.refl _ _) (Nat.le_refl _) _)
  have X := Lib.hid (block_new w (.cells (rpV r a c a' c') 27))
  obtain ⟨op, er, yes, ids, nums⟩ := r
  simp only at h hl1 hl2
  obtain rfl : er = 0 := by omega
  obtain ⟨k, rfl⟩ := Int.eq_ofNat_of_zero_le (show 0 ≤ op by omega)
  have hk1 : 1 ≤ k := by omega
  have hk15 : k ≤ 15 := by omega
  have HF := Lib.hid (sh_ok (k := k) (yes := yes) (ids := ids) (nums := nums) hk1 hk15)
  have HR : Hid (decide (fits ⟨(k : Int), 0, yes, ids, nums⟩) = true ↔ fits ⟨(k : Int), 0, yes, ids, nums⟩) := Lib.hid decide_eq_true_iff
  generalize decide (fits ⟨(k : Int), 0, yes, ids, nums⟩) = R at *
  rw [HF.out] at HR
  clear HF h
  unfold rpV at *
  simp only at *
  generalize ids.length = li at *
  generalize nums.length = ln at *
  have PE := Lib.hid (rentries (w := w.alloc (.cells #[.int .i64 (k : Int), .int .i64 0, .bool yes, .slice a li c, .slice a' ln c'] 27)) (show k < 16 by omega) hk1 0 yes a a' li c ln c' hl1 hl2)
  have PA := Lib.hid (rasks (k : Int))
  have PM := Lib.hid (rmany (k := k) (by omega))
  have HE : Hid ((entOk k li ln → entI k li ln = ((entK k li ln : Nat) : Int)) ∧ (¬ entOk k li ln → entI k li ln = -1)) := Lib.hid ⟨fun h => if_pos h, fun h => if_neg h⟩
  generalize entI k li ln = Y at *
  generalize asksO (k : Int) = ao at *
  generalize manyO (k : Int) = mo at *
  generalize entK k li ln = E at *
  generalize entOk k li ln = ok at *
  have e0 : ((k : Int) == 0) = false := by simp; omega
  have d1 : decide ((k : Int) < 1) = false := by simp; omega
  have d2 : decide ((15 : Int) < (k : Int)) = false := by simp; omega
  have d3 : decide (k < 1) = false := by simp; omega
  have d4 : decide (15 < k) = false := by simp; omega
  have key : ∀ b1 b2 k3 k8 y0 y1 ng : Bool, (li == 0) = b1 → ((li : Int) == 0) = b1 → (ln == 0) = b2 → ((ln : Int) == 0) = b2 → ((k : Int) == 3) = k3 → (k == 3) = k3 → ((k : Int) == 8) = k8 → (k == 8) = k8 → (Y == 0) = y0 → (Y == 1) = y1 → decide (Y < 0) = ng →
      R = (!ng && !(yes && !ao) && (mo || (!mo && k3 && y0) || (!mo && k8 && (yes && y1 || !yes && y0)) || (!mo && !k3 && !k8 && y1))) → (k3 = true → k8 = false) → (ng = true → y0 = false ∧ y1 = false) →
      Calls Tryd.prog 47 #[.agg #[.int .i64 (k : Int), .int .i64 0, .bool yes, .slice a li c, .slice a' ln c']] w fun e w' => e = .returned (.bool R) ∧ Below w.heap.size w w' := by
    intro b1 b2 k3 k8 y0 y1 ng q1 q2 q3 q4 q5 q6 q7 q8 q9 q10 q11 q12 q13 q14
    have HQ := Lib.hid q12
    have K := Lib.hid q13
    have G := Lib.hid q14
    clear q12 q13 q14 HR HE
    have go : ∀ (w1 : World), Below (w.alloc (.cells #[.int .i64 (k : Int), .int .i64 0, .bool yes, .slice a li c, .slice a' ln c'] 27)).heap.size (w.alloc (.cells #[.int .i64 (k : Int), .int .i64 0, .bool yes, .slice a li c, .slice a' ln c'] 27)) w1 →
        w1.cell? ⟨w.heap.size, 0, none⟩ = some (.int .i64 (k : Int)) ∧ w1.cell? ⟨w.heap.size, 2, none⟩ = some (.bool yes) ∧ Below w.heap.size w w1 := fun w1 hb1 => by
      have X1 := (hb1.block _ (lt_of_block X.out)).trans X.out
      exact ⟨cell_of X1 0, cell_of X1 2, hA.out.trans (hb1.mono hA.out.size)⟩
    have GO := Lib.hid go
    clear go
    cases ng
    · clear G
      cases yes
      · cases mo
        · cases k3
          · cases k8
            · cases b1 <;> cases b2 <;> cases y1
              all_goals
                go_enter Tryd.func47, Tryd.ntmps47
                go_wp2_with fail
                refine (PE.out).mono ?_; rintro e w1 ⟨rfl, hb1⟩
                obtain ⟨x0, x2, hb⟩ := GO.out w1 hb1
                have B := Lib.hid hb
                clear hb1 hb
                go_wp2_with (first | (go_at_call 52; refine (PA.out _).mono ?_; rintro e w' ⟨rfl, rfl⟩) | (go_at_call 71; refine (PM.out _).mono ?_; rintro e w' ⟨rfl, rfl⟩))
                go_ret
                exact ⟨by rw [HQ.out]; rfl, B.out⟩
            · cases b1 <;> cases b2 <;> cases y0
              all_goals
                go_enter Tryd.func47, Tryd.ntmps47
                go_wp2_with fail
                refine (PE.out).mono ?_; rintro e w1 ⟨rfl, hb1⟩
                obtain ⟨x0, x2, hb⟩ := GO.out w1 hb1
                have B := Lib.hid hb
                clear hb1 hb
                go_wp2_with (first | (go_at_call 52; refine (PA.out _).mono ?_; rintro e w' ⟨rfl, rfl⟩) | (go_at_call 71; refine (PM.out _).mono ?_; rintro e w' ⟨rfl, rfl⟩))
                go_ret
                exact ⟨by rw [HQ.out]; simp, B.out⟩
          · have := K.out rfl
            subst this
            cases b1 <;> cases b2 <;> cases y0
            all_goals
              go_enter Tryd.func47, Tryd.ntmps47
              go_wp2_with fail
              refine (PE.out).mono ?_; rintro e w1 ⟨rfl, hb1⟩
              obtain ⟨x0, x2, hb⟩ := GO.out w1 hb1
              have B := Lib.hid hb
              clear hb1 hb
              go_wp2_with (first | (go_at_call 52; refine (PA.out _).mono ?_; rintro e w' ⟨rfl, rfl⟩) | (go_at_call 71; refine (PM.out _).mono ?_; rintro e w' ⟨rfl, rfl⟩))
              go_ret
              exact ⟨by rw [HQ.out]; simp, B.out⟩
        · cases b1 <;> cases b2
          all_goals
            go_enter Tryd.func47, Tryd.ntmps47
            go_wp2_with fail
            refine (PE.out).mono ?_; rintro e w1 ⟨rfl, hb1⟩
            obtain ⟨x0, x2, hb⟩ := GO.out w1 hb1
            have B := Lib.hid hb
            clear hb1 hb
            go_wp2_with (first | (go_at_call 52; refine (PA.out _).mono ?_; rintro e w' ⟨rfl, rfl⟩) | (go_at_call 71; refine (PM.out _).mono ?_; rintro e w' ⟨rfl, rfl⟩))
            go_ret
            exact ⟨by rw [HQ.out]; simp, B.out⟩
      · cases ao
        · go_enter Tryd.func47, Tryd.ntmps47
          go_wp2_with fail
          refine (PE.out).mono ?_; rintro e w1 ⟨rfl, hb1⟩
          obtain ⟨x0, x2, hb⟩ := GO.out w1 hb1
          have B := Lib.hid hb
          clear hb1 hb
          go_wp2_with (first | (go_at_call 52; refine (PA.out _).mono ?_; rintro e w' ⟨rfl, rfl⟩) | (go_at_call 71; refine (PM.out _).mono ?_; rintro e w' ⟨rfl, rfl⟩))
          go_ret
          exact ⟨by rw [HQ.out]; simp, B.out⟩
        · cases mo
          · cases k3
            · cases k8
              · cases y1
                all_goals
                  go_enter Tryd.func47, Tryd.ntmps47
                  go_wp2_with fail
                  refine (PE.out).mono ?_; rintro e w1 ⟨rfl, hb1⟩
                  obtain ⟨x0, x2, hb⟩ := GO.out w1 hb1
                  have B := Lib.hid hb
                  clear hb1 hb
                  go_wp2_with (first | (go_at_call 52; refine (PA.out _).mono ?_; rintro e w' ⟨rfl, rfl⟩) | (go_at_call 71; refine (PM.out _).mono ?_; rintro e w' ⟨rfl, rfl⟩))
                  go_ret
                  exact ⟨by rw [HQ.out]; simp, B.out⟩
              · cases y1
                all_goals
                  go_enter Tryd.func47, Tryd.ntmps47
                  go_wp2_with fail
                  refine (PE.out).mono ?_; rintro e w1 ⟨rfl, hb1⟩
                  obtain ⟨x0, x2, hb⟩ := GO.out w1 hb1
                  have B := Lib.hid hb
                  clear hb1 hb
                  go_wp2_with (first | (go_at_call 52; refine (PA.out _).mono ?_; rintro e w' ⟨rfl, rfl⟩) | (go_at_call 71; refine (PM.out _).mono ?_; rintro e w' ⟨rfl, rfl⟩))
                  go_ret
                  exact ⟨by rw [HQ.out]; simp, B.out⟩
            · have := K.out rfl
              subst this
              cases y0
              all_goals
                go_enter Tryd.func47, Tryd.ntmps47
                go_wp2_with fail
                refine (PE.out).mono ?_; rintro e w1 ⟨rfl, hb1⟩
                obtain ⟨x0, x2, hb⟩ := GO.out w1 hb1
                have B := Lib.hid hb
                clear hb1 hb
                go_wp2_with (first | (go_at_call 52; refine (PA.out _).mono ?_; rintro e w' ⟨rfl, rfl⟩) | (go_at_call 71; refine (PM.out _).mono ?_; rintro e w' ⟨rfl, rfl⟩))
                go_ret
                exact ⟨by rw [HQ.out]; simp, B.out⟩
          · go_enter Tryd.func47, Tryd.ntmps47
            go_wp2_with fail
            refine (PE.out).mono ?_; rintro e w1 ⟨rfl, hb1⟩
            obtain ⟨x0, x2, hb⟩ := GO.out w1 hb1
            have B := Lib.hid hb
            clear hb1 hb
            go_wp2_with (first | (go_at_call 52; refine (PA.out _).mono ?_; rintro e w' ⟨rfl, rfl⟩) | (go_at_call 71; refine (PM.out _).mono ?_; rintro e w' ⟨rfl, rfl⟩))
            go_ret
            exact ⟨by rw [HQ.out]; simp, B.out⟩
    · clear K G
      cases yes <;> cases b1 <;> cases b2
      all_goals
        go_enter Tryd.func47, Tryd.ntmps47
        go_wp2_with fail
        refine (PE.out).mono ?_; rintro e w1 ⟨rfl, hb1⟩
        obtain ⟨x0, x2, hb⟩ := GO.out w1 hb1
        have B := Lib.hid hb
        clear hb1 hb
        go_wp2_with fail
        go_ret
        exact ⟨by rw [HQ.out]; rfl, B.out⟩
  have hok : ok ∨ ¬ ok := Classical.em ok
  refine key (li == 0) (ln == 0) (k == 3) (k == 8) (Y == 0) (Y == 1) (decide (Y < 0)) rfl ?_ rfl ?_ ?_ rfl ?_ rfl rfl rfl rfl ?_ ?_ ?_
  · rw [Bool.eq_iff_iff]; simp
  · rw [Bool.eq_iff_iff]; simp
  · rw [Bool.eq_iff_iff]; simp; omega
  · rw [Bool.eq_iff_iff]; simp; omega
  · rw [Bool.eq_iff_iff, HR.out]
    have he := HE.out
    rcases hok with hk | hk
    · have he := he.1 hk
      subst he
      cases yes <;> cases ao <;> cases mo <;> simp [hk] <;> omega
    · have he := he.2 hk
      subst he
      simp [hk]
  · intro hh; simp at hh ⊢; omega
  · intro hh; simp at hh ⊢; omega
theorem rshaped {w : World} (r : Rp) (a : Option Addr) (c : Nat) (a' : Option Addr) (c' : Nat) (hl1 : r.ids.length ≤ 100000000) (hl2 : r.nums.length ≤ 100000000) :
    Calls Tryd.prog 47 #[.agg (rpV r a c a' c')] w fun e w' => e = .returned (.bool (decide (fits r))) ∧ Below w.heap.size w w' := by
  by_cases h : r.op = 0 ∨ (r.op < 1 ∨ 15 < r.op) ∨ r.er ≠ 0
  · exact rshaped_n r a c a' c' h
  · exact rshaped_o r a c a' c' h hl1 hl2
set_option maxRecDepth 100000 in
set_option maxHeartbeats 4000000 in
theorem rcheck {w : World} (r : Rp) (a : Option Addr) (c : Nat) (a' : Option Addr) (c' : Nat) (hl1 : r.ids.length ≤ 100000000) (hl2 : r.nums.length ≤ 100000000) :
    Calls Tryd.prog 22 #[.agg (rpV r a c a' c')] w fun e w' => e = .returned (.int .i64 (chk r)) ∧ Below w.heap.size w w' := by
  have hA : Hid (Below w.heap.size w (w.alloc (.cells (rpV r a c a' c') 27))) := Lib.hid (Below.alloc (Below.refl _ _) (Nat.le_refl _) _)
  have PF := Lib.hid (rshaped (w := w.alloc (.cells (rpV r a c a' c') 27)) r a c a' c' hl1 hl2)
  have X := Lib.hid (block_new w (.cells (rpV r a c a' c') 27))
  have HC : Hid ((fits r → chk r = if 65536 < r.ids.length ∨ 65536 < r.nums.length then 16 else 0) ∧ (¬ fits r → chk r = 2)) := Lib.hid (by
    unfold chk; exact ⟨fun hf => by rw [if_pos hf], fun hf => by rw [if_neg hf]⟩)
  generalize chk r = R at *
  by_cases hf : fits r
  · have hr := Lib.hid (HC.out.1 hf)
    rw [decide_eq_true hf] at PF
    clear HC hf
    unfold rpV at *
    obtain ⟨op, er, yes, ids, nums⟩ := r
    simp only at *
    generalize ids.length = li at *
    generalize nums.length = ln at *
    go_enter Tryd.func22, Tryd.ntmps22
    go_wp2_with fail
    refine (PF.out).mono ?_; rintro e w1 ⟨rfl, hb1⟩
    have B := Lib.hid (hA.out.trans (hb1.mono hA.out.size))
    have X1 := (hb1.block _ (lt_of_block X.out)).trans X.out
    have x3 : w1.cell? ⟨w.heap.size, 3, none⟩ = some (.slice a li c) := cell_of X1 3
    have x4 : w1.cell? ⟨w.heap.size, 4, none⟩ = some (.slice a' ln c') := cell_of X1 4
    clear hb1 X1
    by_cases q1 : 65536 < li
    · have hr2 : Hid (R = 16) := Lib.hid (by rw [hr.out, if_pos (Or.inl q1)])
      go_wp2_with fail
      go_ret
      exact ⟨by rw [hr2.out]; rfl, B.out⟩
    · by_cases q2 : 65536 < ln
      · have hr2 : Hid (R = 16) := Lib.hid (by rw [hr.out, if_pos (Or.inr q2)])
        go_wp2_with fail
        go_ret
        exact ⟨by rw [hr2.out]; rfl, B.out⟩
      · have hr2 : Hid (R = 0) := Lib.hid (by rw [hr.out, if_neg (by omega)])
        go_wp2_with fail
        go_ret
        exact ⟨by rw [hr2.out]; rfl, B.out⟩
  · have hr := Lib.hid (HC.out.2 hf)
    rw [decide_eq_false hf] at PF
    clear HC hf
    unfold rpV at *
    obtain ⟨op, er, yes, ids, nums⟩ := r
    simp only at *
    generalize ids.length = li at *
    generalize nums.length = ln at *
    go_enter Tryd.func22, Tryd.ntmps22
    go_wp2_with fail
    refine (PF.out).mono ?_; rintro e w1 ⟨rfl, hb1⟩
    have B := Lib.hid (hA.out.trans (hb1.mono hA.out.size))
    clear hb1
    go_wp2_with fail
    go_ret
    exact ⟨by rw [hr.out]; rfl, B.out⟩
end Go.Proofs.YtlmdkcpiimpniaaDoor

/- Check of the program. -/
import Derived.Test.YtlmdkcpiimpniaaDoorRc
namespace Go.Proofs.YtlmdkcpiimpniaaDoor
open Go.ChangeShapes Go.WideShapes Go.ChangeAt Go.RowKit
set_option linter.unusedVariables false
set_option linter.unusedSimpArgs false

theorem pfits {w : World} (h : Env w) (r : Rp) (a : Option Addr) (c : Nat) (a' : Option Addr) (c' : Nat) (hl1 : r.ids.length ≤ 100000000) (hl2 : r.nums.length ≤ 100000000) :
    Calls Tryd.prog 37 #[.agg (rpV r a c a' c')] w fun e w' => e = .returned (.bool (decide (fits r))) ∧ Below w.heap.size w w' := by
  by_cases h1 : (r.op < 0 ∨ 16 ≤ r.op)
  · exact pfits_a r a c a' c' (Or.inl h1)
  · by_cases h2 : r.op = 0 ∧ r.er ≠ 15
    · exact pfits_a r a c a' c' (Or.inr h2)
    · by_cases h3 : r.er = 0
      · exact pfits_o h r a c a' c' h1 h2 h3 hl1 hl2
      · exact pfits_e r a c a' c' h1 h2 h3
set_option maxRecDepth 100000 in
set_option maxHeartbeats 4000000 in
theorem pcheck {w : World} (h : Env w) (r : Rp) (a : Option Addr) (c : Nat) (a' : Option Addr) (c' : Nat) (hl1 : r.ids.length ≤ 100000000) (hl2 : r.nums.length ≤ 100000000) :
    Calls Tryd.prog 14 #[.agg (rpV r a c a' c')] w fun e w' => e = .returned (.int .i64 (chk r)) ∧ Below w.heap.size w w' := by
  have hA : Hid (Below w.heap.size w (w.alloc (.cells (rpV r a c a' c') 27))) := Lib.hid (Below.alloc (Below.refl _ _) (Nat.le_refl _) _)
  have PF := Lib.hid (pfits (h.below hA.out) r a c a' c' hl1 hl2)
  have X := Lib.hid (block_new w (.cells (rpV r a c a' c') 27))
  have HC : Hid ((fits r → chk r = if 65536 < r.ids.length ∨ 65536 < r.nums.length then 16 else 0) ∧ (¬ fits r → chk r = 2)) := Lib.hid (by
    unfold chk; exact ⟨fun hf => by rw [if_pos hf], fun hf => by rw [if_neg hf]⟩)
  generalize chk r = R at *
  by_cases hf : fits r
  · have hr := Lib.hid (HC.out.1 hf)
    rw [decide_eq_true hf] at PF
    clear h HC hf
    unfold rpV at *
    obtain ⟨op, er, yes, ids, nums⟩ := r
    simp only at *
    generalize ids.length = li at *
    generalize nums.length = ln at *
    go_enter Tryd.func14, Tryd.ntmps14
    go_wp2_with fail
    refine (PF.out).mono ?_; rintro e w1 ⟨rfl, hb1⟩
    have B := Lib.hid (hA.out.trans (hb1.mono hA.out.size))
    have X1 := (hb1.block _ (lt_of_block X.out)).trans X.out
    have x3 : w1.cell? ⟨w.heap.size, 3, none⟩ = some (.slice a li c) := cell_of X1 3
    have x4 : w1.cell? ⟨w.heap.size, 4, none⟩ = some (.slice a' ln c') := cell_of X1 4
    clear hb1 X1
    by_cases q1 : 65536 < li
    · have hr2 : Hid (R = 16) := Lib.hid (by rw [hr.out, if_pos (Or.inl q1)])
      go_wp2_with fail
      go_ret
      exact ⟨by rw [hr2.out]; rfl, B.out⟩
    · by_cases q2 : 65536 < ln
      · have hr2 : Hid (R = 16) := Lib.hid (by rw [hr.out, if_pos (Or.inr q2)])
        go_wp2_with fail
        go_ret
        exact ⟨by rw [hr2.out]; rfl, B.out⟩
      · have hr2 : Hid (R = 0) := Lib.hid (by rw [hr.out, if_neg (by omega)])
        go_wp2_with fail
        go_ret
        exact ⟨by rw [hr2.out]; rfl, B.out⟩
  · have hr := Lib.hid (HC.out.2 hf)
    rw [decide_eq_false hf] at PF
    clear h HC hf
    unfold rpV at *
    obtain ⟨op, er, yes, ids, nums⟩ := r
    simp only at *
    generalize ids.length = li at *
    generalize nums.length = ln at *
    go_enter Tryd.func14, Tryd.ntmps14
    go_wp2_with fail
    refine (PF.out).mono ?_; rintro e w1 ⟨rfl, hb1⟩
    have B := Lib.hid (hA.out.trans (hb1.mono hA.out.size))
    clear hb1
    go_wp2_with fail
    go_ret
    exact ⟨by rw [hr.out]; rfl, B.out⟩
end Go.Proofs.YtlmdkcpiimpniaaDoor
/- entry, many, entries of the document. -/
namespace Go.Proofs.YtlmdkcpiimpniaaDoor
open Go.ChangeShapes Go.WideShapes Go.ChangeAt Go.RowKit
set_option linter.unusedVariables false
set_option linter.unusedSimpArgs false

/-- The document's numbers of an entry; at 0 they are others than the table's. -/
def en (k : Nat) : Nat := if k = 0 then 1 else kn k
set_option maxRecDepth 100000 in
set_option maxHeartbeats 4000000 in
theorem rentry {k : Nat} (hk : k < 16) (w : World) : Calls Tryd.prog 53 #[.int .i64 (k : Int)] w fun e w' => e = .returned (.tuple #[.int .i64 ((ki k : Nat) : Int), .int .i64 ((en k : Nat) : Int)]) ∧ w = w' := by
  have hc : k = 0 ∨ k = 1 ∨ k = 2 ∨ k = 3 ∨ k = 4 ∨ k = 5 ∨ k = 6 ∨ k = 7 ∨ k = 8 ∨ k = 9 ∨ k = 10 ∨ k = 11 ∨ k = 12 ∨ k = 13 ∨ k = 14 ∨ k = 15 := by omega
  rcases hc with rfl | rfl | rfl | rfl | rfl | rfl | rfl | rfl | rfl | rfl | rfl | rfl | rfl | rfl | rfl | rfl
  all_goals
    go_enter Tryd.func53, Tryd.ntmps53
    go_wp2_with fail
    go_ret2
    exact ⟨rfl, rfl⟩
theorem rmany {k : Nat} (hk : k < 16) (w : World) : Calls Tryd.prog 71 #[.int .i64 (k : Int)] w fun e w' => e = .returned (.bool (manyO (k : Int))) ∧ w = w' := by
  have hc : k = 0 ∨ k = 1 ∨ k = 2 ∨ k = 3 ∨ k = 4 ∨ k = 5 ∨ k = 6 ∨ k = 7 ∨ k = 8 ∨ k = 9 ∨ k = 10 ∨ k = 11 ∨ k = 12 ∨ k = 13 ∨ k = 14 ∨ k = 15 := by omega
  rcases hc with rfl | rfl | rfl | rfl | rfl | rfl | rfl | rfl | rfl | rfl | rfl | rfl | rfl | rfl | rfl | rfl
  all_goals
    go_enter Tryd.func71, Tryd.ntmps71
    go_wp2_with fail
    go_ret
    exact ⟨rfl, rfl⟩
instance decEnt (k li ln : Nat) : Decidable (entOk k li ln) := by unfold entOk; exact inferInstance
def entI (k li ln : Nat) : Int := if entOk k li ln then (entK k li ln : Nat) else -1
set_option maxRecDepth 100000 in
set_option maxHeartbeats 4000000 in
theorem rentries {w : World} {k : Nat} (hk : k < 16) (hk1 : 1 ≤ k) (er : Int) (yes : Bool) (a a' : Option Addr) (li c ln c' : Nat) (hl1 : li ≤ 100000000) (hl2 : ln ≤ 100000000) :
    Calls Tryd.prog 54 #[.agg #[.int .i64 (k : Int), .int .i64 er, .bool yes, .slice a li c, .slice a' ln c']] w fun e w' => e = .returned (.int .i64 (entI k li ln)) ∧ Below w.heap.size w w' := by
  have hA : Hid (Below w.heap.size w (w.alloc (.cells #[.int .i64 (k : Int), .int .i64 er, .bool yes, .slice a li c, .slice a' ln c'] 27))) := Lib.hid (Below.alloc (Below.refl _ _) (Nat.le_refl _) _)
  obtain ⟨n1, n2, n3, n4, -⟩ := kinds_num hk
  have PE := Lib.hid (rentry hk)
  have he : en k = kn k := by unfold en; rw [if_neg (by omega)]
  rw [he] at PE
  clear he n3 n4
  obtain ⟨R, hR⟩ : ∃ R, R = entI k li ln := ⟨_, rfl⟩
  have HR : Hid (∀ C, C = entK k li ln → (C * ki k = li ∧ C * kn k = ln → R = (C : Int)) ∧ (¬ (C * ki k = li ∧ C * kn k = ln) → R = -1)) := Lib.hid (fun C hC => by
    subst hC
    rw [hR]
    unfold entI
    exact ⟨fun h => if_pos h, fun h => if_neg h⟩)
  have HK : Hid (entK k li ln = if 0 < ki k then li / ki k else if 0 < kn k then ln / kn k else 0) := Lib.hid rfl
  rw [← hR]
  clear hR
  generalize entK k li ln = C0 at *
  generalize ki k = I at *
  generalize kn k = M at *
  have fin : ∀ C : Nat, C ≤ 100000000 → C = C0 → (∀ (b1 b2 : Bool), ((C * I : Nat) == li) = b1 → (((C * I : Nat) : Int) == (li : Int)) = b1 → ((C * M : Nat) == ln) = b2 → (((C * M : Nat) : Int) == (ln : Int)) = b2 → R = (if b1 = true ∧ b2 = true then (C : Int) else -1) →
      Calls Tryd.prog 54 #[.agg #[.int .i64 (k : Int), .int .i64 er, .bool yes, .slice a li c, .slice a' ln c']] w fun e w' => e = .returned (.int .i64 R) ∧ Below w.heap.size w w') →
      Calls Tryd.prog 54 #[.agg #[.int .i64 (k : Int), .int .i64 er, .bool yes, .slice a li c, .slice a' ln c']] w fun e w' => e = .returned (.int .i64 R) ∧ Below w.heap.size w w' := by
    intro C hC hC0 hh
    refine hh (C * I == li) (C * M == ln) rfl ?_ rfl ?_ ?_
    · rw [Bool.eq_iff_iff]; simp; omega
    · rw [Bool.eq_iff_iff]; simp; omega
    · obtain ⟨r1, r2⟩ := HR.out C hC0
      by_cases hq : C * I = li ∧ C * M = ln
      · rw [r1 hq, if_pos (by simpa using hq)]
      · rw [r2 hq, if_neg (by simpa using hq)]
  by_cases hI : 0 < I
  · have hd : (li : Int) / (I : Int) = ((li / I : Nat) : Int) := by simp
    have hd2 : li / I ≤ li := Nat.div_le_self _ _
    have hC : li / I = C0 := by rw [HK.out, if_pos hI]
    clear HK
    generalize li / I = C at *
    refine fin C (by omega) hC ?_
    clear fin HR hC
    intro b1 b2 q1 q2 q3 q4 q5
    have m1 : (C : Int) * (I : Int) = ((C * I : Nat) : Int) := by simp
    have m2 : (C : Int) * (M : Int) = ((C * M : Nat) : Int) := by simp
    have m3 : C * I ≤ C * 2 := Nat.mul_le_mul_left _ n1
    have m4 : C * M ≤ C * 5 := Nat.mul_le_mul_left _ n2
    generalize C * I = P at *
    generalize C * M = Q at *
    have i3 : decide ((0 : Int) < (I : Int)) = true := by simp; omega
    have i4 : decide (0 < I) = true := by simp; omega
    have p1 : ((P : Int) != (li : Int)) = !b1 := by rw [← q2]; rfl
    have p2 : (P != li) = !b1 := by rw [← q1]; rfl
    have p3 : ((Q : Int) != (ln : Int)) = !b2 := by rw [← q4]; rfl
    have p4 : (Q != ln) = !b2 := by rw [← q3]; rfl
    have HR := Lib.hid q5
    clear q5
    cases b1 <;> cases b2
    all_goals
      go_enter Tryd.func54, Tryd.ntmps54
      go_wp2_with (go_at_call 53; refine (PE.out _).mono ?_; rintro e w' ⟨rfl, rfl⟩)
      go_ret
      exact ⟨ret_int (by rw [HR.out]; rfl), hA.out⟩
  · obtain rfl : I = 0 := by omega
    by_cases hM : 0 < M
    · have hd : (ln : Int) / (M : Int) = ((ln / M : Nat) : Int) := by simp
      have hd2 : ln / M ≤ ln := Nat.div_le_self _ _
      have hC : ln / M = C0 := by rw [HK.out, if_neg hI, if_pos hM]
      clear HK
      generalize ln / M = C at *
      refine fin C (by omega) hC ?_
      clear fin HR hC
      intro b1 b2 q1 q2 q3 q4 q5
      rw [Nat.mul_zero] at q1 q2
      have m2 : (C : Int) * (M : Int) = ((C * M : Nat) : Int) := by simp
      have m4 : C * M ≤ C * 5 := Nat.mul_le_mul_left _ n2
      generalize C * M = Q at *
      have i3 : decide ((0 : Int) < (M : Int)) = true := by simp; omega
      have i4 : decide (0 < M) = true := by simp; omega
      have p1 : ((0 : Int) != (li : Int)) = !b1 := by rw [← q2]; rfl
      have p2 : (0 != li) = !b1 := by rw [← q1]; rfl
      have p3 : ((Q : Int) != (ln : Int)) = !b2 := by rw [← q4]; rfl
      have p4 : (Q != ln) = !b2 := by rw [← q3]; rfl
      have HR := Lib.hid q5
      clear q5
      cases b1 <;> cases b2
      all_goals
        go_enter Tryd.func54, Tryd.ntmps54
        go_wp2_with (go_at_call 53; refine (PE.out _).mono ?_; rintro e w' ⟨rfl, rfl⟩)
        go_ret
        exact ⟨ret_int (by rw [HR.out]; rfl), hA.out⟩
    · obtain rfl : M = 0 := by omega
      have hC : 0 = C0 := by rw [HK.out, if_neg hI, if_neg hM]
      clear HK
      refine fin 0 (by omega) hC ?_
      clear fin HR hC
      intro b1 b2 q1 q2 q3 q4 q5
      rw [Nat.mul_zero] at q1 q2 q3 q4
      have p1 : ((0 : Int) != (li : Int)) = !b1 := by rw [← q2]; rfl
      have p2 : (0 != li) = !b1 := by rw [← q1]; rfl
      have p3 : ((0 : Int) != (ln : Int)) = !b2 := by rw [← q4]; rfl
      have p4 : (0 != ln) = !b2 := by rw [← q3]; rfl
      have HR := Lib.hid q5
      clear q5
      cases b1 <;> cases b2
      all_goals
        go_enter Tryd.func54, Tryd.ntmps54
        go_wp2_with (go_at_call 53; refine (PE.out _).mono ?_; rintro e w' ⟨rfl, rfl⟩)
        go_ret
        exact ⟨ret_int (by rw [HR.out]; rfl), hA.out⟩
end Go.Proofs.YtlmdkcpiimpniaaDoor

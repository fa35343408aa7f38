/- Contracts of the functions of package seepageref01 that the laws of layer 33 reach: Add, Order. -/
import Derived.Test.YtbmlkanonmooeaaS
import Derived.ChangeKeysEq
namespace Go.Proofs.Ytbmlkanonmooeaa
open Go.ChangeShapes Go.WideShapes Go.ChangeAt Go.RowKit

def num (s : Bool) (A : Nat → Int) : Int := if s then - vl A 6 else vl A 6
theorem vl6 (A : Nat → Int) : vl A 6 = A 0 + A 1 * 4294967296 + A 2 * 18446744073709551616 + A 3 * 79228162514264337593543950336 + A 4 * 340282366920938463463374607431768211456 + A 5 * 1461501637330902918203684832716283019655932542976 := by
  simp [vl, pw]
theorem pw6 : pw 6 = 6277101735386680763835789423207666416102355444464034512896 := by decide
theorem mg_fits {x : Int} (h : fits x) : 0 ≤ mg x ∧ mg x ≤ 9223372036854775808 := by unfold fits at h; unfold mg; split <;> omega
theorem fr_limbs {x : Int} (h : fits x) : Limbs (fr x) := by
  have := mg_fits h
  intro i
  match i with
  | 0 => simp only [fr]; omega
  | 1 => simp only [fr]; omega
  | _ + 2 => simp [fr]
theorem fr_vl {x : Int} : vl (fr x) 6 = mg x := by
  rw [vl6]; simp only [fr]; omega
theorem fr_num (x : Int) : num (decide (x < 0)) (fr x) = x := by
  unfold num; rw [fr_vl]; unfold mg; by_cases h : x < 0 <;> simp [h]

def WidePost (x : Int) (w : World) (e : Ending) (w' : World) : Prop := ∃ s C, Limbs C ∧ num s C = x ∧ e = .returned (.agg (wdc s C)) ∧ Below w.heap.size w w'
theorem plus_any (s1 s2 : Bool) (A1 B1 : Nat → Int) (w : World) (hA : Limbs A1) (hB : Limbs B1) (hsum : vl A1 6 + vl B1 6 < pw 6) :
    Calls Try.prog 35 #[.agg (wdc s1 A1), .agg (wdc s2 B1)] w (WidePost (num s1 A1 + num s2 B1) w) := by
  have a1 := vl_lt hA 6
  have a2 := vl_lt hB 6
  by_cases hs : s2 = s1
  · subst hs
    refine (plus_same s2 A1 B1 w hA hB).mono fun e w' h => ⟨s2, _, dg_limbs A1 B1, ?_, h.1, h.2⟩
    have h1 := sum_eq A1 B1 6
    have h2 := cy_01 hA hB 6
    have h3 := vl_lt (dg_limbs A1 B1) 6
    have h4 : cy A1 B1 6 = 0 := by
      rcases (show cy A1 B1 6 = 0 ∨ cy A1 B1 6 = 1 by omega) with e | e
      · exact e
      · rw [e] at h1; omega
    rw [h4] at h1
    unfold num; cases s2 <;> simp <;> omega
  · have e2 : s2 = !s1 := by cases s1 <;> cases s2 <;> simp_all
    subst e2
    by_cases hc : vl B1 6 ≤ vl A1 6
    · refine (plus_ge s1 A1 B1 w hA hB hc).mono fun e w' h => ⟨s1, _, df_limbs A1 B1, ?_, h.1, h.2⟩
      have := diff_ge hA hB 6 hc
      unfold num; cases s1 <;> simp <;> omega
    · refine (plus_lt s1 A1 B1 w hA hB (by omega)).mono fun e w' h => ⟨!s1, _, df_limbs B1 A1, ?_, h.1, h.2⟩
      have := diff_ge hB hA 6 (by omega)
      unfold num; cases s1 <;> simp <;> omega

theorem info55 : (Try.prog.info? 55).isSome = true := by kernel_rfl
theorem cells55 : Try.prog.cellsOf 55 = 1 := by kernel_rfl
theorem und56 : Try.prog.underlying 56 = some (.array 6 55) := by kernel_rfl
theorem und55 : Try.prog.underlying 55 = some (.int .u64) := by kernel_rfl
theorem eq_arr (a0 a1 a2 a3 a4 a5 b0 b1 b2 b3 b4 b5 : Int) (w : World) :
    (Op.equalIn 10000 56 (.agg #[.int .u64 a0, .int .u64 a1, .int .u64 a2, .int .u64 a3, .int .u64 a4, .int .u64 a5]) (.agg #[.int .u64 b0, .int .u64 b1, .int .u64 b2, .int .u64 b3, .int .u64 b4, .int .u64 b5])).run Try.prog w = .ok (a0 == b0 && (a1 == b1 && (a2 == b2 && (a3 == b3 && (a4 == b4 && a5 == b5))))) w := by
  obtain ⟨i, hi⟩ := Option.isSome_iff_exists.1 info55
  rw [Go.run_equalIn_array w 9999 _ _ und56 hi, cells55]
  simp [Op.eqItems, List.range, List.range.loop, go_sem]
  repeat' split
  all_goals simp_all
theorem zero_eq {C : Nat → Int} (h : Limbs C) : (C 0 == 0 && (C 1 == 0 && (C 2 == 0 && (C 3 == 0 && (C 4 == 0 && C 5 == 0))))) = decide (vl C 6 = 0) := by
  rw [Bool.eq_iff_iff]
  simp only [Bool.and_eq_true, beq_iff_eq, decide_eq_true_eq]
  rw [vl_zero h 6]
  constructor
  · rintro ⟨h0, h1, h2, h3, h4, h5⟩ j hj
    match j, hj with
    | 0, _ => exact h0
    | 1, _ => exact h1
    | 2, _ => exact h2
    | 3, _ => exact h3
    | 4, _ => exact h4
    | 5, _ => exact h5
  · intro h; exact ⟨h 0 (by omega), h 1 (by omega), h 2 (by omega), h 3 (by omega), h 4 (by omega), h 5 (by omega)⟩
set_option maxHeartbeats 1000000 in
theorem zero_any (s : Bool) (C : Nat → Int) (w : World) (hC : Limbs C) :
    Calls Try.prog 45 #[.agg (wdc s C)] w fun e w' => e = .returned (.bool (decide (vl C 6 = 0))) ∧ Below w.heap.size w w' := by
  have HC := Lib.hid hC; clear hC
  go_enter Try.func45, Try.ntmps45
  have hE := fun w => eq_arr (C 0) (C 1) (C 2) (C 3) (C 4) (C 5) 0 0 0 0 0 0 w
  go_wp2
  go_ret
  refine ⟨ret_bool ?_, by go_grown⟩
  rw [← zero_eq HC.out]

set_option maxHeartbeats 1000000 in
theorem neg_any (s : Bool) (C : Nat → Int) (w : World) :
    Calls Try.prog 43 #[.agg (wdc s C)] w fun e w' => e = .returned (.agg (wdc (!s) C)) ∧ Below w.heap.size w w' := by
  go_enter Try.func43, Try.ntmps43
  go_wp2
  refine bodyPost_ret (v := .agg (wdc (!s) C)) (by simp [results, Try.results43, go_sem]) rfl ⟨rfl, ?_⟩
  go_grown

def sgn (x : Int) : Int := if x = 0 then 0 else if x < 0 then -1 else 1
theorem sgn_z {x : Int} (h : x = 0) : sgn x = 0 := by simp [sgn, h]
theorem sgn_n {x : Int} (h : x < 0) : sgn x = -1 := by simp [sgn, h]; omega
theorem sgn_p {x : Int} (h : 0 < x) : sgn x = 1 := by simp [sgn]; omega
set_option maxHeartbeats 1000000 in
theorem sign_any (s : Bool) (C : Nat → Int) (w : World) (hC : Limbs C) :
    Calls Try.prog 42 #[.agg (wdc s C)] w fun e w' => e = .returned (.int .i64 (sgn (num s C))) ∧ Below w.heap.size w w' := by
  have hb := vl_lt hC 6
  have HC := Lib.hid hC; clear hC
  by_cases hz : vl C 6 = 0
  · have Hs := Lib.hid (sgn_z (x := num s C) (by unfold num; split <;> omega))
    have hd : decide (vl C 6 = 0) = true := by simp [hz]
    have Hd := Lib.hid hd
    clear hz hb hd
    go_enter Try.func42, Try.ntmps42
    go_wp2_with (go_at_call 45; refine (zero_any s C _ HC.out).mono ?_; rintro e w1 ⟨rfl, hb1⟩; rw [Hd.out]; have B1 := Lib.hid hb1; clear hb1)
    go_ret
    exact ⟨by rw [Hs.out]; rfl, ((Below.alloc (Below.refl _ _) (Nat.le_refl _) _).trans (B1.out.mono (by simp)))⟩
  · have hd : decide (vl C 6 = 0) = false := by simp [hz]
    have Hd := Lib.hid hd
    cases s
    · have Hs := Lib.hid (sgn_p (x := num false C) (by unfold num; simp; omega))
      clear hz hb hd
      go_enter Try.func42, Try.ntmps42
      go_wp2_with (go_at_call 45; refine (zero_any false C _ HC.out).mono ?_; rintro e w1 ⟨rfl, hb1⟩; rw [Hd.out]; have B1 := Lib.hid hb1; clear hb1; have hc : w1.cell? ⟨w.heap.size, 0, none⟩ = some (.bool false) := by rw [B1.out.cell (p := ⟨w.heap.size, 0, none⟩) (by simp)]; simp)
      go_ret
      exact ⟨by rw [Hs.out]; rfl, ((Below.alloc (Below.refl _ _) (Nat.le_refl _) _).trans (B1.out.mono (by simp)))⟩
    · have Hs := Lib.hid (sgn_n (x := num true C) (by unfold num; simp; omega))
      clear hz hb hd
      go_enter Try.func42, Try.ntmps42
      go_wp2_with (go_at_call 45; refine (zero_any true C _ HC.out).mono ?_; rintro e w1 ⟨rfl, hb1⟩; rw [Hd.out]; have B1 := Lib.hid hb1; clear hb1; have hc : w1.cell? ⟨w.heap.size, 0, none⟩ = some (.bool true) := by rw [B1.out.cell (p := ⟨w.heap.size, 0, none⟩) (by simp)]; simp)
      go_ret
      exact ⟨by rw [Hs.out]; rfl, ((Below.alloc (Below.refl _ _) (Nat.le_refl _) _).trans (B1.out.mono (by simp)))⟩
end Go.Proofs.Ytbmlkanonmooeaa

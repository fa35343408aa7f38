/- Contracts of the functions of package seepageref01 that the laws of layer 33 reach: Int, Add. -/
import Derived.Test.YtbmlkanonmooeaaT
namespace Go.Proofs.Ytbmlkanonmooeaa
open Go.ChangeShapes Go.WideShapes Go.ChangeAt Go.RowKit

theorem u64_back {a b : Int} (ha : 0 ≤ a ∧ a < 4294967296) (hb : 0 ≤ b ∧ b < 4294967296) : 0 ≤ b * 4294967296 + a ∧ b * 4294967296 + a ≤ 18446744073709551615 := by omega
def IntPost (x : Int) (w : World) (e : Ending) (w' : World) : Prop := e = .returned (.tuple #[.int .i64 (if fits x then x else 0), .bool (decide (fits x))]) ∧ Below w.heap.size w w'
theorem intPost_no {x : Int} {w w' : World} {e : Ending} (h : ¬ fits x) (he : e = .returned (.tuple #[.int .i64 0, .bool false])) (hb : Below w.heap.size w w') : IntPost x w e w' := ⟨by simp [h, he], hb⟩
theorem intPost_yes {x n : Int} {w w' : World} {e : Ending} (h : fits x) (hn : n = x) (he : e = .returned (.tuple #[.int .i64 n, .bool true])) (hb : Below w.heap.size w w') : IntPost x w e w' := ⟨by simp [h, he, hn], hb⟩

set_option maxHeartbeats 1000000 in
theorem int_high (s : Bool) (C : Nat → Int) (w : World) (hC : Limbs C) (hi : ¬ (C 2 = 0 ∧ C 3 = 0 ∧ C 4 = 0 ∧ C 5 = 0)) :
    Calls Try.prog 44 #[.agg (wdc s C)] w (IntPost (num s C) w) := by
  have hno : ¬ fits (num s C) := by
    have h0 := hC 0; have h1 := hC 1; have h2 := hC 2; have h3 := hC 3; have h4 := hC 4; have h5 := hC 5
    have hv := vl6 C
    have hbig : 18446744073709551616 ≤ vl C 6 := by omega
    unfold fits num; cases s <;> simp <;> omega
  have HN := Lib.hid hno
  clear hno hC
  by_cases g2 : C 2 = 0
  · have e2 : (C 2 != 0) = false := by simp [g2]
    by_cases g3 : C 3 = 0
    · have e3 : (C 3 != 0) = false := by simp [g3]
      by_cases g4 : C 4 = 0
      · have e4 : (C 4 != 0) = false := by simp [g4]
        have e5 : (C 5 != 0) = true := by simp; intro g5; exact hi ⟨g2, g3, g4, g5⟩
        clear g2 g3 g4 hi
        go_enter Try.func44, Try.ntmps44
        go_wp2
        go_ret2
        exact intPost_no HN.out rfl (by go_grown)
      · have e4 : (C 4 != 0) = true := by simp [g4]
        clear g2 g3 g4 hi
        go_enter Try.func44, Try.ntmps44
        go_wp2
        go_ret2
        exact intPost_no HN.out rfl (by go_grown)
    · have e3 : (C 3 != 0) = true := by simp [g3]
      clear g2 g3 hi
      go_enter Try.func44, Try.ntmps44
      go_wp2
      go_ret2
      exact intPost_no HN.out rfl (by go_grown)
  · have e2 : (C 2 != 0) = true := by simp [g2]
    clear g2 hi
    go_enter Try.func44, Try.ntmps44
    go_wp2
    go_ret2
    exact intPost_no HN.out rfl (by go_grown)

set_option maxHeartbeats 1000000 in
theorem int_low (s : Bool) (C : Nat → Int) (w : World) (hC : Limbs C) (hi : C 2 = 0 ∧ C 3 = 0 ∧ C 4 = 0 ∧ C 5 = 0) :
    Calls Try.prog 44 #[.agg (wdc s C)] w (IntPost (num s C) w) := by
  obtain ⟨g2, g3, g4, g5⟩ := hi
  have h0 := hC 0; have h1 := hC 1
  have hv := vl6 C
  rw [g2, g3, g4, g5] at hv
  have e2 : (C 2 != 0) = false := by simp [g2]
  have e3 : (C 3 != 0) = false := by simp [g3]
  have e4 : (C 4 != 0) = false := by simp [g4]
  have e5 : (C 5 != 0) = false := by simp [g5]
  have HV : Hid (vl C 6 = C 1 * 4294967296 + C 0) := Lib.hid (by omega)
  clear hv g2 g3 g4 g5 hC
  cases s
  · by_cases hb : 9223372036854775807 < C 1 * 4294967296 + C 0
    · have HN : Hid (¬ fits (num false C)) := Lib.hid (by unfold fits num; rw [HV.out]; simp; omega)
      go_enter Try.func44, Try.ntmps44
      go_wp2
      go_ret2
      exact intPost_no HN.out rfl (by go_grown)
    · have HN : Hid (fits (num false C)) := Lib.hid (by unfold fits num; rw [HV.out]; simp; omega)
      have HE : Hid (C 1 * 4294967296 + C 0 = num false C) := Lib.hid (by unfold num; rw [HV.out]; simp)
      go_enter Try.func44, Try.ntmps44
      go_wp2
      go_ret2
      exact intPost_yes HN.out HE.out rfl (by go_grown)
  · by_cases hb : 9223372036854775808 < C 1 * 4294967296 + C 0
    · have HN : Hid (¬ fits (num true C)) := Lib.hid (by unfold fits num; rw [HV.out]; simp; omega)
      go_enter Try.func44, Try.ntmps44
      go_wp2
      go_ret2
      exact intPost_no HN.out rfl (by go_grown)
    · have HN : Hid (fits (num true C)) := Lib.hid (by unfold fits num; rw [HV.out]; simp; omega)
      by_cases hz : C 1 * 4294967296 + C 0 = 0
      · have HE : Hid (0 = num true C) := Lib.hid (by unfold num; rw [HV.out]; simp; omega)
        have ez : (C 1 * 4294967296 + C 0 == 0) = true := by simp [hz]
        clear hz
        go_enter Try.func44, Try.ntmps44
        go_wp2
        go_ret2
        exact intPost_yes HN.out HE.out rfl (by go_grown)
      · have HE : Hid (-(C 1 * 4294967296 + C 0 - 1) - 1 = num true C) := Lib.hid (by unfold num; rw [HV.out]; simp; omega)
        have ez : (C 1 * 4294967296 + C 0 == 0) = false := by simp [hz]
        have hp : 1 ≤ C 1 * 4294967296 + C 0 := by omega
        clear hz
        go_enter Try.func44, Try.ntmps44
        go_wp2
        go_ret2
        exact intPost_yes HN.out HE.out rfl (by go_grown)
theorem int_any (s : Bool) (C : Nat → Int) (w : World) (hC : Limbs C) : Calls Try.prog 44 #[.agg (wdc s C)] w (IntPost (num s C) w) := by
  by_cases hi : C 2 = 0 ∧ C 3 = 0 ∧ C 4 = 0 ∧ C 5 = 0
  · exact int_low s C w hC hi
  · exact int_high s C w hC hi
end Go.Proofs.Ytbmlkanonmooeaa

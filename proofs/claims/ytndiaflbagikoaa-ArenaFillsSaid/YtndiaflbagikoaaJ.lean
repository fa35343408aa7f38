/- The walk of the law ArenaFills. -/
import Derived.Test.YtndiaflbagikoaaI
namespace Go.Proofs.Ytndiaflbagikoaa
open Go.ChangeShapes Go.WideShapes Go.ChangeAt Go.RowKit

theorem filled_use {n m k : Nat} (h : k < m) : (filled n m).inUse k = true := by simp [filled, Ar.inUse, h]
theorem filled_count {n m k : Nat} (h : k < m) : (filled n m).count k = 1 := by simp [filled, Ar.count, h]
theorem filled_none {n : Nat} : (filled n n).next = none := by simp [filled, Ar.next]
theorem filled_list (n m : Nat) : (filled n m).list = List.range m := by
  unfold Ar.list Ar.upTo
  rw [List.filter_eq_self.2]
  · rfl
  · intro k hk; exact filled_use (List.mem_range.1 hk)
def FillRel (w : World) (b n : Nat) (vi : Value) (wr : World) : Prop :=
  ∃ k : Nat, k ≤ n ∧ vi = .int .i64 k ∧ IsAr wr b (filled n k) (Own w.heap.size []) ∧ Below w.heap.size w wr

set_option maxHeartbeats 2000000 in
theorem fills_law (s : Int) (w : World) (hs : (Lit.int .u16 s).wf = true) :
    Calls Try.prog 5 #[.int .u16 s] w fun e w' => e = .returned (.bool true) ∧ Below w.heap.size w w' := by
  have hs' := bounds_u16 hs
  have hn1 : 1 ≤ nOf s := by unfold nOf; omega
  have hn2 : nOf s ≤ 300 := by unfold nOf; omega
  have hm0 : mOf s 0 = 0 := by simp [mOf]
  have HM := Lib.hid (made_any s 0 w hs' (by omega))
  rw [hm0] at HM
  clear hs hs' hm0
  generalize nOf s = n at *
  go_enter Try.func5, Try.ntmps5
  go_wp2_with fail
  refine (HM.out).mono ?_; rintro e w1 ⟨rfl, hi, hb, hsz⟩
  have I1 := Lib.hid hi; have B1 := Lib.hid hb
  clear hi hb hsz
  go_wp2_with fail
  go_loopw [6, 7, 8] (fun vi _ _ wr => FillRel w w.heap.size n vi wr) (fun vi _ _ _ => n - (intOf vi).toNat)
  case atStart => exact ⟨0, Nat.zero_le _, rfl, I1.out, B1.out⟩
  case round =>
    obtain ⟨k, hk, rfl, hi, hb⟩ := hrel
    have I2 := Lib.hid hi; have B2 := Lib.hid hb; clear hi hb
    by_cases hlt : k < n
    · have hf1 : (filled n (k + 1)).inUse k = true := filled_use (by omega)
      have hf2 : (filled n (k + 1)).count k = 1 := filled_count (by omega)
      have F1 := Lib.hid hf1; have F2 := Lib.hid hf2; clear hf1 hf2
      go_wp2_with fail
      refine (alloc_own I2.out B2.out.size (by simp) k (filled_next hlt)).mono ?_; rintro e w3 ⟨rfl, hi, ht⟩
      have I3 := Lib.hid (show IsAr w3 w.heap.size (filled n (k + 1)) (Own w.heap.size []) by rw [← filled_pop]; exact hi)
      have B3 := Lib.hid (B2.out.trans (ht.own_below B2.out.size)); clear hi ht
      go_wp2_with fail
      refine (used_some I3.out k hlt).mono ?_; rintro e w4 ⟨rfl, rfl⟩
      rw [F1.out]
      go_wp2_with fail
      refine (times_some I3.out k hlt).mono ?_; rintro e w4 ⟨rfl, rfl⟩
      rw [F2.out]
      go_wp2_with fail
      go_roundw
      case rel => exact ⟨k + 1, by omega, by go_num, I3.out, B3.out⟩
      case measure => simp [intOf]; omega
    · have hkn : k = n := by omega
      subst hkn
      go_wp2_with fail
      refine (alloc_none I2.out filled_none).mono ?_; rintro e w3 ⟨rfl, hb⟩
      have I3 := Lib.hid (I2.out.below hb); have B3 := Lib.hid (B2.out.trans (hb.mono B2.out.size)); clear hb
      go_wp2_with fail
      refine (next_none I3.out filled_none).mono ?_; rintro e w4 ⟨rfl, hb⟩
      have I4 := Lib.hid (I3.out.below hb); have B4 := Lib.hid (B3.out.trans (hb.mono B3.out.size)); clear hb
      go_wp2_with fail
      refine (len_is I4.out).mono ?_; rintro e w5 ⟨rfl, rfl⟩
      rw [show (((filled k k).begun - (filled k k).stack.length : Nat) : Int) = (k : Int) from by simp [filled]]
      go_wp2_with fail
      refine (list_is I4.out).mono ?_; rintro e w5 ⟨a, cap, rfl, hin, _, hb⟩
      have B5 := Lib.hid (B4.out.trans (hb.mono B4.out.size)); clear hb hin
      rw [show (filled k k).list.length = k from by rw [filled_list]; simp]
      go_wp2_with fail
      refine (works_any _).mono ?_; rintro e w6 ⟨rfl, hb⟩
      have B6 := Lib.hid (B5.out.trans (hb.mono B5.out.size)); clear hb
      go_wp2_with fail
      go_ret
      exact ⟨rfl, B6.out⟩
end Go.Proofs.Ytndiaflbagikoaa

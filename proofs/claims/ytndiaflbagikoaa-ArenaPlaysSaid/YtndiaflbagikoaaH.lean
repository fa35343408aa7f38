/- made. -/
import Derived.Test.YtndiaflbagikoaaG
namespace Go.Proofs.Ytndiaflbagikoaa
open Go.ChangeShapes Go.WideShapes Go.ChangeAt Go.RowKit

/-- An arena of n slots of which the first m are in use. -/
def filled (n m : Nat) : Ar := ⟨n, m, [], fun k => if k < m then 1 else 0⟩
theorem filled_0 (n : Nat) : filled n 0 = fresh n := by simp [filled, fresh]
theorem filled_pop (n m : Nat) : (filled n m).pop = filled n (m + 1) := by
  simp only [filled, Ar.pop, Ar.mk.injEq, true_and]
  funext k
  by_cases h : k = m
  · simp [h]
  · simp [h]; split <;> split <;> first | rfl | omega
theorem filled_next {n m : Nat} (h : m < n) : (filled n m).next = some m := by simp [filled, Ar.next, h]

theorem lt_of_ar {w : World} {b : Nat} {A : Ar} {F : Nat → Prop} (h : IsAr w b A F) : b < w.heap.size := by
  obtain ⟨bs, v, h1, _⟩ := h
  exact lt_of_block h1.head
def MadeRel (w : World) (b n m : Nat) (vi : Value) (wr : World) : Prop :=
  ∃ k : Nat, k ≤ m ∧ vi = .int .i64 k ∧ IsAr wr b (filled n k) (Own w.heap.size []) ∧ Below w.heap.size w wr
def nOf (s : Int) : Nat := 1 + s.toNat % 300
def mOf (s u : Int) : Nat := u.toNat % (nOf s + 1)
set_option maxHeartbeats 1000000 in
theorem made_any (s u : Int) (w : World) (hs : 0 ≤ s ∧ s ≤ 65535) (hu : 0 ≤ u ∧ u ≤ 65535) :
    Calls Try.prog 14 #[.int .u16 s, .int .u16 u] w fun e w' => e = .returned (.tuple #[.pointer (some ⟨w.heap.size, 0, none⟩), .int .i64 (nOf s), .int .i64 (mOf s u)]) ∧
      IsAr w' w.heap.size (filled (nOf s) (mOf s u)) (Own w.heap.size []) ∧ Below w.heap.size w w' ∧ w.heap.size < w'.heap.size := by
  obtain ⟨s, rfl⟩ := Int.eq_ofNat_of_zero_le hs.1
  obtain ⟨u, rfl⟩ := Int.eq_ofNat_of_zero_le hu.1
  have hs2 := hs.2; have hu2 := hu.2
  have en : (1 : Int) + (s : Int) % 300 = ((nOf s : Nat) : Int) := by simp [nOf]
  have em : (u : Int) % ((nOf s : Int) + 1) = ((mOf s u : Nat) : Int) := by simp [mOf]
  have hn1 : 1 ≤ nOf s := by unfold nOf; omega
  have hn2 : nOf s ≤ 300 := by unfold nOf; omega
  have hm1 : mOf s u < nOf s + 1 := Nat.mod_lt _ (by omega)
  generalize nOf s = n at *
  generalize mOf s u = m at *
  have hmu : 0 ≤ (u : Int) % ((n : Int) + 1) := Int.emod_nonneg _ (by omega)
  go_enter Try.func14, Try.ntmps14
  go_wp2_with fail
  rw [em]
  refine (new_own n _ (by omega)).mono ?_; rintro e w1 ⟨rfl, hi, hb, hsz⟩
  have I1 := Lib.hid hi; have B1 := Lib.hid hb; have S1 := Lib.hid hsz
  have HE := Lib.hid en; have HM := Lib.hid em
  clear hi hb hsz en em hmu
  go_wp2_with fail
  go_loopw [11, 12, 13] (fun vi _ _ wr => MadeRel w w.heap.size n m vi wr) (fun vi _ _ _ => m - (intOf vi).toNat)
  case atStart => exact ⟨0, Nat.zero_le _, rfl, by rw [filled_0]; exact I1.out, B1.out⟩
  case round =>
    obtain ⟨k, hk, rfl, hi, hb⟩ := hrel
    have I2 := Lib.hid hi; have B2 := Lib.hid hb; clear hi hb
    by_cases hlt : k < m
    · go_wp2_with fail
      refine (alloc_own I2.out B2.out.size (by simp) k (filled_next (by omega))).mono ?_; rintro e w3 ⟨rfl, hi, ht⟩
      have I3 := Lib.hid (show IsAr w3 w.heap.size (filled n (k + 1)) (Own w.heap.size []) by rw [← filled_pop]; exact hi)
      have B3 := Lib.hid (B2.out.trans (ht.own_below B2.out.size)); clear hi ht
      go_wp2_with fail
      go_roundw
      case rel => exact ⟨k + 1, by omega, by go_num, I3.out, B3.out⟩
      case measure => simp [intOf]; omega
    · have hkm : k = m := by omega
      subst hkm
      go_wp2_with fail
      go_ret3
      exact ⟨rfl, I2.out, B2.out, lt_of_ar I2.out⟩
end Go.Proofs.Ytndiaflbagikoaa

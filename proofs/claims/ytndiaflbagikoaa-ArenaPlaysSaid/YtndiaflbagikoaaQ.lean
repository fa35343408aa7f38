/- The walk of the law ArenaReturns. -/
import Derived.Test.YtndiaflbagikoaaP
namespace Go.Proofs.Ytndiaflbagikoaa
open Go.ChangeShapes Go.WideShapes Go.ChangeAt Go.RowKit

def nxt (A : Ar) : Int := match A.next with | some k => k | none => 0
def nxb (A : Ar) : Bool := A.next.isSome
theorem next_is {w : World} {b : Nat} {A : Ar} {F : Nat → Prop} (h : IsAr w b A F) :
    Calls Try.prog 17 #[.pointer (some ⟨b, 0, none⟩)] w fun e w' => e = .returned (.tuple #[.int .i64 (nxt A), .bool (nxb A)]) ∧ Below w.heap.size w w' := by
  cases hn : A.next with
  | none => rw [show nxt A = 0 by simp [nxt, hn], show nxb A = false by simp [nxb, hn]]; exact next_none h hn
  | some k => rw [show nxt A = k by simp [nxt, hn], show nxb A = true by simp [nxb, hn]]; exact next_some h k hn
theorem back_next (A : Ar) (k : Nat) : (A.push k).next = some k := rfl
theorem back_stack (A : Ar) (k : Nat) : (A.push k).pop.stack = A.stack := rfl
theorem back_begun (A : Ar) (k : Nat) : (A.push k).pop.begun = A.begun := rfl
theorem back_use (A : Ar) (k i : Nat) : (A.push k).pop.inUse i = A.inUse i := rfl
theorem back_list (A : Ar) (k : Nat) : (A.push k).pop.list = A.list := rfl
theorem back_nxt (A : Ar) (k : Nat) : nxt (A.push k).pop = nxt A := rfl
theorem back_nxb (A : Ar) (k : Nat) : nxb (A.push k).pop = nxb A := rfl
theorem back_count {A : Ar} {n a f k : Nat} (h : Kept A n a f) (hu : A.inUse k = true) (ha : a ≤ 500) : (A.push k).pop.count k = A.count k + 1 ∧ 0 ≤ A.count k ∧ A.count k ≤ 500 := by
  have hk : k < A.begun := by simp [Ar.inUse] at hu; exact hu.1
  have h1 := h.pos k hk
  have h2 := tot_le h.pos k hk
  rw [h.sum] at h2
  have e : A.count k = A.times k := by simp [Ar.count, hk]
  refine ⟨?_, by omega, by omega⟩
  have e2 : (A.push k).pop.count k = inc (A.times k) := by
    show (if k < A.begun then tick A.times k k else 0) = _
    simp [hk, tick]
  rw [e2, e, inc_small h1 (by omega)]
theorem push_len {A : Ar} (hg : A.Good) {k : Nat} (hu : A.inUse k = true) : (A.push k).begun - (A.push k).stack.length = A.list.length - 1 ∧ 1 ≤ A.list.length := by
  have h1 := upTo_length_stack hg
  have hk : k < A.begun ∧ k ∉ A.stack := by simpa [Ar.inUse] using hu
  have h2 := stack_lt hg hk.1 hk.2
  constructor
  · show A.begun - (k :: A.stack).length = _
    simp; omega
  · omega

set_option maxRecDepth 100000 in
set_option maxHeartbeats 4000000 in
theorem returns_law (s : Int) (la : Option Addr) (len cap : Nat) (zs : List Int) (i : Int) (w : World) (hs : (Lit.int .u8 s).wf = true) (hz : IsInts .u8 w la len cap zs) (hi : (Lit.int .i64 i).wf = true) :
    Calls Try.prog 8 #[.int .u8 s, .slice la len cap, .int .i64 i] w fun e w' => e = .returned (.bool true) ∧ Below w.heap.size w w' := by
  have HP := Lib.hid (play_any s la len cap zs w (bounds_u8 hs) hz)
  have hi' := bounds_i64 hi
  generalize nPlay s = n at *
  clear hs hz hi
  go_enter Try.func8, Try.ntmps8
  go_wp2_with fail
  refine (HP.out).mono ?_; rintro e w1 ⟨a, f, o, A, rfl, ha, hi, hk, hb⟩
  have I1 := Lib.hid (own_more hi (X' := []) (by simp)); have KP := Lib.hid hk; have B1 := Lib.hid hb
  clear hi hk hb
  go_wp2_with fail
  refine (list_own I1.out).mono ?_; rintro e w2 ⟨la2, cap2, X, rfl, hin, hX1, _, hX3, hi, hb⟩
  have I2 := Lib.hid hi; have B2 := Lib.hid (B1.out.trans (hb.mono B1.out.size)); have L2 := Lib.hid hin; have HX := Lib.hid hX1
  have HXL := Lib.hid (show ∀ x ∈ X, x < w2.heap.size from fun x hx => (hX3 x hx).elim (by simp) id)
  clear hi hb hin hX1 hX3 I1 B1
  have hcap2 : cap2 ≤ 9223372036854775807 := L2.out.hmax
  have hlc : A.list.length ≤ cap2 := L2.out.hle
  go_wp2_with fail
  refine (next_is I2.out).mono ?_; rintro e w3 ⟨rfl, hb⟩
  have I3 := Lib.hid (I2.out.below hb); have B3 := Lib.hid (B2.out.trans (hb.mono B2.out.size)); have L3 := Lib.hid (L2.out.below hb)
  have HXL3 := Lib.hid (show ∀ x ∈ X, x < w3.heap.size from fun x hx => Nat.lt_of_lt_of_le (HXL.out x hx) hb.size)
  clear hb I2 B2 L2 HXL
  by_cases hr : 0 ≤ i ∧ i < (n : Int)
  · obtain ⟨k, rfl⟩ := Int.eq_ofNat_of_zero_le hr.1
    have hkn : k < n := by omega
    clear hr
    have US := used_some I3.out k (by rw [KP.out.slots]; exact hkn)
    cases hu : A.inUse k
    · rw [hu] at US
      have HU := Lib.hid US; have HF := Lib.hid (free_none I3.out k (by rw [KP.out.slots]; exact hkn) hu)
      clear US hu
      go_wp2_with fail
      refine (HU.out).mono ?_; rintro e w4 ⟨rfl, rfl⟩
      go_wp2_with fail
      refine (HF.out).mono ?_; rintro e w4 ⟨rfl, rfl⟩
      have hk0 : (0 : Int) ≤ (k : Int) := by omega
      have hk1 : (k : Int) < (n : Int) := by omega
      go_wp2_with fail
      refine (cap_is I3.out).mono ?_; rintro e w4 ⟨rfl, rfl⟩
      rw [KP.out.slots]
      go_wp2_with fail
      refine (list_own I3.out).mono ?_; rintro e w5 ⟨la5, cap5, X5, rfl, hin, _, _, _, _, hb⟩
      have B5 := Lib.hid (B3.out.trans (hb.mono B3.out.size)); have L5 := Lib.hid hin; have L35 := Lib.hid (L3.out.below hb)
      clear hb hin
      go_wp2_with fail
      refine (same_yes L5.out L35.out).mono ?_; rintro e w6 ⟨rfl, hb⟩
      have B6 := Lib.hid (B5.out.trans (hb.mono B5.out.size)); clear hb
      go_wp2_with fail
      refine (works_any _).mono ?_; rintro e w7 ⟨rfl, hb⟩
      have B7 := Lib.hid (B6.out.trans (hb.mono B6.out.size)); clear hb
      go_wp2_with fail
      go_ret
      exact ⟨rfl, B7.out⟩
    · rw [hu] at US
      have HU := Lib.hid US; have Hu := Lib.hid hu
      have hbk := back_count KP.out hu ha
      have hpl := push_len I3.out.good hu
      have HT := Lib.hid (times_some I3.out k (by rw [KP.out.slots]; exact hkn))
      have hpu : (A.push k).inUse k = false := by rw [push_use]; simp
      have hc0 := hbk.2.1; have hc1 := hbk.2.2
      have HB := Lib.hid hbk.1; have HL := Lib.hid hpl.1; have hl1 := hpl.2; have HPU := Lib.hid hpu
      have h500 : A.list.length ≤ 1000 := by have := list_len I3.out.good; have := KP.out.bal; omega
      clear US hu hbk hpl hpu
      have HBN := Lib.hid (back_nxt A k); have HBB := Lib.hid (back_nxb A k)
      generalize A.count k = c at *
      go_wp2_with fail
      refine (HU.out).mono ?_; rintro e w4 ⟨rfl, rfl⟩
      go_wp2_with fail
      refine (HT.out).mono ?_; rintro e w4 ⟨rfl, rfl⟩
      go_wp2_with fail
      refine (free_some I3.out k Hu.out).mono ?_; rintro e w4 ⟨rfl, hia, ht⟩
      have I4 := Lib.hid hia; have B4 := Lib.hid (B3.out.trans (ht.own_below B3.out.size)); have L4 := Lib.hid (L3.out.keep ht (fun x hx hS => hS.2 (HX.out x hx)))
      have HXL4 := Lib.hid (show ∀ x ∈ X, x < w4.heap.size from fun x hx => Nat.lt_of_lt_of_le (HXL3.out x hx) ht.size)
      clear hia ht
      have HU4 := Lib.hid (used_some I4.out k (by show k < A.slots; rw [KP.out.slots]; exact hkn))
      rw [HPU.out] at HU4
      go_wp2_with fail
      refine (HU4.out).mono ?_; rintro e w5 ⟨rfl, rfl⟩
      go_wp2_with fail
      refine (len_is I4.out).mono ?_; rintro e w5 ⟨rfl, rfl⟩
      rw [HL.out]
      have hli : ((A.list.length - 1 : Nat) : Int) = (A.list.length : Int) - 1 := by omega
      have hl2 : (A.list.length : Int) ≤ 1000 := by omega
      have hl3 : (1 : Int) ≤ (A.list.length : Int) := by omega
      go_wp2_with fail
      refine (next_some I4.out k (back_next A k)).mono ?_; rintro e w5 ⟨rfl, hb⟩
      have HLI := Lib.hid hli; clear hli
      have I5 := Lib.hid (I4.out.below hb); have B5 := Lib.hid (B4.out.trans (hb.mono B4.out.size)); have L5 := Lib.hid (L4.out.below hb)
      have HXL5 := Lib.hid (show ∀ x ∈ X, x < w5.heap.size from fun x hx => Nat.lt_of_lt_of_le (HXL4.out x hx) hb.size)
      clear hb
      go_wp2_with fail
      refine (alloc_own I5.out B5.out.size HXL5.out k (back_next A k)).mono ?_; rintro e w6 ⟨rfl, hia, ht⟩
      have I6 := Lib.hid hia; have B6 := Lib.hid (B5.out.trans (ht.own_below B5.out.size)); have L6 := Lib.hid (L5.out.keep ht (fun x hx hS => hS.2 (HX.out x hx)))
      clear hia ht
      go_wp2_with fail
      refine (next_is I6.out).mono ?_; rintro e w7 ⟨rfl, hb⟩
      rw [HBN.out, HBB.out]
      have I7 := Lib.hid (I6.out.below hb); have B7 := Lib.hid (B6.out.trans (hb.mono B6.out.size)); have L7 := Lib.hid (L6.out.below hb)
      clear hb
      have HT7 := Lib.hid (times_some I7.out k (by show k < A.slots; rw [KP.out.slots]; exact hkn))
      rw [HB.out] at HT7
      go_wp2_with fail
      refine (HT7.out).mono ?_; rintro e w8 ⟨rfl, rfl⟩
      go_wp2_with fail
      refine (list_own I7.out).mono ?_; rintro e w8 ⟨la8, cap8, X8, rfl, hin, _, _, _, _, hb⟩
      rw [back_list] at hin
      rw [back_list]
      have B8 := Lib.hid (B7.out.trans (hb.mono B7.out.size)); have L8 := Lib.hid hin; have L78 := Lib.hid (L7.out.below hb)
      clear hb hin
      go_wp2_with fail
      refine (same_yes L8.out L78.out).mono ?_; rintro e w9 ⟨rfl, hb⟩
      have B9 := Lib.hid (B8.out.trans (hb.mono B8.out.size)); clear hb
      go_wp2_with fail
      refine (works_any _).mono ?_; rintro e w10 ⟨rfl, hb⟩
      have B10 := Lib.hid (B9.out.trans (hb.mono B9.out.size)); clear hb
      go_wp2_with fail
      go_ret
      exact ⟨rfl, B10.out⟩
  · have hfar : i < 0 ∨ (A.slots : Int) ≤ i := by have := KP.out.slots; omega
    have HU := Lib.hid (used_none I3.out i hfar); have HF := Lib.hid (free_far I3.out i hfar)
    clear hfar
    by_cases h0 : 0 ≤ i
    · have hni : (n : Int) ≤ i := by omega
      have hni2 : decide (i < (n : Int)) = false := by simp; omega
      clear hr
      go_wp2_with fail
      refine (HU.out).mono ?_; rintro e w4 ⟨rfl, rfl⟩
      go_wp2_with fail
      refine (HF.out).mono ?_; rintro e w4 ⟨rfl, rfl⟩
      go_wp2_with fail
      refine (cap_is I3.out).mono ?_; rintro e w4 ⟨rfl, rfl⟩
      rw [KP.out.slots]
      go_wp2_with fail
      refine (list_own I3.out).mono ?_; rintro e w5 ⟨la5, cap5, X5, rfl, hin, _, _, _, _, hb⟩
      have B5 := Lib.hid (B3.out.trans (hb.mono B3.out.size)); have L5 := Lib.hid hin; have L35 := Lib.hid (L3.out.below hb)
      clear hb hin
      go_wp2_with fail
      refine (same_yes L5.out L35.out).mono ?_; rintro e w6 ⟨rfl, hb⟩
      have B6 := Lib.hid (B5.out.trans (hb.mono B5.out.size)); clear hb
      go_wp2_with fail
      refine (works_any _).mono ?_; rintro e w7 ⟨rfl, hb⟩
      have B7 := Lib.hid (B6.out.trans (hb.mono B6.out.size)); clear hb
      go_wp2_with fail
      go_ret
      exact ⟨rfl, B7.out⟩
    · clear hr
      go_wp2_with fail
      refine (HU.out).mono ?_; rintro e w4 ⟨rfl, rfl⟩
      go_wp2_with fail
      refine (HF.out).mono ?_; rintro e w4 ⟨rfl, rfl⟩
      go_wp2_with fail
      refine (list_own I3.out).mono ?_; rintro e w5 ⟨la5, cap5, X5, rfl, hin, _, _, _, _, hb⟩
      have B5 := Lib.hid (B3.out.trans (hb.mono B3.out.size)); have L5 := Lib.hid hin; have L35 := Lib.hid (L3.out.below hb)
      clear hb hin
      go_wp2_with fail
      refine (same_yes L5.out L35.out).mono ?_; rintro e w6 ⟨rfl, hb⟩
      have B6 := Lib.hid (B5.out.trans (hb.mono B5.out.size)); clear hb
      go_wp2_with fail
      refine (works_any _).mono ?_; rintro e w7 ⟨rfl, hb⟩
      have B7 := Lib.hid (B6.out.trans (hb.mono B6.out.size)); clear hb
      go_wp2_with fail
      go_ret
      exact ⟨rfl, B7.out⟩
end Go.Proofs.Ytndiaflbagikoaa

/- The walk of the law ArenaCounts. -/
import Derived.Test.YtndiaflbagikoaaO
namespace Go.Proofs.Ytndiaflbagikoaa
open Go.ChangeShapes Go.WideShapes Go.ChangeAt Go.RowKit

theorem list_mem {A : Ar} {k : Nat} : k ∈ A.list ↔ A.inUse k = true := by
  unfold Ar.list Ar.upTo
  rw [List.mem_filter, List.mem_range]
  constructor
  · exact fun h => h.2
  · intro h; refine ⟨?_, h⟩; simp [Ar.inUse] at h; exact h.1
theorem list_sorted (A : Ar) : A.list.Pairwise (· < ·) := (List.pairwise_lt_range).filter _
theorem upTo_length_stack {A : Ar} (hg : A.Good) : A.list.length + A.stack.length = A.begun := by
  have hp : (A.list ++ A.stack).Perm (List.range A.begun) := by
    rw [List.perm_ext_iff_of_nodup]
    · intro x
      rw [List.mem_append, list_mem, List.mem_range]
      simp [Ar.inUse]
      constructor
      · rintro (h | h)
        · exact h.1
        · exact hg.lt x h
      · intro h
        by_cases hx : x ∈ A.stack
        · exact Or.inr hx
        · exact Or.inl ⟨h, hx⟩
    · rw [List.nodup_append]
      refine ⟨(list_sorted A).imp (fun h => by omega), hg.nodup, fun x hx y hy e => ?_⟩
      rw [list_mem] at hx
      subst e
      simp [Ar.inUse] at hx
      exact hx.2 hy
    · exact List.nodup_range
  have := hp.length_eq
  simpa using this
theorem list_len {A : Ar} (hg : A.Good) : A.begun - A.stack.length = A.list.length := by have := upTo_length_stack hg; omega
theorem tot_count (A : Ar) {n : Nat} (h : A.begun ≤ n) : tot A.count n = tot A.times A.begun := by
  induction n with
  | zero => have : A.begun = 0 := by omega
            rw [this]; rfl
  | succ n ih =>
    by_cases e : A.begun = n + 1
    · rw [e]; exact tot_same (fun i hi => by simp [Ar.count, e, hi])
    · simp only [tot]; rw [ih (by omega)]; simp [Ar.count, show ¬ n < A.begun from by omega]
theorem count_pos {A : Ar} {n a f : Nat} (h : Kept A n a f) (i : Nat) : 0 ≤ A.count i := by
  unfold Ar.count; split
  · exact h.pos i (by assumption)
  · exact Int.le_refl _
theorem tot_nonneg {f : Nat → Int} (h : ∀ i, 0 ≤ f i) (n : Nat) : 0 ≤ tot f n := by
  induction n with
  | zero => simp [tot]
  | succ n ih => simp only [tot]; have := h n; omega
theorem tot_mono {f : Nat → Int} (h : ∀ i, 0 ≤ f i) {m n : Nat} (hm : m ≤ n) : tot f m ≤ tot f n := by
  induction n with
  | zero => rw [show m = 0 by omega]; exact Int.le_refl _
  | succ n ih =>
    by_cases e : m = n + 1
    · subst e; exact Int.le_refl _
    · simp only [tot]; have := ih (by omega); have := h n; omega

theorem getD_map (l : List Nat) (k : Nat) : (l.map fun (x : Nat) => (x : Int)).getD k 0 = ((l.getD k 0 : Nat) : Int) := by
  by_cases h : k < l.length
  · simp [List.getElem?_eq_getElem h]
  · simp [List.getElem?_eq_none (Nat.le_of_not_lt h)]

def CountRel1 (w : World) (A : Ar) (b : Nat) (X : List Nat) (la : Option Addr) (cap : Nat) (vi : Value) (wr : World) : Prop :=
  ∃ k : Nat, k ≤ A.list.length ∧ vi = .int .i64 k ∧ IsAr wr b A (Own w.heap.size X) ∧ IsInts .i64 wr la A.list.length cap (A.list.map fun (x : Nat) => (x : Int)) ∧ Below w.heap.size w wr
def CountRel2 (w : World) (A : Ar) (n b : Nat) (X : List Nat) (vs vi : Value) (wr : World) : Prop :=
  ∃ k : Nat, k ≤ n ∧ vi = .int .i64 k ∧ vs = .int .u64 (tot A.count k) ∧ IsAr wr b A (Own w.heap.size X) ∧ Below w.heap.size w wr

set_option maxRecDepth 100000 in
set_option maxHeartbeats 4000000 in
theorem counts_law (s : Int) (la : Option Addr) (len cap : Nat) (zs : List Int) (w : World) (hs : (Lit.int .u8 s).wf = true) (hz : IsInts .u8 w la len cap zs) :
    Calls Try.prog 7 #[.int .u8 s, .slice la len cap] w fun e w' => e = .returned (.bool true) ∧ Below w.heap.size w w' := by
  have HP := Lib.hid (play_any s la len cap zs w (bounds_u8 hs) hz)
  have hs' := bounds_u8 hs
  obtain ⟨s, rfl⟩ := Int.eq_ofNat_of_zero_le hs'.1
  have hs2 := hs'.2
  have en : (1 : Int) + (s : Int) % 40 = ((nPlay s : Nat) : Int) := by simp [nPlay]
  have hn1 : 1 ≤ nPlay s := by unfold nPlay; omega
  have hn2 : nPlay s ≤ 40 := by unfold nPlay; omega
  generalize nPlay s = n at *
  clear hs hz hs'
  go_enter Try.func7, Try.ntmps7
  go_wp2_with fail
  refine (HP.out).mono ?_; rintro e w1 ⟨a, f, o, A, rfl, ha, hi, hk, hb⟩
  have I1 := Lib.hid hi; have KP := Lib.hid hk; have B1 := Lib.hid hb; have HE := Lib.hid en
  clear hi hk hb en
  go_wp2_with fail
  refine (list_own I1.out).mono ?_; rintro e w2 ⟨la2, cap2, X, rfl, hin, hX1, _, _, hi, hb⟩
  have I2 := Lib.hid hi; have B2 := Lib.hid (B1.out.trans (hb.mono B1.out.size)); have L2 := Lib.hid hin; have HX := Lib.hid hX1
  clear hi hb hin hX1
  have hll := list_len I2.out.good
  have hle : A.list.length ≤ a := by have := KP.out.bal; omega
  have haf : a - f = A.list.length ∧ f ≤ a := by have := KP.out.bal; omega
  have hd : (a : Int) - (f : Int) = (A.list.length : Int) := by omega
  have hcap2 : cap2 ≤ 9223372036854775807 := L2.out.hmax
  go_wp2_with fail
  refine (len_is I2.out).mono ?_; rintro e w3 ⟨rfl, rfl⟩
  rw [hll]
  have HD := Lib.hid hd; have HLL := Lib.hid hll
  clear hll haf
  have hfa : (f : Int) ≤ a := by have := KP.out.bal; omega
  go_wp2_with fail
  refine (len_is I2.out).mono ?_; rintro e w3 ⟨rfl, rfl⟩
  rw [HLL.out]
  go_wp2_with fail
  refine (cap_is I2.out).mono ?_; rintro e w3 ⟨rfl, rfl⟩
  rw [KP.out.slots]
  have en := HE.out
  go_wp2_with fail
  clear en hd hfa hle
  go_loopw [4, 10] (fun _ vi wr => CountRel1 w A w.heap.size X la2 cap2 vi wr) (fun _ vi _ => A.list.length - (intOf vi).toNat)
  case atStart => exact ⟨0, Nat.zero_le _, rfl, I2.out, L2.out, B2.out⟩
  case round =>
    clear I1 I2 L2 B2 B1 HP
    obtain ⟨k, hk, rfl, hia, hin, hbl⟩ := hrel
    have I := Lib.hid hia; have LI := Lib.hid hin; have BL := Lib.hid hbl
    clear hia hin hbl
    have hlm : A.list.length ≤ 9223372036854775807 := by have := LI.out.hle; omega
    by_cases hlt : k < A.list.length
    · obtain ⟨g, off, rfl, hg, hcell⟩ := LI.out.cell (by intro h; simp at h; simp [h] at hlt)
      have c1 := hcell k (by simpa using hlt)
      have hkx : A.list.getD k 0 = A.list[k] := by simp [hlt]
      have hxu : A.inUse (A.list.getD k 0) = true := by rw [hkx]; exact list_mem.1 (List.getElem_mem hlt)
      have hxn : A.list.getD k 0 < n := by
        have h1 : A.list.getD k 0 < A.begun := by have := hxu; simp [Ar.inUse] at this; exact this.1
        have := I.out.good.le; have := KP.out.slots; omega
      rw [getD_map] at c1
      have SL := KP.out.slots
      have HSL := Lib.hid SL; clear SL
      by_cases h0 : 0 < k
      · have c0 := hcell (k - 1) (by simp; omega)
        rw [getD_map] at c0
        have hlt2 : A.list.getD (k - 1) 0 < A.list.getD k 0 := by
          rw [hkx, show A.list.getD (k - 1) 0 = A.list[k - 1] by simp [show k - 1 < A.list.length by omega]]
          exact List.pairwise_iff_getElem.1 (list_sorted A) (k - 1) k (by omega) hlt (by omega)
        clear hcell hkx
        generalize A.list.getD k 0 = x at *
        generalize A.list.getD (k - 1) 0 = y at *
        have US := fun N => (used_some (I.out.drewN N) x (by rw [HSL.out]; exact hxn)).mono (fun e w' (hh : _ ∧ _) => (And.intro hh.1 hh.2.symm))
        rw [hxu] at US
        have HUS := Lib.hid US; clear US hxu
        have hk1 : ((k : Int) - 1).toNat = k - 1 := by omega
        have hk2 : (0 : Int) ≤ (k : Int) - 1 := by omega
        have hk3 : (k : Int) - 1 < (A.list.length : Int) := by omega
        have hk4 : IntKind.i64.wrap ((k : Int) - 1) = (k : Int) - 1 := IntWalk.i64_in _ (by omega)
        have hk5 : (y : Int) < (x : Int) := by omega
        go_wp2_with fail
        go_quiet ((go_at_call 15; exact Calls.quiet_of_same (HUS.out _)))
        go_wp2_with fail
        go_roundw
        case rel => exact ⟨k + 1, by omega, by go_num, I.out.drewN _, LI.out.below (below_drewN (Below.refl _ _) _), below_drewN BL.out _⟩
        case measure => simp [intOf]; omega
      · have hd0 : decide ((0 : Int) < (k : Int)) = false := by simp; omega
        have hd1 : ¬ (0 : Int) < (k : Int) := by omega
        clear hcell hkx
        generalize A.list.getD k 0 = x at *
        have US := fun N => (used_some (I.out.drewN N) x (by rw [HSL.out]; exact hxn)).mono (fun e w' (hh : _ ∧ _) => (And.intro hh.1 hh.2.symm))
        rw [hxu] at US
        have HUS := Lib.hid US; clear US hxu
        go_wp2_with fail
        go_quiet ((go_at_call 15; exact Calls.quiet_of_same (HUS.out _)))
        go_wp2_with fail
        go_roundw
        case rel => exact ⟨k + 1, by omega, by go_num, I.out.drewN _, LI.out.below (below_drewN (Below.refl _ _) _), below_drewN BL.out _⟩
        case measure => simp [intOf]; omega
    · go_wp2_with fail
      go_loopw [11, 12] (fun vs vi wr => CountRel2 w A n w.heap.size X vs vi wr) (fun _ vi _ => n - (intOf vi).toNat)
      case atStart => exact ⟨0, Nat.zero_le _, rfl, rfl, I.out, BL.out⟩
      case round =>
        clear I LI BL hlt hk
        obtain ⟨q, hq, rfl, rfl, hia, hbl⟩ := hrel
        have I := Lib.hid hia; have BL := Lib.hid hbl
        clear hia hbl
        have hsum := tot_count A (n := n) (by have := I.out.good.le; have := KP.out.slots; omega)
        rw [KP.out.sum] at hsum
        by_cases hqn : q < n
        · have hc0 := count_pos KP.out q
          have ht0 := tot_nonneg (count_pos KP.out) q
          have hts : tot A.count (q + 1) = tot A.count q + A.count q := rfl
          have htm := tot_mono (count_pos KP.out) (show q + 1 ≤ n by omega)
          rw [hsum, hts] at htm
          have HTS := Lib.hid hts; clear hts hsum
          have TS := times_some I.out q (by rw [KP.out.slots]; exact hqn)
          have HT := Lib.hid TS; clear TS
          generalize tot A.count q = t at *
          generalize A.count q = c at *
          go_wp2_with fail
          refine (cap_is I.out).mono ?_; rintro e w3 ⟨rfl, rfl⟩
          rw [KP.out.slots]
          go_wp2_with fail
          refine (HT.out).mono ?_; rintro e w3 ⟨rfl, rfl⟩
          go_wp2_with fail
          go_roundw
          case rel => exact ⟨q + 1, by omega, by go_num, by rw [HTS.out], I.out, BL.out⟩
          case measure => simp [intOf]; omega
        · obtain rfl : q = n := by omega
          have HS := Lib.hid hsum; clear hsum
          go_wp2_with fail
          refine (cap_is I.out).mono ?_; rintro e w3 ⟨rfl, rfl⟩
          rw [KP.out.slots, HS.out]
          go_wp2_with fail
          refine (works_any _).mono ?_; rintro e w6 ⟨rfl, hb⟩
          have B6 := Lib.hid (BL.out.trans (hb.mono BL.out.size)); clear hb
          go_wp2_with fail
          go_ret
          exact ⟨rfl, B6.out⟩
end Go.Proofs.Ytndiaflbagikoaa

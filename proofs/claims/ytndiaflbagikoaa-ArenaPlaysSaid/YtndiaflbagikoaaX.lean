/- The document's Next, List, Len; agree. -/
import Derived.Test.YtndiaflbagikoaaW
namespace Go.Proofs.Ytndiaflbagikoaa
open Go.ChangeShapes Go.WideShapes Go.ChangeAt Go.RowKit

/-- Every slot that has been in use was taken at least once, and at most m times. -/
def Tkn (A : Ar) (m : Int) : Prop := ∀ i, i < A.begun → 1 ≤ A.times i ∧ A.times i ≤ m
theorem taken_count {A : Ar} {m : Int} (h : Tkn A m) {k : Nat} (hk : k < A.begun) : (A.count k == 0) = false := by
  have := (h k hk).1
  simp [Ar.count, hk]; omega
theorem fresh_count {A : Ar} {k : Nat} (hk : A.begun ≤ k) : (A.count k == 0) = true := by simp [Ar.count, Nat.not_lt.2 hk]
def RNextRel (A : Ar) (vi : Value) : Prop := ∃ k : Nat, k ≤ A.begun ∧ vi = .int .i64 k
set_option maxHeartbeats 1000000 in
theorem rnext_is {w : World} {c : Nat} {A : Ar} {F : Nat → Prop} (h : IsRef w c A F) {m : Int} (hm : Tkn A m) :
    Calls Try.prog 34 #[.pointer (some ⟨c, 0, none⟩)] w fun e w' => e = .returned (.tuple #[.int .i64 (nxt A), .bool (nxb A)]) ∧ Below w.heap.size w w' := by
  obtain ⟨vu, vt, vr, h1, h2, h3⟩ := h
  obtain ⟨c0, c1, c2, c3, c4⟩ := h1.cells
  have hmax := h2.max; have hle := h2.le
  cases hs : A.stack with
  | cons x t =>
    have hr := h1.r
    rw [hs] at hr
    obtain ⟨g, cap, cur, rfl, hnc, hcm, hg, hcur, hl⟩ := row_at hr (show t.length < (x :: t).length by simp)
    have hx : (retL A)[t.length]? = some (cellN x) := by unfold retL; rw [hs]; simp
    have cg : w.cell? ⟨g, t.length, none⟩ = some (.int .i64 x) := by rw [cell_of hg, hcur, hx]; rfl
    have hnx : nxt A = x := by simp [nxt, Ar.next, hs]
    have hnb : nxb A = true := by simp [nxb, Ar.next, hs]
    rw [hnx, hnb]
    unfold maxLen at hcm
    clear h1 h2 h3 hs hr hcur hx hl hg c1 c2 c3 hnx hnb hm
    generalize hL : t.length = L at *
    have hln : (x :: t).length = L + 1 := by simp [hL]
    rw [hln] at c4 hnc
    clear hL hln
    have e1 : ((L + 1 : Nat) : Int) - 1 = (L : Int) := by omega
    go_enter Try.func34, Try.ntmps34
    go_wp2_with (go_at_call 40; refine (rvalid_yes c0).mono ?_; rintro e w' ⟨rfl, rfl⟩)
    have e2 : IntKind.i64.wrap ((L : Int) + 1 - 1) = (L : Int) := by rw [show (L : Int) + 1 - 1 = L by omega]; exact IntWalk.i64_in _ (by omega)
    have e3 : (0 : Int) ≤ (L : Int) := by omega
    have e4 : (L : Int) < (L : Int) + 1 := by omega
    go_quiet (fail)
    go_wp2
    go_ret2
    exact ⟨rfl, below_drewN (Below.refl _ _) _⟩
  | nil =>
    have hr := h1.r
    rw [hs] at hr
    obtain ⟨va, vc, rfl, _, _⟩ := row_shape hr
    have HT := Lib.hid h1.t
    have hn1 : A.begun < A.slots → nxt A = A.begun ∧ nxb A = true := fun h => by
      have e : A.next = some A.begun := by unfold Ar.next; rw [hs]; simp only; rw [if_pos h]
      simp [nxt, nxb, e]
    have hn2 : ¬ A.begun < A.slots → nxt A = 0 ∧ nxb A = false := fun h => by
      have e : A.next = none := by unfold Ar.next; rw [hs]; simp only; rw [if_neg h]
      simp [nxt, nxb, e]
    have HN1 := Lib.hid hn1; have HN2 := Lib.hid hn2
    clear hn1 hn2
    have HM := Lib.hid hm
    clear h1 h2 h3 hr hs hm c2
    go_enter Try.func34, Try.ntmps34
    go_wp2_with (go_at_call 40; refine (rvalid_yes c0).mono ?_; rintro e w' ⟨rfl, rfl⟩)
    go_loop [2, 3, 4] (fun _ _ vi => RNextRel A vi) (fun _ _ vi => A.begun + 1 - (intOf vi).toNat)
    case atStart => exact ⟨0, Nat.zero_le _, rfl⟩
    case round =>
      obtain ⟨k, hk, rfl⟩ := hrel
      by_cases hks : k < A.slots
      · obtain ⟨g, cap, cur, rfl, hnc, hcm, hg, hcur, _⟩ := row_at HT.out hks
        have cg : w.cell? ⟨g, k, none⟩ = some (.int .u64 (A.count k)) := by rw [cell_of hg, hcur, cntL_at hks]
        unfold maxLen at hcm
        clear hg hcur
        by_cases hkb : k < A.begun
        · have hz := taken_count HM.out hkb
          generalize A.count k = u at *
          go_wp2_with fail
          go_round
          case rel => exact ⟨k + 1, by omega, by go_num⟩
          case measure => simp [intOf]; omega
        · have hz := fresh_count (A := A) (show A.begun ≤ k by omega)
          have e : k = A.begun := by omega
          have hb2 : A.begun < A.slots := by omega
          generalize A.count k = u at *
          have HE := Lib.hid e
          have H2 := Lib.hid (HN1.out hb2)
          clear e hb2
          go_wp2_with fail
          go_ret2
          exact ⟨by rw [H2.out.1, H2.out.2, ← HE.out]; rfl, Below.refl _ _⟩
      · have e : ¬ A.begun < A.slots := by omega
        have H2 := Lib.hid (HN2.out e)
        clear e
        go_wp2_with fail
        go_ret2
        exact ⟨by rw [H2.out.1, H2.out.2]; rfl, Below.refl _ _⟩
theorem upTo_ge {A : Ar} {k : Nat} (h : A.begun ≤ k) : A.upTo k = A.list := by
  obtain ⟨d, rfl⟩ := Nat.exists_eq_add_of_le h
  clear h
  induction d with
  | zero => rfl
  | succ d ih => rw [show A.begun + (d + 1) = (A.begun + d) + 1 by omega, upTo_no (by simp [Ar.inUse]; intro h; omega), ih]
def RListRel (w : World) (A : Ar) (v vi : Value) (wr : World) : Prop :=
  ∃ k : Nat, k ≤ A.slots ∧ vi = .int .i64 k ∧ wr.ownsRow w.heap.size 3 1 v (A.upTo k).length ((A.upTo k).map cellN) ∧ Below w.heap.size w wr
set_option maxHeartbeats 1000000 in
theorem rlist_is {w : World} {c : Nat} {A : Ar} {F : Nat → Prop} (h : IsRef w c A F) : Calls Try.prog 39 #[.pointer (some ⟨c, 0, none⟩)] w (ListPost w A) := by
  obtain ⟨vu, vt, vr, h1, h2, h3⟩ := h
  obtain ⟨c0, c1, c2, c3, c4⟩ := h1.cells
  have hmax := h2.max; have hle := h2.le
  obtain ⟨i0, hi, hz0, hz1, hz2⟩ := info_parts info3
  have H := Lib.hid h1
  clear h1 h2 h3 c1 c2 c3 c4
  go_enter Try.func39, Try.ntmps39
  go_wp2_with (go_at_call 40; refine (rvalid_yes c0).mono ?_; rintro e w' ⟨rfl, rfl⟩)
  go_loopw [3, 4] (fun v vi wr => RListRel w A v vi wr) (fun _ vi _ => A.slots - (intOf vi).toNat)
  case atStart => exact ⟨0, Nat.zero_le _, rfl, World.ownsRow_nil _ _ _ _, Below.refl _ _⟩
  case round =>
    clear c0
    obtain ⟨k, hk, rfl, ho, hb⟩ := hrel
    have OW := Lib.hid ho; have HB := Lib.hid hb; clear ho hb
    have HM := Lib.hid (H.out.keep (Touch.of_below HB.out (fun _ => False)) (fun _ _ h => h))
    have hup := upTo_len A k
    obtain ⟨c0, c1, c2, c3, c4⟩ := HM.out.cells
    clear c0 c3 c4
    by_cases hlt : k < A.slots
    · obtain ⟨g, cap, cur, rfl, hnc, hcm, hg, hcur, _⟩ := row_at HM.out.u hlt
      have cg : wr.cell? ⟨g, k, none⟩ = some (.bool (A.inUse k)) := by rw [cell_of hg, hcur, useL_at hlt]
      unfold maxLen at hcm
      clear hg hcur
      cases huse : A.inUse k
      · rw [huse] at cg
        have HU := Lib.hid (upTo_no huse)
        clear huse
        go_wp2_with fail
        go_roundw
        case rel => exact ⟨k + 1, by omega, by go_num, by rw [HU.out]; exact OW.out, HB.out⟩
        case measure => simp [intOf]; omega
      · rw [huse] at cg
        have HU := Lib.hid (upTo_yes huse)
        clear huse
        go_wp2_with (at_builtin; refine wpList_append_own _ rfl (.tmp 23) (.tmp 25) 32 rfl w.heap.size 3 i0 (.int .i64 0) 1 8 Try.underlying32 hi hz0 hz1 hz2 rfl (by decide) _ _ _ rfl (OW.out.alloc _) ⟨wr.heap.size, 0, none⟩ 1 1 [cellN k] rfl rfl ?_ ?_ ?_ ?_ ?_ ?_)
        · intro j u hj
          match j, hj with
          | 0, hj => simp at hj; subst hj; simp [Addr.add, cellN]
        · intro u hu; simp at hu; subst hu; rfl
        · unfold maxLen; omega
        · omega
        · have := HB.out.size; simp; omega
        · intro v' w1 ho hg _
          have OW1 := Lib.hid ho
          have HB1 := Lib.hid ((Below.alloc HB.out HB.out.size _).grown hg (by have := HB.out.size; simp; omega) (fun g hg' => by
            rcases OW.out.2 with ⟨e, _⟩ | ⟨g', _, _, e, hb, _⟩
            · rw [e] at hg'; cases hg'
            · rw [e] at hg'; cases hg'; exact hb))
          clear ho hg c1 c2 cg
          go_wp2_with fail
          go_roundw
          case rel => exact ⟨k + 1, by omega, by go_num, by rw [HU.out]; simpa using OW1.out, HB1.out⟩
          case measure => simp [intOf]; omega
    · have hks : k = A.slots := by omega
      subst hks
      have e := upTo_ge (A := A) hle
      have OW' : Hid (wr.ownsRow w.heap.size 3 1 u3 A.list.length (A.list.map cellN)) := Lib.hid (by rw [← e]; exact OW.out)
      clear e OW
      obtain ⟨a, cap, hv, hin, hfr⟩ := ints_of_own OW'.out (fun x hx => by
        have := (List.mem_filter.1 hx).1
        simp at this; omega)
      have HI := Lib.hid hin; have HF := Lib.hid hfr
      clear hin hfr c2
      subst hv
      go_wp2_with fail
      go_ret
      exact ⟨a, cap, rfl, HI.out, fun g o s e => HF.out g (by rw [e]; rfl), HB.out⟩
theorem rlen_is {w : World} {c : Nat} {A : Ar} {F : Nat → Prop} (h : IsRef w c A F) : Calls Try.prog 37 #[.pointer (some ⟨c, 0, none⟩)] w fun e w' => e = .returned (.int .i64 A.list.length) ∧ Below w.heap.size w w' := by
  go_enter Try.func37, Try.ntmps37
  go_wp2_with fail
  refine (rlist_is h).mono ?_; rintro e w' ⟨a, cap, rfl, hin, hf, hb⟩
  have B := Lib.hid hb
  clear hin hf hb
  go_wp2_with fail
  go_ret
  exact ⟨rfl, B.out⟩
/-- Used and Times at any index, of both. -/
def usedI (A : Ar) (i : Int) : Bool := if 0 ≤ i ∧ i < A.slots then A.inUse i.toNat else false
def countI (A : Ar) (i : Int) : Int := if 0 ≤ i ∧ i < A.slots then A.count i.toNat else 0
section
variable {w : World} {b c : Nat} {A : Ar} {F G : Nat → Prop}
theorem used_i (h : IsAr w b A F) (i : Int) : Calls Try.prog 15 #[.pointer (some ⟨b, 0, none⟩), .int .i64 i] w fun e w' => e = .returned (.bool (usedI A i)) ∧ w = w' := by
  by_cases hi : 0 ≤ i ∧ i < A.slots
  · obtain ⟨k, rfl⟩ := Int.eq_ofNat_of_zero_le hi.1
    have e : usedI A k = A.inUse k := by simp only [usedI, if_pos hi]; rfl
    rw [e]; exact used_some h k (by omega)
  · have e : usedI A i = false := by simp only [usedI, if_neg hi]
    rw [e]; exact used_none h i (by omega)
theorem rused_i (h : IsRef w b A F) (i : Int) : Calls Try.prog 35 #[.pointer (some ⟨b, 0, none⟩), .int .i64 i] w fun e w' => e = .returned (.bool (usedI A i)) ∧ w = w' := by
  by_cases hi : 0 ≤ i ∧ i < A.slots
  · obtain ⟨k, rfl⟩ := Int.eq_ofNat_of_zero_le hi.1
    have e : usedI A k = A.inUse k := by simp only [usedI, if_pos hi]; rfl
    rw [e]; exact rused_some h k (by omega)
  · have e : usedI A i = false := by simp only [usedI, if_neg hi]
    rw [e]; exact rused_none h i (by omega)
theorem times_i (h : IsAr w b A F) (i : Int) : Calls Try.prog 19 #[.pointer (some ⟨b, 0, none⟩), .int .i64 i] w fun e w' => e = .returned (.int .u64 (countI A i)) ∧ w = w' := by
  by_cases hi : 0 ≤ i ∧ i < A.slots
  · obtain ⟨k, rfl⟩ := Int.eq_ofNat_of_zero_le hi.1
    have e : countI A k = A.count k := by simp only [countI, if_pos hi]; rfl
    rw [e]; exact times_some h k (by omega)
  · have e : countI A i = 0 := by simp only [countI, if_neg hi]
    rw [e]; exact times_none h i (by omega)
theorem rtimes_i (h : IsRef w b A F) (i : Int) : Calls Try.prog 36 #[.pointer (some ⟨b, 0, none⟩), .int .i64 i] w fun e w' => e = .returned (.int .u64 (countI A i)) ∧ w = w' := by
  by_cases hi : 0 ≤ i ∧ i < A.slots
  · obtain ⟨k, rfl⟩ := Int.eq_ofNat_of_zero_le hi.1
    have e : countI A k = A.count k := by simp only [countI, if_pos hi]; rfl
    rw [e]; exact rtimes_some h k (by omega)
  · have e : countI A i = 0 := by simp only [countI, if_neg hi]
    rw [e]; exact rtimes_none h i (by omega)
set_option maxHeartbeats 2000000 in
theorem agree_yes (ha : IsAr w b A F) (hr : IsRef w c A G) {m : Int} (hm : Tkn A m) (i : Int) :
    Calls Try.prog 24 #[.pointer (some ⟨b, 0, none⟩), .pointer (some ⟨c, 0, none⟩), .int .i64 i] w fun e w' => e = .returned (.bool true) ∧ Below w.heap.size w w' := by
  have HA := Lib.hid ha; have HR := Lib.hid hr; have HM := Lib.hid hm
  have hll := list_len ha.good
  have HL := Lib.hid hll
  clear ha hr hm hll
  generalize hx : nxt A = x
  generalize hy : nxb A = y
  generalize hu : usedI A i = u
  generalize ht : countI A i = t
  have HX := Lib.hid hx; have HY := Lib.hid hy; have HU := Lib.hid hu; have HT := Lib.hid ht
  clear hx hy hu ht
  go_enter Try.func24, Try.ntmps24
  go_wp2_with fail
  refine (next_is HA.out).mono ?_; rintro e w1 ⟨rfl, hb⟩
  rw [HX.out, HY.out]
  have A1 := Lib.hid (HA.out.below hb); have R1 := Lib.hid (HR.out.below hb); have B1 := Lib.hid hb
  clear hb
  go_wp2_with fail
  refine (rnext_is R1.out HM.out).mono ?_; rintro e w2 ⟨rfl, hb⟩
  rw [HX.out, HY.out]
  have A2 := Lib.hid (A1.out.below hb); have R2 := Lib.hid (R1.out.below hb); have B2 := Lib.hid (B1.out.trans (hb.mono B1.out.size))
  clear hb
  go_wp2_with fail
  refine (used_i A2.out i).mono ?_; rintro e w3 ⟨rfl, rfl⟩
  rw [HU.out]
  go_wp2_with fail
  refine (rused_i R2.out i).mono ?_; rintro e w3 ⟨rfl, rfl⟩
  rw [HU.out]
  go_wp2_with fail
  refine (times_i A2.out i).mono ?_; rintro e w3 ⟨rfl, rfl⟩
  rw [HT.out]
  go_wp2_with fail
  refine (rtimes_i R2.out i).mono ?_; rintro e w3 ⟨rfl, rfl⟩
  rw [HT.out]
  go_wp2_with fail
  refine (len_is A2.out).mono ?_; rintro e w3 ⟨rfl, rfl⟩
  rw [HL.out]
  go_wp2_with fail
  refine (rlen_is R2.out).mono ?_; rintro e w3 ⟨rfl, hb⟩
  have A3 := Lib.hid (A2.out.below hb); have R3 := Lib.hid (R2.out.below hb); have B3 := Lib.hid (B2.out.trans (hb.mono B2.out.size))
  clear hb
  go_wp2_with fail
  refine (cap_is A3.out).mono ?_; rintro e w4 ⟨rfl, rfl⟩
  go_wp2_with fail
  refine (rcap_is R3.out).mono ?_; rintro e w4 ⟨rfl, rfl⟩
  go_wp2_with fail
  refine (list_is A3.out).mono ?_; rintro e w4 ⟨a1, cap1, rfl, hin, _, hb⟩
  have R4 := Lib.hid (R3.out.below hb); have B4 := Lib.hid (B3.out.trans (hb.mono B3.out.size)); have L4 := Lib.hid hin
  clear hb hin
  go_wp2_with fail
  refine (rlist_is R4.out).mono ?_; rintro e w5 ⟨a2, cap2, rfl, hin, _, hb⟩
  have B5 := Lib.hid (B4.out.trans (hb.mono B4.out.size)); have L5 := Lib.hid (L4.out.below hb); have M5 := Lib.hid hin
  clear hb hin
  go_wp2_with fail
  refine (same_yes L5.out M5.out).mono ?_; rintro e w6 ⟨rfl, hb⟩
  have B6 := Lib.hid (B5.out.trans (hb.mono B5.out.size))
  clear hb
  go_wp2_with fail
  go_ret
  exact ⟨rfl, B6.out⟩
end
end Go.Proofs.Ytndiaflbagikoaa

/- The document's Sort; same, copied. -/
import Derived.Test.YtmholiddejgccaaO
namespace Go.Proofs.Ytmholiddejgccaa
open Go.ChangeShapes Go.WideShapes Go.ChangeAt Go.RowKit
section
variable {w : World} {aa ab : Option Addr} {la ca lb cb : Nat} {zs : List Rc}
theorem rperm_no {k : Int} (hk : ¬ (kn k ∧ (la : Int) ≤ 65536)) :
    Calls Try.prog 19 #[.slice aa la ca, .int .i64 k] w fun e w' => e = .returned (.tuple #[.slice none 0 0, .int .i64 (errK k la)]) ∧ w = w' := by
  have HC := Lib.hid (fun w => rcheck_no hk w)
  have he := (errK_cases (k := k) (n := la)).resolve_left (fun h => hk ⟨h.1, h.2.1⟩)
  obtain ⟨_, e1, e2⟩ := he
  clear hk
  generalize errK k la = er at *
  go_enter Try.func19, Try.ntmps19
  go_wp2_with fail
  refine (HC.out _).mono ?_; rintro e w' ⟨rfl, rfl⟩
  go_wp2_with fail
  go_ret2
  exact ⟨rfl, rfl⟩
theorem rsort_no {k : Int} (hk : ¬ (kn k ∧ (la : Int) ≤ 65536)) :
    Calls Try.prog 17 #[.slice aa la ca, .int .i64 k] w fun e w' => e = .returned (.tuple #[.slice none 0 0, .int .i64 (errK k la)]) ∧ w = w' := by
  have HC := Lib.hid (rperm_no (aa := aa) (ca := ca) (w := w) hk)
  have he := (errK_cases (k := k) (n := la)).resolve_left (fun h => hk ⟨h.1, h.2.1⟩)
  obtain ⟨_, e1, e2⟩ := he
  clear hk
  generalize errK k la = er at *
  go_enter Try.func17, Try.ntmps17
  go_wp2_with fail
  refine (HC.out).mono ?_; rintro e w' ⟨rfl, rfl⟩
  go_wp2_with fail
  go_ret2
  exact ⟨rfl, rfl⟩
def RSortRel (w : World) (zs : List Rc) (ps : List Nat) (vo vi : Value) (wr : World) : Prop :=
  ∃ i : Nat, i ≤ ps.length ∧ vi = .int .i64 i ∧ OutR 4 encR 24 wr w.heap.size vo ((ps.take i).map fun j => zs.getD j d0) ∧ Below w.heap.size w wr
theorem take_snocN {ps : List Nat} {i : Nat} (h : i < ps.length) : ps.take (i + 1) = ps.take i ++ [ps.getD i 0] := by
  rw [List.take_succ_eq_append_getElem h]; simp [h]
set_option maxRecDepth 100000 in
set_option maxHeartbeats 4000000 in
theorem rsort_yes {k : Int} (hk : kn k) (h : IsSl 4 encR w aa la ca zs) (hl : la ≤ 65536) :
    Calls Try.prog 17 #[.slice aa la ca, .int .i64 k] w fun e w' => ∃ v', e = .returned (.tuple #[v', .int .i64 0]) ∧ OutR 4 encR 24 w' w.heap.size v' (arr (ltK k) zs) ∧ Below w.heap.size w w' := by
  have RP := Lib.hid (rperm_yes hk h hl)
  have hpp := prm_ins (swoK k) zs
  rw [← hpp] at RP
  have hres : arr (ltK k) zs = (prm (ltK k) zs).map (fun j => zs.getD j d0) := sortI _ _
  rw [hres]
  have hlen := prm_len (ltK k) zs
  have hlts : ∀ x ∈ prm (ltK k) zs, x < zs.length := fun x hx => prm_lt hx
  have hal := h.hlen; have hac := h.hle; have ham := h.hmax
  unfold maxLen at ham
  have H := Lib.hid h; have HAL := Lib.hid hal; have HLEN := Lib.hid hlen; have HLT := Lib.hid hlts
  clear hk h hpp hres hal hlen hlts
  generalize prm (ltK k) zs = ps at *
  obtain ⟨i0, hi, hz0, hz1, hz2⟩ := info_parts info24
  go_enter Try.func17, Try.ntmps17
  go_wp2_with fail
  refine (RP.out).mono ?_; rintro e w1 ⟨v1, rfl, ho, hb⟩
  obtain ⟨a1, c1, hv1⟩ : ∃ a c, v1 = .slice a ps.length c := own_shape ho.row
  subst hv1
  have PS := Lib.hid (IsSl.of_own encN_len ho.row rfl)
  have PB := Lib.hid ho.blk
  have B1 := Lib.hid hb
  have hpc := PS.out.hle; have hpm := PS.out.hmax
  unfold maxLen at hpm
  have hpl : ps.length ≤ 65536 := by have := HLEN.out; have := HAL.out; omega
  clear ho hb
  go_wp2_with fail
  go_loopw [8, 9] (fun vo vi wr => RSortRel w1 zs ps vo vi wr) (fun _ vi _ => ps.length - (intOf vi).toNat)
  case atStart => exact ⟨0, Nat.zero_le _, rfl, ⟨World.ownsRow_nil _ _ _ _, fun g h => by cases h⟩, Below.refl _ _⟩
  case round =>
    obtain ⟨i, hil, rfl, ho, hbl⟩ := hrel
    have BL := Lib.hid hbl; have O := Lib.hid ho
    have hbw := hbl.size
    have hol : ((ps.take i).map fun j => zs.getD j d0).length = i := by simp; omega
    have OROW := Lib.hid (show wr.ownsRow 0 24 4 u8 i (flat encR ((ps.take i).map fun j => zs.getD j d0)) by have := ho.row; rwa [hol] at this)
    have HOL := Lib.hid hol
    clear hbl ho hol
    by_cases hlt : i < ps.length
    · obtain ⟨pb, po, rfl, hpb, _⟩ := PS.out.at_ (by intro h; rw [h] at hlt; simp at hlt)
      have cp := at1 (PS.out.below BL.out) hlt
      have hpi : ps.getD i 0 < zs.length := HLT.out _ (by rw [show ps.getD i 0 = ps[i] by simp [hlt]]; exact List.getElem_mem hlt)
      have hts := take_snocN hlt
      have HTS := Lib.hid hts
      clear hts
      generalize ps.getD i 0 = p at *
      obtain ⟨b, off, rfl, hbw2, _⟩ := H.out.at_ (by intro h; rw [h] at hpi; simp at hpi)
      obtain ⟨x0, x1, x2, x3⟩ := at4 (H.out.below (B1.out.trans (BL.out.mono B1.out.size))) hpi d0
      have hp1 : (p : Int) < (la : Int) := by have := HAL.out; omega
      have hp2 : p < la := by have := HAL.out; omega
      have hi1 : (i : Int) < (ps.length : Int) := by omega
      generalize hx : zs.getD p d0 = x at *
      have HX := Lib.hid hx
      clear hx
      go_wp2_with (at_builtin; refine wpList_append_slice _ rfl (.tmp 25) (.tmp 33) 31 rfl 24 i0 (.agg #[.int .u64 0, .int .u64 0, .int .i64 0, .int .i64 0]) 4 32 Try.underlying31 hi hz0 hz1 hz2 rfl (by decide) _ _ _ rfl (OROW.out.alloc _) (some ⟨wr.heap.size, 0, none⟩) 1 1 (encR x) rfl rfl (fun h => (by cases h)) ?_ (encR_one x) ?_ ?_ ?_)
      · intro a ha; cases ha
        exact newsR wr x
      · unfold maxLen; omega
      · omega
      · intro v2 w2 hr2 hg2 hn2
        have G := O.out.grow (ys := [x]) (Below.alloc (Below.refl _ _) (Nat.le_refl _) _) hbw (by rw [HOL.out]; simpa [flat] using hr2) hg2 (fun g hg' => (hn2 g hg').imp id (fun h => by simpa using h))
        have O2 := Lib.hid G.1; have B2 := Lib.hid (BL.out.trans G.2.2.1)
        clear hr2 hg2 hn2 G cp x0 x1 x2 x3
        go_wp2_with fail
        go_roundw
        case rel => exact ⟨i + 1, by omega, by go_num, by rw [HTS.out, List.map_append, List.map_cons, List.map_nil, HX.out]; exact O2.out, B2.out⟩
        case measure => simp [intOf]; omega
    · obtain rfl : i = ps.length := by omega
      have he : ps.take ps.length = ps := List.take_length
      have O2 := O.out
      rw [he] at O2
      have O3 := Lib.hid O2
      clear he O2 OROW
      go_wp2_with fail
      go_ret2
      exact ⟨u8, rfl, ⟨O3.out.row, fun g hg => Nat.le_trans B1.out.size (O3.out.blk g hg)⟩, B1.out.trans (BL.out.mono B1.out.size)⟩
def SameRel (w : World) (len : Nat) (vi : Value) (wr : World) : Prop := ∃ k : Nat, k ≤ len ∧ vi = .int .i64 k ∧ Below w.heap.size w wr
theorem same_yes (ha : IsSl 4 encR w aa la ca zs) (hb : IsSl 4 encR w ab lb cb zs) :
    Calls Try.prog 20 #[.slice aa la ca, .slice ab lb cb] w fun e w' => e = .returned (.bool true) ∧ Below w.heap.size w w' := by
  have hal := ha.hlen; have hac := ha.hle; have ham := ha.hmax; have hbl := hb.hlen; have hbc := hb.hle; have hbm := hb.hmax
  unfold maxLen at ham hbm
  obtain rfl : la = lb := by omega
  have HA := Lib.hid ha; have HB := Lib.hid hb; have HAL := Lib.hid hal
  clear ha hb hal hbl
  go_enter Try.func20, Try.ntmps20
  go_wp2_with fail
  go_loopw [4, 5] (fun _ vi wr => SameRel w la vi wr) (fun _ vi _ => la - (intOf vi).toNat)
  case atStart => exact ⟨0, Nat.zero_le _, rfl, Below.refl _ _⟩
  case round =>
    obtain ⟨k, hk, rfl, hbl⟩ := hrel
    have BL := Lib.hid hbl; clear hbl
    by_cases hlt : k < la
    · have hkl : k < zs.length := by have := HAL.out; omega
      obtain ⟨b, off, rfl, _, _⟩ := HA.out.at_ (by intro h; rw [h] at hkl; simp at hkl)
      obtain ⟨b', off', rfl, _, _⟩ := HB.out.at_ (by intro h; rw [h] at hkl; simp at hkl)
      obtain ⟨x0, x1, x2, x3⟩ := at4 (HA.out.below BL.out) hkl d0
      obtain ⟨y0, y1, y2, y3⟩ := at4 (HB.out.below BL.out) hkl d0
      generalize zs.getD k d0 = x at *
      go_wp2_with fail
      go_quiet (fail)
      go_wp2_with fail
      go_roundw
      case rel => exact ⟨k + 1, by omega, by go_num, below_drewN BL.out _⟩
      case measure => simp [intOf]; omega
    · go_wp2_with fail
      go_ret
      exact ⟨rfl, BL.out⟩
end
end Go.Proofs.Ytmholiddejgccaa

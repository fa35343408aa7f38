/- Draws of the document; the errors of Draws. -/
import Derived.Test.YtejleobpohpdpaaDoorH
namespace Go.Proofs.YtejleobpohpdpaaDoor
open Go.ChangeShapes Go.WideShapes Go.ChangeAt Go.RowKit

theorem pdrs_no {zs : List Int} (hz : okP zs = false) {w : World} {aa : Option Addr} {la ca : Nat} (h : IsK .i64 w aa la ca zs) :
    Calls Tryd.prog 22 #[.slice aa la ca] w fun e w' => e = .returned (.tuple #[.slice none 0 0, .int .i64 2]) ∧ Below w.heap.size w w' := by
  have HC := Lib.hid (pcheck h)
  rw [chk_no hz] at HC
  clear h hz
  go_enter Tryd.func22, Tryd.ntmps22
  go_wp2_with fail
  refine (HC.out).mono ?_; rintro e w1 ⟨rfl, hb⟩
  have B1 := Lib.hid hb
  clear hb
  go_wp2_with fail
  go_ret2
  exact ⟨rfl, B1.out⟩
theorem rdrs_no {zs : List Int} (hz : okP zs = false) {w : World} {aa : Option Addr} {la ca : Nat} (h : IsK .i64 w aa la ca zs) :
    Calls Tryd.prog 30 #[.slice aa la ca] w fun e w' => e = .returned (.tuple #[.slice none 0 0, .int .i64 2]) ∧ Below w.heap.size w w' := by
  have HC := Lib.hid (rcheck h)
  rw [chk_no hz] at HC
  clear h hz
  go_enter Tryd.func30, Tryd.ntmps30
  go_wp2_with fail
  refine (HC.out).mono ?_; rintro e w1 ⟨rfl, hb⟩
  have B1 := Lib.hid hb
  clear hb
  go_wp2_with fail
  go_ret2
  exact ⟨rfl, B1.out⟩
theorem rdrs_1 {p : List Nat} (hp : IsP p) (hl : p.length ≤ 1) {w : World} {aa : Option Addr} {la ca : Nat} (h : IsK .i64 w aa la ca (ns p)) :
    Calls Tryd.prog 30 #[.slice aa la ca] w fun e w' => e = .returned (.tuple #[.slice none 0 0, .int .i64 0]) ∧ Below w.heap.size w w' := by
  have hal := h.hlen; have hac := h.hle; have ham := h.hmax
  rw [ns_len] at hal
  unfold maxLen at ham
  have HC := Lib.hid (rcheck h)
  rw [chk_yes (okP_ns hp (by omega))] at HC
  have HI := Lib.hid (fun w => rident la (by omega) w)
  have hla : la ≤ 1 := by omega
  have hkn : ¬ (0 : Int) < (la : Int) - 1 := by omega
  generalize ns (List.range la) = res at *
  clear h hal hp hl
  go_enter Tryd.func30, Tryd.ntmps30
  go_wp2_with fail
  refine (HC.out).mono ?_; rintro e w1 ⟨rfl, hb⟩
  have B1 := Lib.hid hb
  clear hb
  go_wp2_with fail
  refine (HI.out _).mono ?_; rintro e w2 ⟨v, rfl, ho, hb⟩
  have B2 := Lib.hid (B1.out.trans (hb.mono B1.out.size))
  clear hb ho
  go_wp2_with fail
  go_loopw [5, 6] (fun vo vi wr => vo = .slice none 0 0 ∧ vi = .int .i64 0 ∧ wr = w2) (fun _ _ _ => 0)
  case atStart => exact ⟨rfl, rfl, rfl⟩
  case round =>
    obtain ⟨rfl, rfl, rfl⟩ := hrel
    go_wp2_with fail
    go_ret2
    exact ⟨rfl, B2.out⟩
def RDrRel (w w2 : World) (p : List Nat) (g cap : Nat) (vo vi : Value) (wr : World) : Prop :=
  ∃ k : Nat, k ≤ p.length - 1 ∧ vi = .int .i64 k ∧ Blk .i64 3 wr g cap (ns (now p k)) ∧ OutR 1 (encK .u64) 30 wr w2.heap.size vo (ns (drs p k)) ∧ Below w.heap.size w wr ∧ w2.heap.size ≤ wr.heap.size
set_option maxRecDepth 100000 in
set_option maxHeartbeats 8000000 in
theorem rdrs_2 {p : List Nat} (hp : IsP p) (hl : p.length ≤ 16384) (hp2 : 2 ≤ p.length) {w : World} {aa : Option Addr} {la ca : Nat} (h : IsK .i64 w aa la ca (ns p)) :
    Calls Tryd.prog 30 #[.slice aa la ca] w fun e w' => ∃ v, e = .returned (.tuple #[v, .int .i64 0]) ∧ OutR 1 (encK .u64) 30 w' w.heap.size v (ns (drs p (p.length - 1))) ∧ Below w.heap.size w w' := by
  have hal := h.hlen; have hac := h.hle; have ham := h.hmax
  rw [ns_len] at hal
  unfold maxLen at ham
  have HC := Lib.hid (rcheck h)
  rw [chk_yes (okP_ns hp hl)] at HC
  have HI := Lib.hid (fun w => rident la (by omega) w)
  have hla : 2 ≤ la := by omega
  have H := Lib.hid h; have HAL := Lib.hid hal; have HP := Lib.hid hp
  obtain ⟨i0, hi, hz0, hz1, hz2⟩ := info_parts info30
  clear h hal hp
  go_enter Tryd.func30, Tryd.ntmps30
  go_wp2_with fail
  refine (HC.out).mono ?_; rintro e w1 ⟨rfl, hb⟩
  have B1 := Lib.hid hb
  clear hb
  go_wp2_with fail
  refine (HI.out _).mono ?_; rintro e w2 ⟨v, rfl, ho, hb⟩
  obtain ⟨g, cap, rfl, hg, hgb⟩ := ho.blk_of (by intro h; have h1 := ns_len (List.range la); rw [h] at h1; simp at h1; omega)
  have hcm := hgb.sl rfl
  have hcap1 := hcm.hle; have hcap2 := hcm.hmax
  rw [ns_len, List.length_range] at *
  unfold maxLen at hcap2
  have G1 := Lib.hid hgb; have B2 := Lib.hid (B1.out.trans (hb.mono B1.out.size))
  have hl1 := hgb.lt
  have hw1 := B1.out.size
  clear hb hgb hcm ho
  go_wp2_with fail
  go_loopw [5, 6, 7] (fun vo vi _ wr => RDrRel w w2 p g cap vo vi wr) (fun _ vi _ _ => la - (intOf vi).toNat)
  case atStart => exact ⟨0, Nat.zero_le _, rfl, by rw [now, ← HAL.out]; exact G1.out, ⟨World.ownsRow_nil _ _ _ _, fun g h => by cases h⟩, B2.out, Nat.le_refl _⟩
  case round =>
    clear G1
    obtain ⟨k, hk, rfl, hb1, ho, hbl, hsz⟩ := hrel
    have G1 := Lib.hid hb1; have BL := Lib.hid hbl; have O := Lib.hid ho
    clear hb1 hbl ho
    by_cases hlt : k < la - 1
    · have hkp : k < p.length := by have := HAL.out; omega
      have hki : (k : Int) < (la : Int) - 1 := by omega
      obtain ⟨b, off, rfl, _, _⟩ := H.out.at_ (by intro h; have h1 := ns_len p; rw [h] at h1; simp at h1; omega)
      have x0 := (H.out.below BL.out).cellK (i := k) (by rw [ns_len]; exact hkp)
      rw [ns_get] at x0
      obtain ⟨n1, n2, n3⟩ := now_ok HP.out k (by omega)
      have N1 := Lib.hid n1; have N2 := Lib.hid n2
      have hxl := HP.out.get_lt hkp
      obtain ⟨hj1, hj2⟩ := now_idx HP.out hkp
      have WH := Lib.hid (where_ok n1 (m := p.getD k 0) (by rw [n2]; exact hxl) (G1.out.sl (n := la) (by rw [ns_len, n2]; exact HAL.out)))
      have hjx := n1.get_idx (x := p.getD k 0) (by rw [n2]; exact hxl)
      have hswp : now p (k + 1) = swp (now p k) k ((now p k).idxOf (p.getD k 0)) := rfl
      have hdr := drs_succ p k
      have hdl := drs_len p k
      have hjl : (now p k).idxOf (p.getD k 0) < la := by have := HAL.out; omega
      clear n1 n2 n3
      generalize (now p k).idxOf (p.getD k 0) = j at *
      generalize p.getD k 0 = x at *
      have HJX := Lib.hid hjx; have HSWP := Lib.hid hswp; have HDR := Lib.hid hdr; have HDL := Lib.hid hdl
      clear hjx hswp hdr hdl
      have hsub : (j : Int) - (k : Int) = ((j - k : Nat) : Int) := by omega
      go_wp2_with fail
      refine (WH.out).mono ?_; rintro e w3 ⟨rfl, hb⟩
      have G3 := Lib.hid (G1.out.below hb); have BL3 := Lib.hid (BL.out.trans (hb.mono BL.out.size)); have O3 := Lib.hid (O.out.below hb)
      have hsz3 : w2.heap.size ≤ w3.heap.size := Nat.le_trans hsz hb.size
      clear hb x0
      go_wp2_with (at_builtin; refine wpList_app rfl (.tmp 27) (.tmp 32) 22 rfl 30 i0 .u64 8 Tryd.underlying22 hi hz0 hz1 hz2 (by decide) rfl O3.out hsz3 ((j - k : Nat) : Int) rfl (by rw [ns_len, HDL.out]; omega) ?_)
      intro v4 w4 h1 h2 h3 h4
      clear hsub
      have O4 : Hid (OutR 1 (encK .u64) 30 w4 w2.heap.size v4 (ns (drs p (k + 1)))) := Lib.hid (by rw [HDR.out, ← ns_app]; exact h1)
      have T1 := Lib.hid (G3.out.touch h2 (fun hh => by have := O3.out.blk _ hh; omega))
      have BL4 := Lib.hid (BL3.out.trans (h3.mono (by omega)))
      have hs4 : w2.heap.size ≤ w4.heap.size := Nat.le_trans hsz3 h2.size
      clear h1 h2 h3 h4
      have hkl : k < la := by omega
      have c1 := T1.out.cell (i := k) (by rw [ns_len, N2.out]; omega)
      have c2 := T1.out.cell (i := j) (by rw [ns_len, N2.out]; omega)
      rw [ns_get] at c1 c2
      rw [HJX.out] at c2
      have f1 := T1.out.free k
      have f2 := T1.out.free j
      have hsw1 := (T1.out.set (i := k) (by rw [ns_len, N2.out]; exact hkp) (x : Nat)).set (i := j) (by rw [List.length_set, ns_len, N2.out]; exact hj2) ((now p k).getD k 0 : Nat)
      have hnow : now p (k + 1) = ((now p k).set k x).set j ((now p k).getD k 0) := by rw [HSWP.out, swp, HJX.out]
      rw [ns_set, ns_set, ← hnow] at hsw1
      generalize (now p k).getD k 0 = y at *
      have HS1 := Lib.hid hsw1
      clear hsw1 hnow
      have BL5 := Lib.hid ((BL4.out.setCell (p := ⟨g, k, none⟩) (by show w.heap.size ≤ g; omega) (.int .i64 (x : Nat))).setCell (p := ⟨g, j, none⟩) (by show w.heap.size ≤ g; omega) (.int .i64 (y : Nat)))
      have O5 := Lib.hid (show OutR 1 (encK .u64) 30 ((w4.setCell ⟨g, k, none⟩ (.int .i64 (x : Nat))).setCell ⟨g, j, none⟩ (.int .i64 (y : Nat))) w2.heap.size v4 (ns (drs p (k + 1))) from
        ⟨ownsRow_touch O4.out.row (((Touch.refl (fun k => k = g) w4).setCell (p := ⟨g, k, none⟩) (fun _ => rfl) _).setCell (p := ⟨g, j, none⟩) (fun _ => rfl) _) (fun kk hk' e => by have := O4.out.blk _ hk'; omega), O4.out.blk⟩)
      go_wp2_with fail
      rcases Nat.eq_or_lt_of_le hj1 with hkj | hkj
      · subst hkj
        obtain rfl : x = y := by rw [c1] at c2; simp at c2; omega
        go_region
        go_wp2_with fail
        go_roundw
        case rel => exact ⟨k + 1, by have := HAL.out; omega, by go_num, HS1.out.drew, O5.out.drew, BL5.out.drew, by simpa using hs4⟩
        case measure => simp [intOf]; omega
      · have hne : k ≠ j := by omega
        go_region
        go_wp2_with fail
        go_roundw
        case rel => exact ⟨k + 1, by have := HAL.out; omega, by go_num, HS1.out.drew, O5.out.drew, BL5.out.drew, by simpa using hs4⟩
        case measure => simp [intOf]; omega
    · have hki : ¬ (k : Int) < (la : Int) - 1 := by omega
      have hkk : k = p.length - 1 := by have := HAL.out; omega
      have HF : Hid (OutR 1 (encK .u64) 30 wr w.heap.size u5 (ns (drs p (p.length - 1)))) := Lib.hid (by rw [← hkk]; exact ⟨O.out.row, fun g hg => by have := O.out.blk g hg; omega⟩)
      clear hkk
      go_wp2_with fail
      go_ret2
      exact ⟨_, rfl, HF.out, BL.out⟩
theorem rdrs_ok {p : List Nat} (hp : IsP p) (hl : p.length ≤ 16384) {w : World} {aa : Option Addr} {la ca : Nat} (h : IsK .i64 w aa la ca (ns p)) :
    Calls Tryd.prog 30 #[.slice aa la ca] w fun e w' => ∃ v, e = .returned (.tuple #[v, .int .i64 0]) ∧ OutR 1 (encK .u64) 30 w' w.heap.size v (ns (drs p (p.length - 1))) ∧ Below w.heap.size w w' := by
  by_cases h2 : 2 ≤ p.length
  · exact rdrs_2 hp hl h2 h
  · refine (rdrs_1 hp (by omega) h).mono ?_
    rintro e w' ⟨rfl, hb⟩
    refine ⟨_, rfl, ?_, hb⟩
    rw [show p.length - 1 = 0 by omega]
    exact ⟨World.ownsRow_nil _ _ _ _, fun g h => by cases h⟩
end Go.Proofs.YtejleobpohpdpaaDoor

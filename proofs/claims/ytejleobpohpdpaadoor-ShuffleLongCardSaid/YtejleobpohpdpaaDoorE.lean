/- identity of the document; Draw of both. -/
import Derived.Test.YtejleobpohpdpaaDoorD
import Derived.BigRegion
namespace Go.Proofs.YtejleobpohpdpaaDoor
open Go.ChangeShapes Go.WideShapes Go.ChangeAt Go.RowKit

def IdRel (w : World) (n : Nat) (vo vi : Value) (wr : World) : Prop :=
  ∃ k : Nat, k ≤ n ∧ vi = .int .i64 k ∧ OutR 1 (encK .i64) 3 wr w.heap.size vo (ns (List.range k)) ∧ Below w.heap.size w wr
set_option maxHeartbeats 2000000 in
theorem rident (n : Nat) (hn : n ≤ 16384) (w : World) : Calls Tryd.prog 35 #[.int .i64 (n : Int)] w fun e w' => ∃ v, e = .returned v ∧ OutR 1 (encK .i64) 3 w' w.heap.size v (ns (List.range n)) ∧ Below w.heap.size w w' := by
  obtain ⟨i0, hi, hz0, hz1, hz2⟩ := info_parts info3
  go_enter Tryd.func35, Tryd.ntmps35
  go_wp2_with fail
  go_loopw [3, 4] (fun vo vi wr => IdRel w n vo vi wr) (fun _ vi _ => n - (intOf vi).toNat)
  case atStart => exact ⟨0, Nat.zero_le _, rfl, ⟨World.ownsRow_nil _ _ _ _, fun g h => by cases h⟩, Below.refl _ _⟩
  case round =>
    obtain ⟨k, hk, rfl, ho, hbl⟩ := hrel
    have BL := Lib.hid hbl; have O := Lib.hid ho
    have hbw := hbl.size
    clear hbl ho
    by_cases hlt : k < n
    · go_wp2_with (at_builtin; refine wpList_app rfl (.tmp 10) (.tmp 12) 24 rfl 3 i0 .i64 8 Tryd.underlying24 hi hz0 hz1 hz2 (by decide) rfl O.out hbw (k : Int) rfl (by simp [ns]; omega) ?_)
      intro v1 w1 h1 h2 h3 h4
      have O1 := Lib.hid h1; have B1 := Lib.hid (BL.out.trans h3)
      clear h1 h2 h3 h4
      go_wp2_with fail
      go_roundw
      case rel => exact ⟨k + 1, by omega, by go_num, by have := O1.out; rw [ns_app, ← List.range_succ] at this; exact this, B1.out⟩
      case measure => simp [intOf]; omega
    · obtain rfl : k = n := by omega
      go_wp2_with fail
      go_ret
      exact ⟨_, rfl, O.out, BL.out⟩
/-- The draws, as naturals. -/
def nat (ds : List Int) : List Nat := ds.map Int.toNat
theorem nat_get {ds : List Int} {i : Nat} (h : i < ds.length) : (nat ds).getD i 0 = (ds.getD i 0).toNat := by simp [nat, h]
theorem draw_err1 {n : Int} (h : n < 0 ∨ 16384 < n) (hw : (Lit.int .i64 n).wf = true) {aa : Option Addr} {la ca : Nat} (w : World) :
    Calls Tryd.prog 15 #[.int .i64 n, .slice aa la ca] w fun e w' => e = .returned (.tuple #[.slice none 0 0, .int .i64 2]) ∧ w = w' := by
  have hb := bounds_i64 hw
  rcases h with h | h
  · go_enter Tryd.func15, Tryd.ntmps15
    go_wp2_with fail
    go_ret2
    exact ⟨rfl, rfl⟩
  · have h' : ¬ n < 0 := by omega
    go_enter Tryd.func15, Tryd.ntmps15
    go_wp2_with fail
    go_ret2
    exact ⟨rfl, rfl⟩
theorem draw_err2 {n : Nat} (hn : n ≤ 16384) {aa : Option Addr} {la ca : Nat} (hl : la + 1 < n) (w : World) :
    Calls Tryd.prog 15 #[.int .i64 (n : Int), .slice aa la ca] w fun e w' => e = .returned (.tuple #[.slice none 0 0, .int .i64 14]) ∧ w = w' := by
  go_enter Tryd.func15, Tryd.ntmps15
  go_wp2_with fail
  go_ret2
  exact ⟨rfl, rfl⟩
def DrawRel (w : World) (g n : Nat) (d : List Nat) (vi : Value) (wr : World) : Prop :=
  ∃ k : Nat, k ≤ n - 1 ∧ vi = .int .i64 k ∧ Blk .i64 3 wr g n (ns (drw n d k)) ∧ Below w.heap.size w wr
set_option maxRecDepth 100000 in
set_option maxHeartbeats 4000000 in
theorem pdraw {n : Nat} (hn : n ≤ 16384) {w : World} {aa : Option Addr} {la ca : Nat} {ds : List Int} (h : IsInts .u64 w aa la ca ds) (hl : n ≤ la + 1) :
    Calls Tryd.prog 15 #[.int .i64 (n : Int), .slice aa la ca] w fun e w' => ∃ g, w.heap.size ≤ g ∧ e = .returned (.tuple #[.slice (some ⟨g, 0, none⟩) n n, .int .i64 0]) ∧ Blk .i64 3 w' g n (ns (drw n (nat ds) (n - 1))) ∧ Below w.heap.size w w' := by
  have hal := h.sl.hlen; have hac := h.sl.hle; have ham := h.sl.hmax
  unfold maxLen at ham
  have H := Lib.hid h.sl; have HW := Lib.hid h.wf
  have HAL := Lib.hid hal
  have HI := Lib.hid (fun w => pident n hn w)
  clear h hal
  go_enter Tryd.func15, Tryd.ntmps15
  go_wp2_with fail
  refine (HI.out _).mono ?_; rintro e w1 ⟨g, hg, rfl, hgb, hb⟩
  have HG := Lib.hid hgb; have BL := Lib.hid hb
  clear hgb hb
  go_wp2_with fail
  go_loopw [7, 8, 24] (fun _ _ vi wr => DrawRel w g n (nat ds) vi wr) (fun _ _ vi _ => n - (intOf vi).toNat)
  case atStart => exact ⟨0, Nat.zero_le _, rfl, HG.out, BL.out⟩
  case round =>
    clear HG BL
    obtain ⟨k, hk, rfl, hgb, hbl⟩ := hrel
    have HG := Lib.hid hgb; have BL := Lib.hid hbl
    clear hgb hbl
    by_cases hlt : k < n - 1
    · have hkd : k < ds.length := by have := HAL.out; omega
      obtain ⟨b, off, rfl, _, _⟩ := H.out.at_ (by intro h; rw [h] at hkd; simp at hkd)
      have x0 := (H.out.below BL.out).cellK hkd
      have hxw := bounds_u64 (HW.out _ (show ds.getD k 0 ∈ ds by simp [hkd]))
      have hx := nat_get hkd
      generalize ds.getD k 0 = x at *
      obtain ⟨x, rfl⟩ := Int.eq_ofNat_of_zero_le hxw.1
      have hkn : (k : Int) < (n : Int) - 1 := by omega
      rw [Int.toNat_natCast] at hx
      have hrl := Nat.mod_lt x (show 0 < n - k by omega)
      have hr1 : (x : Int) % ((n : Int) - (k : Int)) = ((x % (n - k) : Nat) : Int) := by
        rw [show (n : Int) - (k : Int) = ((n - k : Nat) : Int) by omega]; rfl
      have hsw : swp (drw n (nat ds) k) k (k + x % (n - k)) = drw n (nat ds) (k + 1) := by rw [drw, hx]
      obtain ⟨hip, hil⟩ := drw_ok n (nat ds) k (by omega)
      generalize x % (n - k) = r at *
      have HSW := Lib.hid hsw
      clear hsw hx
      have c1 := HG.out.cell (i := k) (by rw [ns_len]; omega)
      have c2 := HG.out.cell (i := k + r) (by rw [ns_len]; omega)
      have f1 := HG.out.free k
      have f2 := HG.out.free (k + r)
      rw [ns_get] at c1 c2
      have HIL := Lib.hid hil
      clear hip hil
      have hfin : Blk .i64 3 ((wr.setCell ⟨g, k, none⟩ (.int .i64 ((drw n (nat ds) k).getD (k + r) 0 : Nat))).setCell ⟨g, k + r, none⟩ (.int .i64 ((drw n (nat ds) k).getD k 0 : Nat))) g n (ns (drw n (nat ds) (k + 1))) := by
        have h1 := (HG.out.set (i := k) (by rw [ns_len, HIL.out]; omega) ((drw n (nat ds) k).getD (k + r) 0 : Nat)).set (i := k + r) (by simp [ns_len, HIL.out]; omega) ((drw n (nat ds) k).getD k 0 : Nat)
        rw [ns_set, ns_set] at h1
        rw [← HSW.out]; exact h1
      have HFIN := Lib.hid hfin
      clear hfin
      have BFIN := Lib.hid ((BL.out.setCell (p := ⟨g, k, none⟩) hg (.int .i64 ((drw n (nat ds) k).getD (k + r) 0 : Nat))).setCell (p := ⟨g, k + r, none⟩) hg (.int .i64 ((drw n (nat ds) k).getD k 0 : Nat)))
      generalize (drw n (nat ds) k).getD (k + r) 0 = y at *
      generalize (drw n (nat ds) k).getD k 0 = z at *
      have hj1 : ((k : Int) + (r : Int)).toNat = k + r := by omega
      have hj2 : (k : Int) + (r : Int) < (n : Int) := by omega
      have hj3 : (0 : Int) ≤ (k : Int) + (r : Int) := by omega
      go_wp2_with fail
      rcases Nat.eq_zero_or_pos r with h0 | h0
      · subst h0
        obtain rfl : y = z := by
          rw [Nat.add_zero, c1] at c2
          simp at c2
          omega
        go_region
        go_wp2_with fail
        go_roundw
        case rel => exact ⟨k + 1, by omega, by go_num, HFIN.out.drew, BFIN.out.drew⟩
        case measure => simp [intOf]; omega
      · go_region
        go_wp2_with fail
        go_roundw
        case rel => exact ⟨k + 1, by omega, by go_num, HFIN.out.drew, BFIN.out.drew⟩
        case measure => simp [intOf]; omega
    · have hkn : ¬ (k : Int) < (n : Int) - 1 := by omega
      have hkk : k = n - 1 := by omega
      have HKK := Lib.hid hkk
      clear hkk
      go_wp2_with fail
      go_ret2
      exact ⟨g, hg, rfl, by rw [← HKK.out]; exact HG.out, BL.out⟩
theorem rdraw_err1 {n : Int} (h : n < 0 ∨ 16384 < n) (hw : (Lit.int .i64 n).wf = true) {aa : Option Addr} {la ca : Nat} (w : World) :
    Calls Tryd.prog 16 #[.int .i64 n, .slice aa la ca] w fun e w' => e = .returned (.tuple #[.slice none 0 0, .int .i64 2]) ∧ w = w' := by
  have hb := bounds_i64 hw
  rcases h with h | h
  · go_enter Tryd.func16, Tryd.ntmps16
    go_wp2_with fail
    go_ret2
    exact ⟨rfl, rfl⟩
  · have h' : ¬ n < 0 := by omega
    go_enter Tryd.func16, Tryd.ntmps16
    go_wp2_with fail
    go_ret2
    exact ⟨rfl, rfl⟩
theorem rdraw_err2 {n : Nat} (hn : n ≤ 16384) {aa : Option Addr} {la ca : Nat} (hl : la + 1 < n) (w : World) :
    Calls Tryd.prog 16 #[.int .i64 (n : Int), .slice aa la ca] w fun e w' => e = .returned (.tuple #[.slice none 0 0, .int .i64 14]) ∧ w = w' := by
  go_enter Tryd.func16, Tryd.ntmps16
  go_wp2_with fail
  go_ret2
  exact ⟨rfl, rfl⟩
def DrawRelC (w : World) (g n cap : Nat) (d : List Nat) (vi : Value) (wr : World) : Prop :=
  ∃ k : Nat, k ≤ n - 1 ∧ vi = .int .i64 k ∧ Blk .i64 3 wr g cap (ns (drw n d k)) ∧ Below w.heap.size w wr
set_option maxRecDepth 100000 in
set_option maxHeartbeats 4000000 in
theorem rdraw2 {n : Nat} (hn : n ≤ 16384) (hn2 : 2 ≤ n) {w : World} {aa : Option Addr} {la ca : Nat} {ds : List Int} (h : IsInts .u64 w aa la ca ds) (hl : n ≤ la + 1) :
    Calls Tryd.prog 16 #[.int .i64 (n : Int), .slice aa la ca] w fun e w' => ∃ g cap, w.heap.size ≤ g ∧ e = .returned (.tuple #[.slice (some ⟨g, 0, none⟩) n cap, .int .i64 0]) ∧ Blk .i64 3 w' g cap (ns (drw n (nat ds) (n - 1))) ∧ Below w.heap.size w w' := by
  have hal := h.sl.hlen; have hac := h.sl.hle; have ham := h.sl.hmax
  unfold maxLen at ham
  have H := Lib.hid h.sl; have HW := Lib.hid h.wf
  have HAL := Lib.hid hal
  have HI := Lib.hid (fun w => rident n hn w)
  clear h hal
  go_enter Tryd.func16, Tryd.ntmps16
  go_wp2_with fail
  refine (HI.out _).mono ?_; rintro e w1 ⟨v, rfl, ho, hb⟩
  obtain ⟨g, cap, rfl, hg, hgb⟩ := ho.blk_of (by intro h; have h1 := ns_len (List.range n); rw [h] at h1; simp at h1; omega)
  have hcm := hgb.sl rfl
  have hcap1 := hcm.hle; have hcap2 := hcm.hmax
  rw [ns_len, List.length_range] at *
  unfold maxLen at hcap2
  have HG := Lib.hid hgb; have BL := Lib.hid hb
  clear hgb hb hcm ho
  go_wp2_with fail
  go_loopw [7, 8] (fun vi _ wr => DrawRelC w g n cap (nat ds) vi wr) (fun vi _ _ => n - (intOf vi).toNat)
  case atStart => exact ⟨0, Nat.zero_le _, rfl, HG.out, BL.out⟩
  case round =>
    clear HG BL
    obtain ⟨k, hk, rfl, hgb, hbl⟩ := hrel
    have HG := Lib.hid hgb; have BL := Lib.hid hbl
    clear hgb hbl
    by_cases hlt : k < n - 1
    · have hkd : k < ds.length := by have := HAL.out; omega
      obtain ⟨b, off, rfl, _, _⟩ := H.out.at_ (by intro h; rw [h] at hkd; simp at hkd)
      have x0 := (H.out.below BL.out).cellK hkd
      have hxw := bounds_u64 (HW.out _ (show ds.getD k 0 ∈ ds by simp [hkd]))
      have hx := nat_get hkd
      generalize ds.getD k 0 = x at *
      obtain ⟨x, rfl⟩ := Int.eq_ofNat_of_zero_le hxw.1
      have hkn : (k : Int) < (n : Int) - 1 := by omega
      rw [Int.toNat_natCast] at hx
      have hrl := Nat.mod_lt x (show 0 < n - k by omega)
      have hr1 : (x : Int) % ((n : Int) - (k : Int)) = ((x % (n - k) : Nat) : Int) := by
        rw [show (n : Int) - (k : Int) = ((n - k : Nat) : Int) by omega]; rfl
      have hsw : swp (drw n (nat ds) k) k (k + x % (n - k)) = drw n (nat ds) (k + 1) := by rw [drw, hx]
      obtain ⟨hip, hil⟩ := drw_ok n (nat ds) k (by omega)
      generalize x % (n - k) = r at *
      have HSW := Lib.hid hsw
      clear hsw hx
      have c1 := HG.out.cell (i := k) (by rw [ns_len]; omega)
      have c2 := HG.out.cell (i := k + r) (by rw [ns_len]; omega)
      have f1 := HG.out.free k
      have f2 := HG.out.free (k + r)
      rw [ns_get] at c1 c2
      have HIL := Lib.hid hil
      clear hip hil
      have hfin : Blk .i64 3 ((wr.setCell ⟨g, k, none⟩ (.int .i64 ((drw n (nat ds) k).getD (k + r) 0 : Nat))).setCell ⟨g, k + r, none⟩ (.int .i64 ((drw n (nat ds) k).getD k 0 : Nat))) g cap (ns (drw n (nat ds) (k + 1))) := by
        have h1 := (HG.out.set (i := k) (by rw [ns_len, HIL.out]; omega) ((drw n (nat ds) k).getD (k + r) 0 : Nat)).set (i := k + r) (by simp [ns_len, HIL.out]; omega) ((drw n (nat ds) k).getD k 0 : Nat)
        rw [ns_set, ns_set] at h1
        rw [← HSW.out]; exact h1
      have HFIN := Lib.hid hfin
      clear hfin
      have BFIN := Lib.hid ((BL.out.setCell (p := ⟨g, k, none⟩) hg (.int .i64 ((drw n (nat ds) k).getD (k + r) 0 : Nat))).setCell (p := ⟨g, k + r, none⟩) hg (.int .i64 ((drw n (nat ds) k).getD k 0 : Nat)))
      generalize (drw n (nat ds) k).getD (k + r) 0 = y at *
      generalize (drw n (nat ds) k).getD k 0 = z at *
      have hj1 : ((k : Int) + (r : Int)).toNat = k + r := by omega
      have hj2 : (k : Int) + (r : Int) < (n : Int) := by omega
      have hj3 : (0 : Int) ≤ (k : Int) + (r : Int) := by omega
      go_wp2_with fail
      rcases Nat.eq_zero_or_pos r with h0 | h0
      · subst h0
        obtain rfl : y = z := by
          rw [Nat.add_zero, c1] at c2
          simp at c2
          omega
        go_region
        go_wp2_with fail
        go_roundw
        case rel => exact ⟨k + 1, by omega, by go_num, HFIN.out.drew, BFIN.out.drew⟩
        case measure => simp [intOf]; omega
      · go_region
        go_wp2_with fail
        go_roundw
        case rel => exact ⟨k + 1, by omega, by go_num, HFIN.out.drew, BFIN.out.drew⟩
        case measure => simp [intOf]; omega
    · have hkn : ¬ (k : Int) < (n : Int) - 1 := by omega
      have hkk : k = n - 1 := by omega
      have HKK := Lib.hid hkk
      clear hkk
      go_wp2_with fail
      go_ret2
      exact ⟨g, hg, cap, rfl, by rw [← HKK.out]; exact HG.out, BL.out⟩
set_option maxHeartbeats 2000000 in
theorem rdraw1 {n : Nat} (hn : n ≤ 1) {w : World} {aa : Option Addr} {la ca : Nat} {ds : List Int} (h : IsInts .u64 w aa la ca ds) :
    Calls Tryd.prog 16 #[.int .i64 (n : Int), .slice aa la ca] w fun e w' => ∃ v, e = .returned (.tuple #[v, .int .i64 0]) ∧ OutR 1 (encK .i64) 3 w' w.heap.size v (ns (drw n (nat ds) (n - 1))) ∧ Below w.heap.size w w' := by
  have hal := h.sl.hlen; have hac := h.sl.hle; have ham := h.sl.hmax
  unfold maxLen at ham
  have HI := Lib.hid (fun w => rident n (by omega) w)
  clear h hal
  have e : drw n (nat ds) (n - 1) = List.range n := by rw [show n - 1 = 0 by omega]; rfl
  rw [e]
  clear e
  have hkn : ¬ (0 : Int) < (n : Int) - 1 := by omega
  have hkl : ¬ (la : Int) < (n : Int) - 1 := by omega
  generalize ns (List.range n) = res at *
  go_enter Tryd.func16, Tryd.ntmps16
  go_wp2_with fail
  refine (HI.out _).mono ?_; rintro e w1 ⟨v, rfl, ho, hb⟩
  have O := Lib.hid ho; have BL := Lib.hid hb
  clear ho hb
  go_wp2_with fail
  go_loopw [7, 8] (fun vi _ wr => vi = .int .i64 0 ∧ wr = w1) (fun _ _ _ => 0)
  case atStart => exact ⟨rfl, rfl⟩
  case round =>
    obtain ⟨rfl, rfl⟩ := hrel
    go_wp2_with fail
    go_ret2
    exact ⟨v, rfl, O.out, BL.out⟩
theorem rdraw {n : Nat} (hn : n ≤ 16384) {w : World} {aa : Option Addr} {la ca : Nat} {ds : List Int} (h : IsInts .u64 w aa la ca ds) (hl : n ≤ la + 1) :
    Calls Tryd.prog 16 #[.int .i64 (n : Int), .slice aa la ca] w fun e w' => ∃ v, e = .returned (.tuple #[v, .int .i64 0]) ∧ OutR 1 (encK .i64) 3 w' w.heap.size v (ns (drw n (nat ds) (n - 1))) ∧ Below w.heap.size w w' := by
  by_cases h2 : 2 ≤ n
  · refine (rdraw2 hn h2 h hl).mono ?_
    rintro e w' ⟨g, cap, hg, rfl, hb, hbl⟩
    have hl2 := (drw_ok n (nat ds) (n - 1) (by omega)).2
    refine ⟨_, ?_, OutR.of_blk hb hg, hbl⟩
    rw [ns_len, hl2]
  · exact rdraw1 (by omega) h
end Go.Proofs.YtejleobpohpdpaaDoor

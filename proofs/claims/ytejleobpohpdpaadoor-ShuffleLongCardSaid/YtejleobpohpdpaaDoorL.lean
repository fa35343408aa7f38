/- Rank of the document; the errors of Rank. -/
import Derived.Test.YtejleobpohpdpaaDoorJ
namespace Go.Proofs.YtejleobpohpdpaaDoor
open Go.ChangeShapes Go.WideShapes Go.ChangeAt Go.RowKit

theorem prank_no {zs : List Int} (hz : okP zs = false) {w : World} {aa : Option Addr} {la ca : Nat} (h : IsK .i64 w aa la ca zs) :
    Calls Tryd.prog 23 #[.slice aa la ca] w fun e w' => e = .returned (.tuple #[.int .u64 0, .int .i64 2]) ∧ Below w.heap.size w w' := by
  have HC := Lib.hid (pcheck h)
  rw [chk_no hz] at HC
  clear h hz
  go_enter Tryd.func23, Tryd.ntmps23
  go_wp2_with fail
  refine (HC.out).mono ?_; rintro e w1 ⟨rfl, hb⟩
  have B1 := Lib.hid hb
  clear hb
  go_wp2_with fail
  go_ret2
  exact ⟨rfl, B1.out⟩
theorem prank_long {zs : List Int} (hz : okP zs = true) {w : World} {aa : Option Addr} {la ca : Nat} (h : IsK .i64 w aa la ca zs) (hl : 20 < la) :
    Calls Tryd.prog 23 #[.slice aa la ca] w fun e w' => e = .returned (.tuple #[.int .u64 0, .int .i64 16]) ∧ Below w.heap.size w w' := by
  have HC := Lib.hid (pcheck h)
  rw [chk_yes hz] at HC
  have hac := h.hle; have ham := h.hmax
  unfold maxLen at ham
  clear h hz
  go_enter Tryd.func23, Tryd.ntmps23
  go_wp2_with fail
  refine (HC.out).mono ?_; rintro e w1 ⟨rfl, hb⟩
  have B1 := Lib.hid hb
  clear hb
  go_wp2_with fail
  go_ret2
  exact ⟨rfl, B1.out⟩
theorem rrank_no {zs : List Int} (hz : okP zs = false) {w : World} {aa : Option Addr} {la ca : Nat} (h : IsK .i64 w aa la ca zs) :
    Calls Tryd.prog 32 #[.slice aa la ca] w fun e w' => e = .returned (.tuple #[.int .u64 0, .int .i64 2]) ∧ Below w.heap.size w w' := by
  have HC := Lib.hid (rcheck h)
  rw [chk_no hz] at HC
  clear h hz
  go_enter Tryd.func32, Tryd.ntmps32
  go_wp2_with fail
  refine (HC.out).mono ?_; rintro e w1 ⟨rfl, hb⟩
  have B1 := Lib.hid hb
  clear hb
  go_wp2_with fail
  go_ret2
  exact ⟨rfl, B1.out⟩
theorem rrank_long {zs : List Int} (hz : okP zs = true) {w : World} {aa : Option Addr} {la ca : Nat} (h : IsK .i64 w aa la ca zs) (hl : 20 < la) :
    Calls Tryd.prog 32 #[.slice aa la ca] w fun e w' => e = .returned (.tuple #[.int .u64 0, .int .i64 16]) ∧ Below w.heap.size w w' := by
  have HC := Lib.hid (rcheck h)
  rw [chk_yes hz] at HC
  have hac := h.hle; have ham := h.hmax
  unfold maxLen at ham
  clear h hz
  go_enter Tryd.func32, Tryd.ntmps32
  go_wp2_with fail
  refine (HC.out).mono ?_; rintro e w1 ⟨rfl, hb⟩
  have B1 := Lib.hid hb
  clear hb
  go_wp2_with fail
  go_ret2
  exact ⟨rfl, B1.out⟩
def RkRel3 (w : World) (q : List Nat) (x k : Nat) (vs vj : Value) (wr : World) : Prop :=
  ∃ j : Nat, j ≤ q.length ∧ vj = .int .i64 (k + 1 + j : Nat) ∧ vs = .int .i64 ((q.take j).countP (· < x) : Nat) ∧ Below w.heap.size w wr
set_option maxRecDepth 100000 in
set_option maxHeartbeats 4000000 in
theorem rrank_ok {p : List Nat} (hp : IsP p) (hl : p.length ≤ 20) {w : World} {aa : Option Addr} {la ca : Nat} (h : IsK .i64 w aa la ca (ns p)) :
    Calls Tryd.prog 32 #[.slice aa la ca] w fun e w' => e = .returned (.tuple #[.int .u64 (rk p : Nat), .int .i64 0]) ∧ Below w.heap.size w w' := by
  have hal := h.hlen; have hac := h.hle; have ham := h.hmax
  rw [ns_len] at hal
  unfold maxLen at ham
  have HC := Lib.hid (rcheck h)
  rw [chk_yes (okP_ns hp (by omega))] at HC
  have H := Lib.hid h; have HAL := Lib.hid hal; have HP := Lib.hid hp
  generalize hR : rk p = R at *
  have HR := Lib.hid hR
  clear h hal hp hR
  go_enter Tryd.func32, Tryd.ntmps32
  go_wp2_with fail
  refine (HC.out).mono ?_; rintro e w1 ⟨rfl, hb⟩
  have B1 := Lib.hid hb
  clear hb
  have hla : la ≤ 20 := by have := HAL.out; omega
  go_wp2_with fail
  go_loopw [4, 5, 6, 7] (fun vr vi _ _ wr => RkRel w p vr vi wr) (fun _ vi _ _ _ => la - (intOf vi).toNat)
  case atStart => exact ⟨0, 0, Nat.zero_le _, rfl, rfl, by simp, B1.out⟩
  case round =>
    obtain ⟨k, r, hk, rfl, rfl, hr, hbl⟩ := hrel
    have BL := Lib.hid hbl; have HRR := Lib.hid hr
    clear hbl hr
    by_cases hlt : k < la
    · have hkp : k < p.length := by have := HAL.out; omega
      obtain ⟨b, off, rfl, _, _⟩ := H.out.at_ (by intro h; have h1 := ns_len p; rw [h] at h1; simp at h1; omega)
      obtain ⟨st1, st2, st3⟩ := rk_step hl hkp HRR.out
      have ST1 := Lib.hid st1; have ST2 := Lib.hid st2; have ST3 := Lib.hid st3
      clear st1 st2 st3
      have hql : (p.drop (k + 1)).length = la - (k + 1) := by rw [List.length_drop]; have := HAL.out; omega
      have HQ := Lib.hid hql
      have HX : Hid (∀ W, Below w.heap.size w W → W.cell? ⟨b, off + k, none⟩ = some (.int .i64 (p.getD k 0 : Nat))) := Lib.hid (fun W hW => by
        have := (H.out.below hW).cellK (i := k) (by rw [ns_len]; exact hkp)
        rw [ns_get] at this; exact this)
      have HY : Hid (∀ W, Below w.heap.size w W → ∀ j, j < (p.drop (k + 1)).length → W.cell? ⟨b, off + (k + 1 + j), none⟩ = some (.int .i64 ((p.drop (k + 1)).getD j 0 : Nat))) := Lib.hid (fun W hW j hj => by
        have := (H.out.below hW).cellK (i := k + 1 + j) (by rw [ns_len]; rw [List.length_drop] at hj; omega)
        rw [ns_get] at this
        rw [this]
        simp [List.getD_eq_getElem?_getD, List.getElem?_drop])
      have hix : (la : Int) - 1 - (k : Int) = ((p.length - 1 - k : Nat) : Int) := by have := HAL.out; omega
      have hm20 : p.length - 1 - k ≤ 20 := by omega
      clear hql
      generalize hq : p.drop (k + 1) = q at *
      have HQQ := Lib.hid hq
      clear hq
      generalize p.length - 1 - k = m at *
      have HF := Lib.hid (fun w => rfct hm20 w)
      generalize fct m = fm at *
      generalize p.getD k 0 = x at *
      go_wp2_with fail
      obtain ⟨wo, rfl⟩ : ∃ wo : World, wo = wr := ⟨_, rfl⟩
      go_loopw [6, 7] (fun vs vj wr => RkRel3 w q x k vs vj wr) (fun _ vj _ => la - (intOf vj).toNat)
      case atStart => exact ⟨0, Nat.zero_le _, rfl, by simp, BL.out⟩
      case round =>
        obtain ⟨j, hj, rfl, rfl, hbl⟩ := hrel
        have BL2 := Lib.hid hbl
        clear hbl
        by_cases hjl : j < q.length
        · have y0 := HY.out wr BL2.out j hjl
          have x0 := HX.out wr BL2.out
          have hcs := cnt_snoc (x := x) hjl
          have hcl : (q.take j).countP (· < x) ≤ 20 := by
            have h1 := List.countP_le_length (p := (· < x)) (l := q.take j)
            have h2 := List.length_take_le' j q
            have := HQ.out; omega
          have hjq : k + 1 + j < la := by have := HQ.out; omega
          by_cases hxy : q.getD j 0 < x
          · rw [if_pos hxy] at hcs
            have HCS := Lib.hid hcs
            clear hcs
            generalize q.getD j 0 = y at *
            generalize (q.take j).countP (· < x) = n at *
            generalize hkj : k + 1 + j = kj at *
            have HKJ := Lib.hid hkj
            clear hkj
            go_wp2_with fail
            go_quiet (fail)
            go_wp2_with fail
            go_roundw
            case rel => exact ⟨j + 1, by omega, by rw [← HKJ.out]; go_num, by rw [HCS.out]; go_num, below_drewN BL2.out _⟩
            case measure => simp [intOf]; omega
          · rw [if_neg hxy] at hcs
            have HCS := Lib.hid hcs
            clear hcs
            generalize q.getD j 0 = y at *
            generalize (q.take j).countP (· < x) = n at *
            generalize hkj : k + 1 + j = kj at *
            have HKJ := Lib.hid hkj
            clear hkj
            go_wp2_with fail
            go_quiet (fail)
            go_wp2_with fail
            go_roundw
            case rel => exact ⟨j + 1, by omega, by rw [← HKJ.out]; go_num, by rw [HCS.out, Nat.add_zero], below_drewN BL2.out _⟩
            case measure => simp [intOf]; omega
        · have hjl2 : ¬ (k + 1 + j) < la := by have := HQ.out; omega
          have hjq : q.take j = q := List.take_of_length_le (by omega)
          have hcl : q.countP (· < x) ≤ 20 := by
            have h1 := List.countP_le_length (p := (· < x)) (l := q)
            have := HQ.out; omega
          rw [hjq]
          generalize q.countP (· < x) = n at *
          clear hjq
          generalize k + 1 + j = kj at *
          have st1 := ST1.out
          have st2 := ST2.out
          generalize n * fm = z at *
          have ST4 := Lib.hid st1
          have ST5 := Lib.hid st2
          clear st1 st2
          go_wp2_with fail
          refine (HF.out _).mono ?_; rintro e w6 ⟨rfl, rfl⟩
          go_wp2_with fail
          go_roundw
          case rel => exact ⟨k + 1, r + z, by omega, by go_num, by rw [ST4.out, ST5.out], by rw [HQQ.out]; exact ST3.out, BL2.out⟩
          case measure => simp [intOf]; omega
    · have hkk : r = R := by
        have h1 := HRR.out
        rw [List.drop_of_length_le (by have := HAL.out; omega)] at h1
        rw [← HR.out, ← h1]; rfl
      have HK := Lib.hid hkk
      clear hkk
      go_wp2_with fail
      go_ret2
      exact ⟨by rw [HK.out]; rfl, BL.out⟩
end Go.Proofs.YtejleobpohpdpaaDoor

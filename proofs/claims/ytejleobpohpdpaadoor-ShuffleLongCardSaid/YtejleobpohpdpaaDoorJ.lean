/- factorial; Rank of both. -/
import Derived.Test.YtejleobpohpdpaaDoorI
import Derived.Test.YtejleobpohpdpaaDoorS
import Derived.Test.YtejleobpohpdpaaDoorRows
import Derived.LaidMore
import Derived.LaidLaws
import Derived.Lib.LaidTab
import Derived.Laws.BitsAllLaws
namespace Go.Proofs.YtejleobpohpdpaaDoor
open Go.ChangeShapes Go.WideShapes Go.ChangeAt Go.RowKit

/-- The table of factorials, where it lies. -/
def Tab (w : World) : Prop := ∀ i, i ≤ 20 → w.cell? ⟨0, i, none⟩ = some (.int .u64 (fct i : Nat))
theorem Tab.below {w w' : World} (h : Tab w) (hb : Below w.heap.size w w') : Tab w' := fun i hi => by
  have h0 := lt_of_cell (h i hi)
  rw [(bcell hb).1 0 i h0]; exact h i hi
def fctL : List Int := (List.range 21).map (fun i : Nat => (fct i : Int))
theorem gFct : Tryd.prog.globalNamed "seepage/shuffle.factorials" = some 0 := by kernel_rfl
theorem of_laid {W : World} (h : laidMetH Tryd.prog [("seepage/shuffle.factorials", Rows.laid_seepage_shuffle_factorials)] W) : Tab W := by
  rw [MakeChecks.laidMetH_plain _ _ _ (by kernel_rfl)] at h
  have hd : (Rows.laid_seepage_shuffle_factorials : DataW Unit) = Lib.tabData .u64 fctL := by
    unfold Rows.laid_seepage_shuffle_factorials Lib.tabData fctL
    rfl
  rw [hd] at h
  have ht := Lib.tabIs_of_head (t := 53) (e := 30) (n := 21) gFct (by kernel_rfl) Tryd.underlying53 Tryd.underlying30 (by kernel_rfl) (by kernel_rfl) h
  intro i hi
  have := ht.cell gFct i (by simp [fctL]; omega)
  rw [this]
  simp [fctL, show i < 21 by omega]
theorem size3 : ∀ w, (sizeOf 3).run Tryd.prog w = .ok 1 w := fun _ => by kernel_rfl
theorem fct_small {n : Nat} (h : n ≤ 20) : fct n ≤ 2432902008176640000 := Nat.le_trans (fct_le h) (by decide)
def FctRel (n : Nat) (vo vi : Value) : Prop := ∃ k : Nat, 2 ≤ k ∧ (k ≤ n + 1 ∨ k = 2) ∧ vi = .int .i64 k ∧ vo = .int .u64 (fct (k - 1) : Nat)
set_option maxHeartbeats 1000000 in
theorem rfct {n : Nat} (hn : n ≤ 20) (w : World) : Calls Tryd.prog 36 #[.int .i64 (n : Int)] w fun e w' => e = .returned (.int .u64 (fct n : Nat)) ∧ w = w' := by
  go_enter Tryd.func36, Tryd.ntmps36
  go_wp2_with fail
  go_loop [3, 4] (fun vo vi => FctRel n vo vi) (fun _ vi => n + 1 - (intOf vi).toNat)
  case atStart => exact ⟨2, Nat.le_refl _, Or.inr rfl, rfl, rfl⟩
  case round =>
    obtain ⟨k, hk2, hk, rfl, rfl⟩ := hrel
    by_cases hlt : k ≤ n
    · obtain ⟨m, rfl⟩ : ∃ m, k = m + 1 := ⟨k - 1, by omega⟩
      rw [Nat.add_sub_cancel]
      have e : (fct m : Int) * ((m : Int) + 1) = ((fct (m + 1) : Nat) : Int) := by rw [fct, Nat.mul_comm]; simp
      have e2 : IntKind.u64.wrap ((fct m : Int) * ((m : Int) + 1)) = ((fct (m + 1) : Nat) : Int) := by
        rw [e]; exact IntWalk.u64_in _ (by have := fct_small (show m + 1 ≤ 20 by omega); omega)
      have E2 := Lib.hid e2
      clear e e2
      go_wp2_with fail
      go_round
      case rel => exact ⟨m + 1 + 1, by omega, by omega, by go_num, by rw [E2.out]; rfl⟩
      case measure => simp [intOf]; omega
    · have hkn : fct (k - 1) = fct n := by
        rcases hk with h | h
        · rw [show k - 1 = n by omega]
        · have : n = 0 ∨ n = 1 := by omega
          rcases this with rfl | rfl <;> rw [h] <;> rfl
      have HK := Lib.hid hkn
      clear hkn
      generalize fct (k - 1) = f at *
      go_wp2_with fail
      go_ret
      exact ⟨ret_int (by rw [HK.out]), rfl⟩
theorem ns_drop (p : List Nat) (k : Nat) : (ns p).drop k = ns (p.drop k) := by simp [ns, List.map_drop]
theorem rk_drop {p : List Nat} {k : Nat} (h : k < p.length) : rk (p.drop k) = (p.drop (k + 1)).countP (· < p.getD k 0) * fct (p.length - 1 - k) + rk (p.drop (k + 1)) := by
  rw [List.drop_eq_getElem_cons h, rk, gD h, List.length_drop, show p.length - (k + 1) = p.length - 1 - k by omega]
theorem cnt_snoc {l : List Nat} {j x : Nat} (h : j < l.length) : (l.take (j + 1)).countP (· < x) = (l.take j).countP (· < x) + if l.getD j 0 < x then 1 else 0 := by
  rw [nat_take_snoc h, List.countP_append]; simp [List.countP_cons]
def RkRel (w : World) (p : List Nat) (vr vi : Value) (wr : World) : Prop :=
  ∃ k r : Nat, k ≤ p.length ∧ vi = .int .i64 k ∧ vr = .int .u64 r ∧ r + rk (p.drop k) = rk p ∧ Below w.heap.size w wr
def RkRel2 (w : World) (q : List Nat) (x : Nat) (vs vj : Value) (wr : World) : Prop :=
  ∃ j : Nat, j ≤ q.length ∧ vj = .int .i64 j ∧ vs = .int .u64 ((q.take j).countP (· < x) : Nat) ∧ Below w.heap.size w wr
theorem rk_step {p : List Nat} (hl : p.length ≤ 20) {k r : Nat} (hk : k < p.length) (h : r + rk (p.drop k) = rk p) :
    IntKind.u64.wrap ((((p.drop (k + 1)).countP (· < p.getD k 0) : Nat) : Int) * ((fct (p.length - 1 - k) : Nat) : Int)) = (((p.drop (k + 1)).countP (· < p.getD k 0) * fct (p.length - 1 - k) : Nat) : Int) ∧
    IntKind.u64.wrap ((r : Int) + (((p.drop (k + 1)).countP (· < p.getD k 0) * fct (p.length - 1 - k) : Nat) : Int)) = ((r + (p.drop (k + 1)).countP (· < p.getD k 0) * fct (p.length - 1 - k) : Nat) : Int) ∧
    r + (p.drop (k + 1)).countP (· < p.getD k 0) * fct (p.length - 1 - k) + rk (p.drop (k + 1)) = rk p := by
  rw [rk_drop hk] at h
  have h1 := rk_lt p
  have h2 := fct_small hl
  refine ⟨?_, ?_, by omega⟩
  · rw [← Int.natCast_mul]
    exact IntWalk.u64_in _ (by omega)
  · rw [← Int.natCast_add]
    exact IntWalk.u64_in _ (by omega)
set_option maxRecDepth 100000 in
set_option maxHeartbeats 4000000 in
theorem prank_ok {p : List Nat} (hp : IsP p) (hl : p.length ≤ 20) {w : World} (ht : Tab w) {aa : Option Addr} {la ca : Nat} (h : IsK .i64 w aa la ca (ns p)) :
    Calls Tryd.prog 23 #[.slice aa la ca] w fun e w' => e = .returned (.tuple #[.int .u64 (rk p : Nat), .int .i64 0]) ∧ Below w.heap.size w w' := by
  have hal := h.hlen; have hac := h.hle; have ham := h.hmax
  rw [ns_len] at hal
  unfold maxLen at ham
  have HC := Lib.hid (pcheck h)
  rw [chk_yes (okP_ns hp (by omega))] at HC
  have H := Lib.hid h; have HAL := Lib.hid hal; have HP := Lib.hid hp; have HT := Lib.hid ht
  generalize hR : rk p = R at *
  have HR := Lib.hid hR
  clear h hal hp ht hR
  go_enter Tryd.func23, Tryd.ntmps23
  go_wp2_with fail
  refine (HC.out).mono ?_; rintro e w1 ⟨rfl, hb⟩
  have B1 := Lib.hid hb
  clear hb
  have hla : la ≤ 20 := by have := HAL.out; omega
  go_wp2_with fail
  go_loopw [5, 6, 7, 8, 10, 21] (fun vr _ _ _ _ vi wr => RkRel w p vr vi wr) (fun _ _ _ _ _ vi _ => la - (intOf vi).toNat)
  case atStart => exact ⟨0, 0, Nat.zero_le _, rfl, rfl, by simp, B1.out⟩
  case round =>
    obtain ⟨k, r, hk, rfl, rfl, hr, hbl⟩ := hrel
    have BL := Lib.hid hbl; have HRR := Lib.hid hr
    clear hbl hr
    by_cases hlt : k < la
    · have hkp : k < p.length := by have := HAL.out; omega
      obtain ⟨b, off, rfl, _, _⟩ := H.out.at_ (by intro h; have h1 := ns_len p; rw [h] at h1; simp at h1; omega)
      have x0 := (H.out.below BL.out).cellK (i := k) (by rw [ns_len]; exact hkp)
      rw [ns_get] at x0
      obtain ⟨st1, st2, st3⟩ := rk_step hl hkp HRR.out
      have ST1 := Lib.hid st1; have ST2 := Lib.hid st2; have ST3 := Lib.hid st3
      clear st1 st2 st3
      have DP := Lib.hid (H.out.tail (l := k + 1) (by omega))
      rw [ns_drop] at DP
      have hsl := run_from (P := Tryd.prog) (sz := 1) Tryd.underlying24 size3 (a := some ⟨b, off, none⟩) (len := la) (cap := ca) (l := (k : Int) + 1) (k := k + 1) (by omega) (by omega)
      generalize part (some ⟨b, off, none⟩) (k + 1) ca 1 = a2 at *
      generalize p.getD k 0 = x at *
      have hql : (p.drop (k + 1)).length = la - (k + 1) := by rw [List.length_drop]; have := HAL.out; omega
      have HQ := Lib.hid hql
      have hix : (la : Int) - 1 - (k : Int) = ((p.length - 1 - k : Nat) : Int) := by have := HAL.out; omega
      have hix2 : p.length - 1 - k < 21 := by omega
      clear hql
      generalize hq : p.drop (k + 1) = q at *
      have HQQ := Lib.hid hq
      clear hq
      generalize p.length - 1 - k = m at *
      have HTM : Hid (∀ W, Below w.heap.size w W → W.cell? ⟨0, m, none⟩ = some (.int .u64 (fct m : Nat))) := Lib.hid (fun W hW => (HT.out.below hW) m (by omega))
      generalize fct m = fm at *
      go_wp2_with fail
      clear hsl
      obtain ⟨wo, rfl⟩ : ∃ wo : World, wo = wr := ⟨_, rfl⟩
      go_loopw [8, 10, 31] (fun vs _ vj wr => RkRel2 w q x vs vj wr) (fun _ _ vj _ => q.length - (intOf vj).toNat)
      case atStart => exact ⟨0, Nat.zero_le _, rfl, by simp, BL.out⟩
      case round =>
        obtain ⟨j, hj, rfl, rfl, hbl⟩ := hrel
        have BL2 := Lib.hid hbl
        clear hbl
        by_cases hjl : j < q.length
        · have hne : (ns q) ≠ [] := by intro h; have h1 := ns_len q; rw [h] at h1; simp at h1; omega
          obtain ⟨b2, off2, rfl, _, _⟩ := DP.out.at_ hne
          have y0 := (DP.out.below BL2.out).cellK (i := j) (by rw [ns_len]; exact hjl)
          rw [ns_get] at y0
          have hcs := cnt_snoc (x := x) hjl
          have hcl : (q.take j).countP (· < x) ≤ 20 := by
            have h1 := List.countP_le_length (p := (· < x)) (l := q.take j)
            have h2 := List.length_take_le' j q
            have := HQ.out; omega
          have hjq : j < la - (k + 1) := by have := HQ.out; omega
          by_cases hxy : q.getD j 0 < x
          · rw [if_pos hxy] at hcs
            have HCS := Lib.hid hcs
            clear hcs
            generalize q.getD j 0 = y at *
            generalize (q.take j).countP (· < x) = n at *
            go_wp2_with fail
            go_roundw
            case rel => exact ⟨j + 1, by omega, by go_num, by rw [HCS.out]; go_num, BL2.out⟩
            case measure => simp [intOf]; omega
          · rw [if_neg hxy] at hcs
            have HCS := Lib.hid hcs
            clear hcs
            generalize q.getD j 0 = y at *
            generalize (q.take j).countP (· < x) = n at *
            go_wp2_with fail
            go_roundw
            case rel => exact ⟨j + 1, by omega, by go_num, by rw [HCS.out, Nat.add_zero], BL2.out⟩
            case measure => simp [intOf]; omega
        · have hjl2 : ¬ j < la - (k + 1) := by have := HQ.out; omega
          have hjq : q.take j = q := List.take_of_length_le (by omega)
          rw [hjq]
          have c0 := HTM.out wr BL2.out
          generalize q.countP (· < x) = n at *
          clear hjq
          have st1 := ST1.out
          have st2 := ST2.out
          generalize hz : n * fm = z at *
          have HZ := Lib.hid hz
          have ST4 := Lib.hid st1
          have ST5 := Lib.hid st2
          clear hz st1 st2
          go_wp2_with fail
          go_roundw
          case rel => exact ⟨k + 1, r + z, by omega, by go_num, by rw [ST4.out, ST5.out], by rw [HQQ.out]; exact ST3.out, BL2.out⟩
          case measure => simp [intOf]; omega
    · have hkk : r = R := by
        have h1 := HRR.out
        rw [List.drop_of_length_le (by have := HAL.out; omega)] at h1
        rw [← HR.out, ← h1]; rfl
      have HK := Lib.hid hkk
      clear hkk
      go_wp2_with fail
      go_ret2
      exact ⟨by rw [HK.out]; rfl, BL.out⟩
end Go.Proofs.YtejleobpohpdpaaDoor

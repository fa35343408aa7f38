/- Contracts of the clock of the document, for the laws of layer 33. -/
import Derived.Test.YtbmlkanonmooeaaU
import Derived.Test.YtbmlkanonmooeaaV
import Derived.Deep.DeepCutAuto
namespace Go.Proofs.Ytbmlkanonmooeaa
open Go.ChangeShapes Go.WideShapes Go.ChangeAt Go.RowKit

def fitV (x : Int) : Int := if fits x then x else 0
def fitE (x : Int) : Int := if fits x then 0 else 7
theorem fit_yes {x : Int} (h : fits x) : fitV x = x ∧ fitE x = 0 := by simp [fitV, fitE, h]
theorem fit_no {x : Int} (h : ¬ fits x) : fitV x = 0 ∧ fitE x = 7 := by simp [fitV, fitE, h]
theorem ret_two {k l : IntKind} {a b c d : Int} (h : a = c) (h2 : b = d) : Ending.returned (.tuple #[.int k a, .int l b]) = .returned (.tuple #[.int k c, .int l d]) := by rw [h, h2]
set_option maxHeartbeats 1000000 in
theorem fit_any (s : Bool) (C : Nat → Int) (x : Int) (hx : num s C = x) (w : World) (hC : Limbs C) :
    Calls Try.prog 38 #[.agg (wdc s C)] w fun e w' => e = .returned (.tuple #[.int .i64 (fitV x), .int .i64 (fitE x)]) ∧ Below w.heap.size w w' := by
  have HC := Lib.hid hC; have HX := Lib.hid hx; clear hC hx
  by_cases hf : fits x
  · have HF := Lib.hid hf; clear hf
    go_enter Try.func38, Try.ntmps38
    go_wp2_with (go_at_call 44; refine (int_any s C _ HC.out).mono ?_; rintro e w1 ⟨rfl, hb1⟩; have B1 := Lib.hid hb1; clear hb1; rw [HX.out, if_pos HF.out, decide_eq_true HF.out])
    go_ret2
    exact ⟨ret_two (fit_yes HF.out).1.symm (fit_yes HF.out).2.symm, (Below.alloc (Below.refl _ _) (Nat.le_refl _) _).trans (B1.out.mono (by simp))⟩
  · have HF := Lib.hid hf; clear hf
    go_enter Try.func38, Try.ntmps38
    go_wp2_with (go_at_call 44; refine (int_any s C _ HC.out).mono ?_; rintro e w1 ⟨rfl, hb1⟩; have B1 := Lib.hid hb1; clear hb1; rw [HX.out, if_neg HF.out, decide_eq_false HF.out])
    go_ret2
    exact ⟨ret_two (fit_no HF.out).1.symm (fit_no HF.out).2.symm, (Below.alloc (Below.refl _ _) (Nat.le_refl _) _).trans (B1.out.mono (by simp))⟩

theorem fr_sum {a b : Int} (ha : fits a) (hb : fits b) : vl (fr a) 6 + vl (fr b) 6 < pw 6 := by
  rw [fr_vl, fr_vl, pw6]; have := mg_fits ha; have := mg_fits hb; omega

set_option maxHeartbeats 1000000 in
theorem radd_any (a b : Int) (w : World) (ha : fits a) (hb : fits b) :
    Calls Try.prog 33 #[.int .i64 a, .int .i64 b] w fun e w' => e = .returned (.tuple #[.int .i64 (addV a b), .int .i64 (addE a b)]) ∧ Below w.heap.size w w' := by
  have HA := Lib.hid ha; have HB := Lib.hid hb; clear ha hb
  go_enter Try.func33, Try.ntmps33
  go_wp2_with fail
  refine (from_any a _ HA.out).mono ?_; rintro e w1 ⟨rfl, hb1⟩
  have B1 := Lib.hid hb1; clear hb1
  go_wp2_with fail
  refine (from_any b _ HB.out).mono ?_; rintro e w2 ⟨rfl, hb2⟩
  have B2 := Lib.hid (B1.out.trans (hb2.mono B1.out.size)); clear hb2
  go_wp2_with fail
  refine (plus_any _ _ (fr a) (fr b) _ (fr_limbs HA.out) (fr_limbs HB.out) (fr_sum HA.out HB.out)).mono ?_; rintro e w3 ⟨s, C, hC, hn, rfl, hb3⟩
  have B3 := Lib.hid (B2.out.trans (hb3.mono B2.out.size)); have HC := Lib.hid hC
  have HN := Lib.hid (show num s C = a + b by rw [hn, fr_num, fr_num])
  clear hb3 hC hn
  go_wp2_with fail
  refine (fit_any s C _ HN.out _ HC.out).mono ?_; rintro e w4 ⟨rfl, hb4⟩
  have B4 := Lib.hid (B3.out.trans (hb4.mono B3.out.size)); clear hb4
  go_wp2_with fail
  go_ret2
  exact ⟨ret_two rfl rfl, B4.out⟩

/-- The document's clock, of a window of length s at the time n. -/
abbrev rclk (s n : Int) : Obj := .cells #[.bool true, .int .i64 s, .int .i64 n] 53 (0, 0)
theorem rclk0 {w : World} {b : Nat} {s n : Int} (h : w.heap[b]? = some (rclk s n)) : w.cell? ⟨b, 0, none⟩ = some (.bool true) := cell_of h 0
theorem rclk1 {w : World} {b : Nat} {s n : Int} (h : w.heap[b]? = some (rclk s n)) : w.cell? ⟨b, 1, none⟩ = some (.int .i64 s) := cell_of h 1
theorem rclk2 {w : World} {b : Nat} {s n : Int} (h : w.heap[b]? = some (rclk s n)) : w.cell? ⟨b, 2, none⟩ = some (.int .i64 n) := cell_of h 2

theorem rvalid_yes (b : Nat) (w : World) (hc : w.cell? ⟨b, 0, none⟩ = some (.bool true)) :
    Calls Try.prog 32 #[.pointer (some ⟨b, 0, none⟩)] w fun e w' => e = .returned (.bool true) ∧ w = w' := by
  go_enter Try.func32, Try.ntmps32
  go_wp2
  go_ret
  exact ⟨rfl, rfl⟩
theorem rnow_any (b : Nat) (s n : Int) (w : World) (hb : w.heap[b]? = some (rclk s n)) :
    Calls Try.prog 26 #[.pointer (some ⟨b, 0, none⟩)] w fun e w' => e = .returned (.int .i64 n) ∧ w = w' := by
  have hc := rclk0 hb; have hn := rclk2 hb; clear hb
  go_enter Try.func26, Try.ntmps26
  go_wp2_with (go_at_call 32; refine (rvalid_yes _ _ hc).mono ?_; rintro e w' ⟨rfl, rfl⟩)
  go_ret
  exact ⟨rfl, rfl⟩
theorem rwindow_any (b : Nat) (s n : Int) (w : World) (hb : w.heap[b]? = some (rclk s n)) :
    Calls Try.prog 30 #[.pointer (some ⟨b, 0, none⟩)] w fun e w' => e = .returned (.int .i64 s) ∧ w = w' := by
  have hc := rclk0 hb; have hn := rclk1 hb; clear hb
  go_enter Try.func30, Try.ntmps30
  go_wp2_with (go_at_call 32; refine (rvalid_yes _ _ hc).mono ?_; rintro e w' ⟨rfl, rfl⟩)
  go_ret
  exact ⟨rfl, rfl⟩
theorem rexpiry_any (b : Nat) (s n t : Int) (w : World) (hb : w.heap[b]? = some (rclk s n)) (hs : fits s) (ht : fits t) :
    Calls Try.prog 29 #[.pointer (some ⟨b, 0, none⟩), .int .i64 t] w fun e w' => e = .returned (.tuple #[.int .i64 (addV t s), .int .i64 (addE t s)]) ∧ Below w.heap.size w w' := by
  have hc := rclk0 hb; have h1 := rclk1 hb; clear hb
  go_enter Try.func29, Try.ntmps29
  go_wp2_with (first | (go_at_call 32; refine (rvalid_yes _ _ hc).mono ?_; rintro e w' ⟨rfl, rfl⟩) | (go_at_call 33; refine (radd_any _ _ _ ht hs).mono ?_; rintro e w1 ⟨rfl, hb1⟩; have B1 := Lib.hid hb1; clear hb1))
  go_ret2
  exact ⟨rfl, B1.out⟩
theorem rcheck_any (b : Nat) (s n t : Int) (w : World) (hb : w.heap[b]? = some (rclk s n)) (hs : fits s) (ht : fits t) :
    Calls Try.prog 23 #[.pointer (some ⟨b, 0, none⟩), .int .i64 t] w fun e w' => e = .returned (.int .i64 (chk s n t)) ∧ Below w.heap.size w w' := by
  have hc := rclk0 hb; have h1 := rclk1 hb; have h2 := rclk2 hb; clear hb
  by_cases hlt : t < n
  · have H := Lib.hid (chk_lt (s := s) hlt)
    go_enter Try.func23, Try.ntmps23
    go_wp2_with (first | (go_at_call 32; refine (rvalid_yes _ _ hc).mono ?_; rintro e w' ⟨rfl, rfl⟩))
    go_ret
    exact ⟨by rw [H.out]; rfl, Below.refl _ _⟩
  · have H := Lib.hid (chk_ge (s := s) (Int.not_lt.1 hlt))
    go_enter Try.func23, Try.ntmps23
    go_wp2_with (first | (go_at_call 32; refine (rvalid_yes _ _ hc).mono ?_; rintro e w' ⟨rfl, rfl⟩) | (go_at_call 33; refine (radd_any _ _ _ ht hs).mono ?_; rintro e w1 ⟨rfl, hb1⟩; have B1 := Lib.hid hb1; clear hb1))
    go_ret
    exact ⟨by rw [H.out]; rfl, B1.out⟩
theorem radvance_any (b : Nat) (s n t : Int) (w : World) (hb : w.heap[b]? = some (rclk s n)) (hs : fits s) (ht : fits t) :
    Calls Try.prog 22 #[.pointer (some ⟨b, 0, none⟩), .int .i64 t] w fun e w' => e = .returned (.int .i64 (chk s n t)) ∧ w'.heap[b]? = some (rclk s (adv s n t)) ∧ Touch (· = b) w w' := by
  have HB := Lib.hid hb; clear hb
  by_cases hk : chk s n t = 0
  · have Hk := Lib.hid hk
    have h0 : (chk s n t == 0) = true := by simp [hk]
    clear hk
    go_enter Try.func22, Try.ntmps22
    go_wp2_with (first | (go_at_call 23; refine (rcheck_any _ _ _ _ _ HB.out hs ht).mono ?_; rintro e w1 ⟨rfl, hb1⟩; have B1 := Lib.hid hb1; clear hb1; have hb := (B1.out.block _ (lt_of_block HB.out)).trans HB.out; have h2 := rclk2 hb; have hf := free_of hb 2; have HB2 := Lib.hid hb; clear hb))
    go_ret
    refine ⟨by rfl, ?_, Touch.setCell (S := (· = b)) (Touch.of_below B1.out _) (fun _ => rfl) _⟩
    have := set_of HB2.out 2 (.int .i64 t)
    rw [this]; simp [adv, Hk.out]
  · have Hk := Lib.hid hk
    have h0 : (chk s n t == 0) = false := by simp [hk]
    clear hk
    go_enter Try.func22, Try.ntmps22
    go_wp2_with (first | (go_at_call 23; refine (rcheck_any _ _ _ _ _ HB.out hs ht).mono ?_; rintro e w1 ⟨rfl, hb1⟩; have B1 := Lib.hid hb1; clear hb1; have hb := (B1.out.block _ (lt_of_block HB.out)).trans HB.out; have HB2 := Lib.hid hb; clear hb))
    go_ret
    refine ⟨by rfl, ?_, Touch.of_below B1.out _⟩
    rw [HB2.out]; simp [adv, Hk.out]

theorem lv_sgn {s n t : Int} (ht : t ≤ n) (htf : fits t) (hn : fits (n + s)) (_h1 : 1 ≤ s) : decide (sgn (n - (t + s)) < 0) = lv s n t := by
  unfold lv; rw [Bool.eq_iff_iff]; simp only [decide_eq_true_eq]; unfold sgn fits at *
  constructor
  · intro h; split at h
    · omega
    · split at h <;> omega
  · intro h; rw [if_neg (by omega), if_pos (by omega)]; omega
abbrev frc (x : Int) : Obj := .cells (wdc (decide (x < 0)) (fr x)) 58
theorem from_exact (x : Int) (w : World) (hx : fits x) :
    Calls Try.prog 36 #[.int .i64 x] w fun e w' => e = .returned (.agg (wdc (decide (x < 0)) (fr x))) ∧ w' = (w.alloc (frc x)).alloc (frc x) := by
  obtain ⟨h1, h2⟩ := hx
  by_cases h : x < 0
  · have e1 : frc x = .cells #[Value.bool true, .int .u64 ((-(x + 1) + 1) % 4294967296), .int .u64 ((-(x + 1) + 1) / 4294967296), .int .u64 0, .int .u64 0, .int .u64 0, .int .u64 0] 58 := by
      simp [frc, fr, mg, h]; omega
    have E := Lib.hid e1; clear e1
    go_enter Try.func36, Try.ntmps36
    go_wp2
    refine bodyPost_ret (v := .agg (wdc true (fr x))) (by simp [results, Try.results36, go_sem, fr, mg]; try omega) rfl ⟨?_, ?_⟩
    · simp [h]
    · rw [E.out]
  · have e1 : frc x = .cells #[Value.bool false, .int .u64 (x % 4294967296), .int .u64 (x / 4294967296), .int .u64 0, .int .u64 0, .int .u64 0, .int .u64 0] 58 := by
      simp [frc, fr, mg, h]
    have E := Lib.hid e1; clear e1
    go_enter Try.func36, Try.ntmps36
    go_wp2
    refine bodyPost_ret (v := .agg (wdc false (fr x))) (by simp [results, Try.results36, go_sem, fr, mg]; try omega) rfl ⟨?_, ?_⟩
    · simp [h]
    · rw [E.out]
theorem alloc_get (w : World) (o : Obj) (k : Nat) : (w.alloc o).heap[k]? = if k = w.heap.size then some o else w.heap[k]? := by
  show (w.heap.push o)[k]? = _; rw [Array.getElem?_push]
theorem cut_set {w : World} {g : Nat} {v0 v1 v2 v3 v4 v5 v6 u0 u1 u2 u3 u4 u5 u6 : Value} {t : TypeId} (h : w.heap[g]? = some (.cells #[v0, v1, v2, v3, v4, v5, v6] t (0, 0))) :
    (((((((w.setCell ⟨g, 0, none⟩ u0).setCell ⟨g, 1, none⟩ u1).setCell ⟨g, 2, none⟩ u2).setCell ⟨g, 3, none⟩ u3).setCell ⟨g, 4, none⟩ u4).setCell ⟨g, 5, none⟩ u5).setCell ⟨g, 6, none⟩ u6).heap[g]? = some (.cells #[u0, u1, u2, u3, u4, u5, u6] t (0, 0)) := by
  rw [set_of (set_of (set_of (set_of (set_of (set_of (set_of h 0 u0) 1 u1) 2 u2) 3 u3) 4 u4) 5 u5) 6 u6]; rfl
theorem cut_old {w : World} {b g : Nat} {o : Obj} {u0 u1 u2 u3 u4 u5 u6 : Value} (hne : b ≠ g) (h : w.heap[b]? = some o) :
    (((((((w.setCell ⟨g, 0, none⟩ u0).setCell ⟨g, 1, none⟩ u1).setCell ⟨g, 2, none⟩ u2).setCell ⟨g, 3, none⟩ u3).setCell ⟨g, 4, none⟩ u4).setCell ⟨g, 5, none⟩ u5).setCell ⟨g, 6, none⟩ u6).heap[b]? = some o :=
  block_set (block_set (block_set (block_set (block_set (block_set (block_set h hne _) hne _) hne _) hne _) hne _) hne _) hne _
theorem cut_below {w0 w : World} {B g : Nat} {u0 u1 u2 u3 u4 u5 u6 : Value} (hg : B ≤ g) (h : Below B w0 w) :
    Below B w0 (((((((w.setCell ⟨g, 0, none⟩ u0).setCell ⟨g, 1, none⟩ u1).setCell ⟨g, 2, none⟩ u2).setCell ⟨g, 3, none⟩ u3).setCell ⟨g, 4, none⟩ u4).setCell ⟨g, 5, none⟩ u5).setCell ⟨g, 6, none⟩ u6) :=
  ((((((h.setCell hg _).setCell hg _).setCell hg _).setCell hg _).setCell hg _).setCell hg _).setCell hg _
theorem heap_drew (w : World) : w.drew.heap = w.heap := rfl
def LiveCut (b : Nat) (s n t : Int) (w : World) (v5 : Value) (wx : World) : Prop :=
  ∃ g s3 C, v5 = .pointer (some ⟨g, 0, none⟩) ∧ Limbs C ∧ num s3 C = t + s ∧ wx.heap[g]? = some (.cells (wdc s3 C) 58 (0, 0)) ∧ wx.heap[b]? = some (rclk s n) ∧ Below w.heap.size w wx
theorem liveA {b : Nat} {s n t : Int} {w w3 : World} {s3 : Bool} {C : Nat → Int} (hC : Limbs C) (hnum : num s3 C = t + s) (hbb : w3.heap[b]? = some (rclk s n)) (hbw : Below w.heap.size w w3) :
    LiveCut b s n t w (.pointer (some ⟨w3.heap.size, 0, none⟩)) (w3.alloc (.cells (wdc s3 C) 58)) :=
  ⟨_, s3, C, rfl, hC, hnum, block_new _ _, block_old hbb _, Below.alloc hbw hbw.size _⟩
theorem liveB {b g : Nat} {s n t : Int} {w w3 : World} {s3 : Bool} {C : Nat → Int} (hC : Limbs C) (hnum : num s3 C = t + s) (hbb : w3.heap[b]? = some (rclk s n)) (hbw : Below w.heap.size w w3) (hb : b < w.heap.size) (hg : w.heap.size ≤ g) (hX : w3.heap[g]? = some (.cells (wdc false fun _ => 0) 58)) :
    LiveCut b s n t w (.pointer (some ⟨g, 0, none⟩)) (((((((w3.setCell ⟨g, 0, none⟩ (.bool s3)).setCell ⟨g, 1, none⟩ (.int .u64 (C 0))).setCell ⟨g, 2, none⟩ (.int .u64 (C 1))).setCell ⟨g, 3, none⟩ (.int .u64 (C 2))).setCell ⟨g, 4, none⟩ (.int .u64 (C 3))).setCell ⟨g, 5, none⟩ (.int .u64 (C 4))).setCell ⟨g, 6, none⟩ (.int .u64 (C 5))) :=
  ⟨_, s3, C, rfl, hC, hnum, cut_set hX, cut_old (by omega) hbb, cut_below hg hbw⟩
set_option maxHeartbeats 8000000 in
theorem rlive_any (b : Nat) (s n t : Int) (w : World) (hb : w.heap[b]? = some (rclk s n)) (h1 : 1 ≤ s) (hs : fits s) (ht : fits t) (hn : fits n) (hns : fits (n + s)) :
    Calls Try.prog 31 #[.pointer (some ⟨b, 0, none⟩), .int .i64 t] w fun e w' => e = .returned (.bool (lv s n t)) ∧ Below w.heap.size w w' := by
  have h0 := rclk0 hb; have h1' := rclk1 hb; have h2 := rclk2 hb
  have HB := Lib.hid hb; clear hb
  have HS := Lib.hid hs; have HT := Lib.hid ht; have HN := Lib.hid hn; have HNS := Lib.hid hns
  clear hs ht hn hns
  by_cases hlt : t ≤ n
  · have HL := Lib.hid (lv_sgn hlt HT.out HNS.out h1)
    go_enter Try.func31, Try.ntmps31
    go_upto_region 3 with (go_at_call 32; refine (rvalid_yes _ _ h0).mono ?_; rintro e w' ⟨rfl, rfl⟩)
    go_cut [5] (fun s5 wx => LiveCut b s n t w s5 wx)
    case first =>
      have hbl := lt_of_block HB.out
      have hbl1 : b < w.heap.size + 1 := by omega
      have hbl2 : b < w.heap.size + 1 + 1 := by omega
      have hbl3 : b < w.heap.size + 1 + 1 + 1 := by omega
      have hbl4 : b < w.heap.size + 1 + 1 + 1 + 1 := by omega
      have hbl5 : b < w.heap.size + 1 + 1 + 1 + 1 + 1 := by omega
      clear h0 h2
      go_region_with (first
        | (go_at_call_of 36 (Value.int IntKind.i64 t); refine (from_exact t _ HT.out).mono ?_; rintro e w1 ⟨rfl, rfl⟩)
        | (go_at_call_of 36 (Value.int IntKind.i64 s); refine (from_exact s _ HS.out).mono ?_; rintro e w2 ⟨rfl, rfl⟩)
        | (go_at_call 35; refine (plus_any _ _ (fr t) (fr s) _ (fr_limbs HT.out) (fr_limbs HS.out) (fr_sum HT.out HS.out)).mono ?_; rintro e w3 ⟨s3, C, hC, hn3, rfl, hb3⟩; have B3 := Lib.hid hb3; have HC := Lib.hid hC; have HN3 := Lib.hid hn3; have hs3 := hb3.size; obtain ⟨kc, kf⟩ := bcell hb3; clear hb3 hC hn3))
      all_goals
        go_wp2_with fail
        go_meet
        have hX := B3.out
        have hbw : Below w.heap.size w w3 := by
          refine Below.trans ?_ (Below.mono hX ?_)
          · go_grown
          · simp; try omega
        have hnum : num s3 C = t + s := by rw [HN3.out, fr_num, fr_num]
        have hbb := (hbw.block b hbl).trans HB.out
        first
          | with_reducible exact liveA HC.out hnum hbb hbw
          | (with_reducible refine liveB HC.out hnum hbb hbw hbl ?_ ?_
             · omega
             · rw [hX.block _ (by simp; try omega)]
               simp only [alloc_get, heap_drew, World.size_alloc]
               repeat (first | rw [if_neg (by omega)] | rw [if_pos trivial] | rfl))
    case rest =>
      obtain ⟨g, s3, C, rfl, hC, hn3, hg, hb, hbw⟩ := hcut
      have c2 := rclk2 hb
      obtain ⟨a0, a1, a2, a3, a4, a5, a6⟩ := w2_cells hg
      have zg := lt_of_block hg
      have HC := Lib.hid hC; have HN3 := Lib.hid hn3; have HBW := Lib.hid hbw
      have HS5 := Lib.hid (show vl (fr n) 6 + vl C 6 < pw 6 by
        have e1 := mg_fits HN.out; have e2 : vl C 6 ≤ 18446744073709551616 := by
          have := vl_lt hC 6; have := HS.out; have := HT.out; unfold fits at *; unfold num at hn3; split at hn3 <;> omega
        rw [fr_vl, pw6]; omega)
      clear hC hn3 hg hb hbw h0 h1' h2
      go_wp2_with fail
      go_region_with (first
        | (go_at_call 36; refine (from_exact n _ HN.out).mono ?_; rintro e w1 ⟨rfl, rfl⟩)
        | (go_at_call 37; refine (order_any _ _ (fr n) C _ (fr_limbs HN.out) HC.out HS5.out).mono ?_; rintro e w4 ⟨rfl, hb4⟩; have B4 := Lib.hid hb4; clear hb4))
      all_goals
        go_wp2
        go_ret
        refine ⟨ret_bool ?_, ?_⟩
        · rw [← HL.out, HN3.out, fr_num]
        · have hX := B4.out
          refine Below.trans HBW.out (Below.trans ?_ (Below.mono hX ?_))
          · have hz := HBW.out.size
            have e0 := Below.refl w.heap.size wc
            go_grown
          · have hz := HBW.out.size
            simp; try omega
  · have HL := Lib.hid (show lv s n t = false by simp [lv, hlt])
    go_enter Try.func31, Try.ntmps31
    go_wp2_with (first | (go_at_call 32; refine (rvalid_yes _ _ h0).mono ?_; rintro e w' ⟨rfl, rfl⟩))
    go_ret
    exact ⟨by rw [HL.out]; rfl, Below.refl _ _⟩
end Go.Proofs.Ytbmlkanonmooeaa

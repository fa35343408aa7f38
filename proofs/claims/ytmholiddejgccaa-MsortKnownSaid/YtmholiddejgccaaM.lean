/- The walks of the laws MsortLess and MsortChecks. -/
import Derived.Test.YtmholiddejgccaaL
namespace Go.Proofs.Ytmholiddejgccaa
open Go.ChangeShapes Go.WideShapes Go.ChangeAt Go.RowKit

theorem pless {k : Int} (a b : Rc) (w : World) : Calls Try.prog 12 #[a.agg, b.agg, .int .i64 k] w fun e w' => e = .returned (.tuple #[.bool (if 1 ≤ k ∧ k ≤ 3 then ltK k a b else false), .int .i64 (errK k 0)]) ∧ Below w.heap.size w w' := by
  by_cases hk : kn k
  · rw [if_pos (show 1 ≤ k ∧ k ≤ 3 from hk), errK_ok hk (by decide)]; exact pless_yes hk a b w
  · rw [if_neg (show ¬ (1 ≤ k ∧ k ≤ 3) from hk), errK_key hk]; exact pless_no hk a b w
theorem rless {k : Int} (a b : Rc) (w : World) : Calls Try.prog 13 #[a.agg, b.agg, .int .i64 k] w fun e w' => e = .returned (.tuple #[.bool (if 1 ≤ k ∧ k ≤ 3 then ltK k a b else false), .int .i64 (errK k 0)]) ∧ Below w.heap.size w w' := by
  by_cases hk : kn k
  · rw [if_pos (show 1 ≤ k ∧ k ≤ 3 from hk), errK_ok hk (by decide)]; exact rless_yes hk a b w
  · rw [if_neg (show ¬ (1 ≤ k ∧ k ≤ 3) from hk), errK_key hk]; exact rless_no hk a b w
theorem less_law (a b : Rc) (k : Int) (w : World) (_hk : (Lit.int .i64 k).wf = true) : Calls Try.prog 3 #[a.agg, b.agg, .int .i64 k] w fun e w' => e = .returned (.bool true) ∧ Below w.heap.size w w' := by
  have HP := Lib.hid (fun w => pless (k := k) a b w)
  have HR := Lib.hid (fun w => rless (k := k) a b w)
  generalize (if 1 ≤ k ∧ k ≤ 3 then ltK k a b else false) = res at *
  generalize errK k 0 = er at *
  obtain ⟨au, av, aw, at'⟩ := a
  obtain ⟨bu, bv, bw, bt⟩ := b
  unfold Rc.agg at *
  simp only at *
  go_enter Try.func3, Try.ntmps3
  go_wp2_with fail
  refine (HP.out _).mono ?_; rintro e w1 ⟨rfl, hb1⟩
  have B1 := Lib.hid ((below2 w _ _).trans (hb1.mono (by simp; omega)))
  obtain ⟨c0, c1, c2, c3⟩ := four (keep_block (two_blocks w _ _).1 hb1)
  obtain ⟨d0, d1, d2, d3⟩ := four (keep_block (two_blocks w _ _).2 hb1)
  clear hb1
  go_wp2_with fail
  refine (HR.out _).mono ?_; rintro e w2 ⟨rfl, hb2⟩
  have B2 := Lib.hid (B1.out.trans (hb2.mono B1.out.size))
  clear hb2 c0 c1 c2 c3 d0 d1 d2 d3
  go_wp2_with fail
  refine (works_any _).mono ?_; rintro e w3 ⟨rfl, hb⟩
  have B3 := Lib.hid (B2.out.trans (hb.mono B2.out.size)); clear hb
  go_wp2_with fail
  go_ret
  exact ⟨rfl, B3.out⟩
section
variable {w : World} {aa : Option Addr} {la ca : Nat} {zs : List Rc}
/-- The four, with their errors. -/
def okB (k : Int) (la : Nat) : Bool := decide (1 ≤ k ∧ k ≤ 3 ∧ la ≤ 65536)
theorem okB_yes {k : Int} {la : Nat} (h : okB k la = true) : kn k ∧ la ≤ 65536 := by simp [okB] at h; exact ⟨⟨h.1, h.2.1⟩, h.2.2⟩
theorem okB_no {k : Int} {la : Nat} (h : okB k la = false) : ¬ (kn k ∧ (la : Int) ≤ 65536) := fun hh => by
  simp [okB] at h; have := h hh.1.1 hh.1.2; have := hh.2; omega
def srtV (k : Int) (zs : List Rc) : Bool := if okB k zs.length then (inv (ltK k) zs == 0) else false
def invV (k : Int) (zs : List Rc) : Int := if okB k zs.length then (inv (ltK k) zs : Nat) else 0
theorem psorted {k : Int} (h : IsSl 4 encR w aa la ca zs) : Calls Try.prog 21 #[.slice aa la ca, .int .i64 k] w fun e w' => e = .returned (.tuple #[.bool (srtV k zs), .int .i64 (errK k la)]) ∧ Below w.heap.size w w' := by
  have hm := h.hmax; have hl := h.hle; unfold maxLen at hm
  have hal := h.hlen
  cases ho : okB k zs.length
  · have e : srtV k zs = false := by simp [srtV, ho]
    rw [e]; exact (sorted_no (by rw [hal]; exact okB_no ho) (by omega)).mono fun _ _ ⟨he, hw⟩ => by subst hw; exact ⟨he, Below.refl _ _⟩
  · have e : srtV k zs = (inv (ltK k) zs == 0) := by simp [srtV, ho]
    have hk := okB_yes ho
    rw [e, errK_ok hk.1 (by omega)]; exact sorted_yes hk.1 h (by omega)
theorem rsorted {k : Int} (h : IsSl 4 encR w aa la ca zs) : Calls Try.prog 22 #[.slice aa la ca, .int .i64 k] w fun e w' => e = .returned (.tuple #[.bool (srtV k zs), .int .i64 (errK k la)]) ∧ Below w.heap.size w w' := by
  have hal := h.hlen
  cases ho : okB k zs.length
  · have e : srtV k zs = false := by simp [srtV, ho]
    rw [e]; exact (rsorted_no (by rw [hal]; exact okB_no ho)).mono fun _ _ ⟨he, hw⟩ => by subst hw; exact ⟨he, Below.refl _ _⟩
  · have e : srtV k zs = (inv (ltK k) zs == 0) := by simp [srtV, ho]
    have hk := okB_yes ho
    rw [e, errK_ok hk.1 (by omega)]; exact rsorted_yes hk.1 h (by omega)
theorem pinv {k : Int} (h : IsSl 4 encR w aa la ca zs) : Calls Try.prog 23 #[.slice aa la ca, .int .i64 k] w fun e w' => e = .returned (.tuple #[.int .i64 (invV k zs), .int .i64 (errK k la)]) ∧ Below w.heap.size w w' := by
  have hm := h.hmax; have hl := h.hle; unfold maxLen at hm
  have hal := h.hlen
  cases ho : okB k zs.length
  · have e : invV k zs = 0 := by simp [invV, ho]
    rw [e]; exact (inv_no (by rw [hal]; exact okB_no ho) (by omega)).mono fun _ _ ⟨he, hw⟩ => by subst hw; exact ⟨he, Below.refl _ _⟩
  · have e : invV k zs = (inv (ltK k) zs : Nat) := by simp [invV, ho]
    have hk := okB_yes ho
    rw [e, errK_ok hk.1 (by omega)]; exact inv_yes hk.1 h (by omega)
theorem rinv {k : Int} (h : IsSl 4 encR w aa la ca zs) : Calls Try.prog 24 #[.slice aa la ca, .int .i64 k] w fun e w' => e = .returned (.tuple #[.int .i64 (invV k zs), .int .i64 (errK k la)]) ∧ Below w.heap.size w w' := by
  have hal := h.hlen
  cases ho : okB k zs.length
  · have e : invV k zs = 0 := by simp [invV, ho]
    rw [e]; exact (rinv_no (by rw [hal]; exact okB_no ho)).mono fun _ _ ⟨he, hw⟩ => by subst hw; exact ⟨he, Below.refl _ _⟩
  · have e : invV k zs = (inv (ltK k) zs : Nat) := by simp [invV, ho]
    have hk := okB_yes ho
    rw [e, errK_ok hk.1 (by omega)]; exact rinv_yes hk.1 h (by omega)
set_option maxHeartbeats 1000000 in
theorem checks_law (aa : Option Addr) (la ca : Nat) (zs : List Rc) (k : Int) (w : World) (h : IsSl 4 encR w aa la ca zs) (_hk : (Lit.int .i64 k).wf = true) :
    Calls Try.prog 5 #[.slice aa la ca, .int .i64 k] w fun e w' => e = .returned (.bool true) ∧ Below w.heap.size w w' := by
  have hm := h.hmax; have hl := h.hle; unfold maxLen at hm
  have H := Lib.hid h
  clear h
  by_cases h2 : 200 < la
  · go_enter Try.func5, Try.ntmps5
    go_wp2_with fail
    go_ret
    exact ⟨rfl, Below.refl _ _⟩
  · have P1 := Lib.hid (fun w aa la ca (h : IsSl 4 encR w aa la ca zs) => psorted (k := k) h)
    have P2 := Lib.hid (fun w aa la ca (h : IsSl 4 encR w aa la ca zs) => rsorted (k := k) h)
    have P3 := Lib.hid (fun w aa la ca (h : IsSl 4 encR w aa la ca zs) => pinv (k := k) h)
    have P4 := Lib.hid (fun w aa la ca (h : IsSl 4 encR w aa la ca zs) => rinv (k := k) h)
    generalize srtV k zs = s at *
    generalize invV k zs = n at *
    go_enter Try.func5, Try.ntmps5
    go_wp2_with fail
    refine (P1.out _ _ _ _ H.out).mono ?_; rintro e w1 ⟨rfl, hb⟩
    have H1 := Lib.hid (H.out.below hb); have B1 := Lib.hid hb; clear hb
    go_wp2_with fail
    refine (P2.out _ _ _ _ H1.out).mono ?_; rintro e w2 ⟨rfl, hb⟩
    have H2 := Lib.hid (H1.out.below hb); have B2 := Lib.hid (B1.out.trans (hb.mono B1.out.size)); clear hb
    go_wp2_with fail
    refine (P3.out _ _ _ _ H2.out).mono ?_; rintro e w3 ⟨rfl, hb⟩
    have H3 := Lib.hid (H2.out.below hb); have B3 := Lib.hid (B2.out.trans (hb.mono B2.out.size)); clear hb
    go_wp2_with fail
    refine (P4.out _ _ _ _ H3.out).mono ?_; rintro e w4 ⟨rfl, hb⟩
    have B4 := Lib.hid (B3.out.trans (hb.mono B3.out.size)); clear hb
    go_wp2_with fail
    refine (works_any _).mono ?_; rintro e w5 ⟨rfl, hb⟩
    have B5 := Lib.hid (B4.out.trans (hb.mono B4.out.size)); clear hb
    go_wp2_with fail
    go_ret
    exact ⟨rfl, B5.out⟩
end
end Go.Proofs.Ytmholiddejgccaa

/- copied; the walk of the law MsortSorts. -/
import Derived.Test.YtmholiddejgccaaP
import Derived.Test.YtmholiddejgccaaM
namespace Go.Proofs.Ytmholiddejgccaa
open Go.ChangeShapes Go.WideShapes Go.ChangeAt Go.RowKit
section
variable {w : World} {aa : Option Addr} {la ca : Nat} {zs : List Rc}
theorem copied_any (h : IsSl 4 encR w aa la ca zs) (hl : la ≤ 100000) : Calls Try.prog 15 #[.slice aa la ca] w fun e w' => ∃ a c, e = .returned (.slice a la c) ∧ OutR 4 encR 24 w' w.heap.size (.slice a la c) zs ∧ IsSl 4 encR w' a la c zs ∧ Below w.heap.size w w' := by
  have hal := h.hlen; have hac := h.hle; have ham := h.hmax
  unfold maxLen at ham
  have H := Lib.hid h; have HAL := Lib.hid hal
  clear h hal
  obtain ⟨i0, hi, hz0, hz1, hz2⟩ := info_parts info24
  go_enter Try.func15, Try.ntmps15
  have OW : Hid ((w.alloc (.cells #[] 24)).ownsRow 0 24 4 (.slice (some ⟨w.heap.size, 0, none⟩) 0 0) 0 []) := Lib.hid ⟨rfl, Or.inr ⟨w.heap.size, 0, #[], rfl, Nat.zero_le _, block_new _ _, Nat.le_refl _, Nat.zero_le _, rfl, rfl⟩⟩
  have HB := Lib.hid (Below.alloc (Below.refl w.heap.size w) (Nat.le_refl _) (.cells #[] 24))
  have H1 := Lib.hid (H.out.below HB.out)
  go_wp2_with (at_builtin; refine wpList_append_slice _ rfl (.tmp 3) (.tmp 4) 31 rfl 24 i0 (.agg #[.int .u64 0, .int .u64 0, .int .i64 0, .int .i64 0]) 4 32 Try.underlying31 hi hz0 hz1 hz2 rfl (by decide) _ _ _ rfl OW.out _ _ _ (flat encR zs) rfl ?_ ?_ ?_ (flat_one encR_one _) ?_ ?_ ?_)
  · rw [flat_length encR_len, HAL.out]
  · intro h; exact ⟨by have := H.out.hle; have := H.out.hnone h; omega, H.out.hnone h⟩
  · intro a ha
    subst ha
    exact slNews encR_len H1.out
  · unfold maxLen; omega
  · omega
  · intro v1 w1 hr hg hn
    obtain ⟨a1, c1, hv1⟩ : ∃ a c, v1 = .slice a la c := own_shape hr
    subst hv1
    have hb1 : Below w.heap.size w w1 := HB.out.grown hg HB.out.size (fun k hk => by
      have : w.heap.size = k := by simpa [Value.ownBlock] using hk
      omega)
    have hr2 := hr
    rw [HAL.out] at hr2
    have O1 : Hid (OutR 4 encR 24 w1 w.heap.size (.slice a1 la c1) zs) := Lib.hid ⟨by rw [HAL.out]; exact hr2, fun g hg' => (hn g hg').elim (fun h => by
      have : w.heap.size = g := by simpa [Value.ownBlock] using h
      omega) (fun h => by omega)⟩
    have S1 := Lib.hid (IsSl.of_own encR_len hr HAL.out.symm)
    have B1 := Lib.hid hb1
    clear hr hg hn hb1 hr2
    go_wp2_with fail
    go_ret
    exact ⟨a1, c1, rfl, O1.out, S1.out, B1.out⟩
/-! Sort and Perm with their errors, of both. -/
def srtL (k : Int) (zs : List Rc) : List Rc := if okB k zs.length then arr (ltK k) zs else []
def prmL (k : Int) (zs : List Rc) : List Nat := if okB k zs.length then prm (ltK k) zs else []
/-- What Sort and Perm return. -/
def SortPost {α : Type} (sz : Nat) (enc : α → List Value) (_e0 : TypeId) (er : Int) (zs : List α) (w : World) (e : Ending) (w' : World) : Prop :=
  ∃ a c, e = .returned (.tuple #[.slice a zs.length c, .int .i64 er]) ∧ IsSl sz enc w' a zs.length c zs ∧ (∀ x, a = some x → w.heap.size ≤ x.block ∧ x.block < w'.heap.size) ∧ Below w.heap.size w w'
theorem SortPost.of {α : Type} {sz : Nat} {enc : α → List Value} (hE : ∀ x, (enc x).length = sz) {e0 : TypeId} {zs : List α} {w w' : World} {v : Value} {er : Int} (ho : OutR sz enc e0 w' w.heap.size v zs) (hb : Below w.heap.size w w') : SortPost sz enc e0 er zs w (.returned (.tuple #[v, .int .i64 er])) w' := by
  obtain ⟨a, c, rfl⟩ : ∃ a c, v = .slice a zs.length c := own_shape ho.row
  exact ⟨a, c, rfl, IsSl.of_own hE ho.row rfl, fun x hx => by subst hx; exact ⟨ho.blk x.block rfl, own_lt ho.row (g := x.block) rfl⟩, hb⟩
theorem psort {k : Int} (h : IsSl 4 encR w aa la ca zs) : Calls Try.prog 16 #[.slice aa la ca, .int .i64 k] w (SortPost 4 encR 24 (errK k la) (srtL k zs) w) := by
  have hm := h.hmax; have hl := h.hle; unfold maxLen at hm
  have hal := h.hlen
  cases ho : okB k zs.length
  · have e : srtL k zs = [] := by simp [srtL, ho]
    rw [e]; exact (sort_no (by rw [hal]; exact okB_no ho) (by omega)).mono fun _ _ ⟨he, hw⟩ => by subst hw; exact ⟨none, 0, he, IsSl.nil _, fun x hx => (by cases hx), Below.refl _ _⟩
  · have e : srtL k zs = arr (ltK k) zs := by simp [srtL, ho]
    have hk := okB_yes ho
    rw [e, errK_ok hk.1 (by omega)]; exact (sort_yes hk.1 h (by omega)).mono fun _ _ ⟨v, he, ho, hb⟩ => by subst he; exact SortPost.of encR_len ho hb
theorem rsort {k : Int} (h : IsSl 4 encR w aa la ca zs) : Calls Try.prog 17 #[.slice aa la ca, .int .i64 k] w (SortPost 4 encR 24 (errK k la) (srtL k zs) w) := by
  have hal := h.hlen
  cases ho : okB k zs.length
  · have e : srtL k zs = [] := by simp [srtL, ho]
    rw [e]; exact (rsort_no (by rw [hal]; exact okB_no ho)).mono fun _ _ ⟨he, hw⟩ => by subst hw; exact ⟨none, 0, he, IsSl.nil _, fun x hx => (by cases hx), Below.refl _ _⟩
  · have e : srtL k zs = arr (ltK k) zs := by simp [srtL, ho]
    have hk := okB_yes ho
    rw [e, errK_ok hk.1 (by omega)]; exact (rsort_yes hk.1 h (by omega)).mono fun _ _ ⟨v, he, ho, hb⟩ => by subst he; exact SortPost.of encR_len ho hb
theorem pperm {k : Int} (h : IsSl 4 encR w aa la ca zs) : Calls Try.prog 18 #[.slice aa la ca, .int .i64 k] w (SortPost 1 encN 3 (errK k la) (prmL k zs) w) := by
  have hal := h.hlen
  cases ho : okB k zs.length
  · have e : prmL k zs = [] := by simp [prmL, ho]
    rw [e]; exact (perm_no (by rw [hal]; exact okB_no ho)).mono fun _ _ ⟨he, hw⟩ => ⟨none, 0, he, IsSl.nil _, fun x hx => (by cases hx), hw⟩
  · have e : prmL k zs = prm (ltK k) zs := by simp [prmL, ho]
    have hk := okB_yes ho
    rw [e, errK_ok hk.1 (by omega)]; exact (perm_yes hk.1 h (by omega)).mono fun _ _ ⟨v, he, ho, hb⟩ => by subst he; exact SortPost.of encN_len ho hb
theorem rperm {k : Int} (h : IsSl 4 encR w aa la ca zs) : Calls Try.prog 19 #[.slice aa la ca, .int .i64 k] w (SortPost 1 encN 3 (errK k la) (prmL k zs) w) := by
  have hal := h.hlen
  cases ho : okB k zs.length
  · have e : prmL k zs = [] := by simp [prmL, ho]
    rw [e]; exact (rperm_no (by rw [hal]; exact okB_no ho)).mono fun _ _ ⟨he, hw⟩ => by subst hw; exact ⟨none, 0, he, IsSl.nil _, fun x hx => (by cases hx), Below.refl _ _⟩
  · have e : prmL k zs = ins (ltI (ltK k) zs) zs.length := by simp [prmL, ho, prm_ins (swoK k)]
    have hk := okB_yes ho
    rw [e, errK_ok hk.1 (by omega)]; exact (rperm_yes hk.1 h (by omega)).mono fun _ _ ⟨v, he, ho, hb⟩ => by subst he; exact SortPost.of encN_len ho hb
def SortsRel (w : World) (n : Nat) (vi : Value) (wr : World) : Prop := ∃ i : Nat, i ≤ n ∧ vi = .int .i64 i ∧ Below w.heap.size w wr
set_option maxRecDepth 100000 in
set_option maxHeartbeats 4000000 in
theorem sorts_law (aa : Option Addr) (la ca : Nat) (zs : List Rc) (k : Int) (w : World) (h : IsSl 4 encR w aa la ca zs) (_hk : (Lit.int .i64 k).wf = true) :
    Calls Try.prog 4 #[.slice aa la ca, .int .i64 k] w fun e w' => e = .returned (.bool true) ∧ Below w.heap.size w w' := by
  have hm := h.hmax; have hl := h.hle; unfold maxLen at hm
  have H := Lib.hid h
  clear h
  by_cases h2 : 200 < la
  · go_enter Try.func4, Try.ntmps4
    go_wp2_with fail
    go_ret
    exact ⟨rfl, Below.refl _ _⟩
  · have P1 := Lib.hid (fun w aa ca (h : IsSl 4 encR w aa la ca zs) => psort (k := k) h)
    have P2 := Lib.hid (fun w aa ca (h : IsSl 4 encR w aa la ca zs) => rsort (k := k) h)
    have P3 := Lib.hid (fun w aa ca (h : IsSl 4 encR w aa la ca zs) => pperm (k := k) h)
    have P4 := Lib.hid (fun w aa ca (h : IsSl 4 encR w aa la ca zs) => rperm (k := k) h)
    have hpl : (prmL k zs).length ≤ 65536 := by
      unfold prmL; split
      · rw [prm_len]; have := H.out.hlen; omega
      · simp
    generalize srtL k zs = ss at *
    generalize prmL k zs = ps at *
    generalize errK k la = er at *
    go_enter Try.func4, Try.ntmps4
    go_wp2_with fail
    refine (copied_any H.out (by omega)).mono ?_; rintro e w1 ⟨a1, c1, rfl, ho, hs, hb⟩
    have H1 := Lib.hid (H.out.below hb); have I1 := Lib.hid hs; have B1 := Lib.hid hb
    clear ho hs hb
    go_wp2_with fail
    refine (P1.out _ _ _ I1.out).mono ?_; rintro e w2 ⟨a2, c2, rfl, hs, _, hb⟩
    have H2 := Lib.hid (H1.out.below hb); have I2 := Lib.hid (I1.out.below hb); have S2 := Lib.hid hs; have B2 := Lib.hid (B1.out.trans (hb.mono B1.out.size))
    clear hs hb
    go_wp2_with fail
    refine (P2.out _ _ _ H2.out).mono ?_; rintro e w3 ⟨a3, c3, rfl, hs, _, hb⟩
    have H3 := Lib.hid (H2.out.below hb); have I3 := Lib.hid (I2.out.below hb); have S3 := Lib.hid (S2.out.below hb); have T3 := Lib.hid hs; have B3 := Lib.hid (B2.out.trans (hb.mono B2.out.size))
    clear hs hb
    go_wp2_with fail
    refine (P3.out _ _ _ I3.out).mono ?_; rintro e w4 ⟨a4, c4, rfl, hs, _, hb⟩
    have H4 := Lib.hid (H3.out.below hb); have I4 := Lib.hid (I3.out.below hb); have S4 := Lib.hid (S3.out.below hb); have T4 := Lib.hid (T3.out.below hb); have Q4 := Lib.hid hs; have B4 := Lib.hid (B3.out.trans (hb.mono B3.out.size))
    clear hs hb
    go_wp2_with fail
    refine (P4.out _ _ _ H4.out).mono ?_; rintro e w5 ⟨a5, c5, rfl, hs, _, hb⟩
    have H5 := Lib.hid (H4.out.below hb); have I5 := Lib.hid (I4.out.below hb); have S5 := Lib.hid (S4.out.below hb); have T5 := Lib.hid (T4.out.below hb); have Q5 := Lib.hid (Q4.out.below hb); have R5 := Lib.hid hs; have B5 := Lib.hid (B4.out.trans (hb.mono B4.out.size))
    clear hs hb
    have q1 := Q5.out.hle; have q2 := Q5.out.hmax; have r1 := R5.out.hle; have r2 := R5.out.hmax
    unfold maxLen at q2 r2
    go_wp2_with fail
    refine (same_yes S5.out T5.out).mono ?_; rintro e w6 ⟨rfl, hb⟩
    have H6 := Lib.hid (H5.out.below hb); have I6 := Lib.hid (I5.out.below hb); have Q6 := Lib.hid (Q5.out.below hb); have R6 := Lib.hid (R5.out.below hb); have B6 := Lib.hid (B5.out.trans (hb.mono B5.out.size))
    clear hb
    go_wp2_with fail
    refine (same_yes I6.out H6.out).mono ?_; rintro e w7 ⟨rfl, hb⟩
    have Q7 := Lib.hid (Q6.out.below hb); have R7 := Lib.hid (R6.out.below hb); have B7 := Lib.hid (B6.out.trans (hb.mono B6.out.size))
    clear hb
    go_wp2_with fail
    go_loopw [4, 14] (fun _ vi wr => SortsRel w7 ps.length vi wr) (fun _ vi _ => ps.length - (intOf vi).toNat)
    case atStart => exact ⟨0, Nat.zero_le _, rfl, Below.refl _ _⟩
    case round =>
      obtain ⟨i, hi, rfl, hbl⟩ := hrel
      have BL := Lib.hid hbl
      clear hbl
      by_cases hlt : i < ps.length
      · obtain ⟨b, off, rfl, _, _⟩ := Q7.out.at_ (by intro h; rw [h] at hlt; simp at hlt)
        obtain ⟨b', off', rfl, _, _⟩ := R7.out.at_ (by intro h; rw [h] at hlt; simp at hlt)
        have x1 := at1 (Q7.out.below BL.out) hlt
        have x2 := at1 (R7.out.below BL.out) hlt
        generalize ps.getD i 0 = x at *
        go_wp2_with fail
        go_quiet (fail)
        go_wp2_with fail
        go_roundw
        case rel => exact ⟨i + 1, by omega, by go_num, below_drewN BL.out _⟩
        case measure => simp [intOf]; omega
      · go_wp2_with fail
        refine (works_any _).mono ?_; rintro e w8 ⟨rfl, hb⟩
        have B8 := Lib.hid (B7.out.trans ((BL.out.trans (hb.mono BL.out.size)).mono B7.out.size)); clear hb
        go_wp2_with fail
        go_ret
        exact ⟨rfl, B8.out⟩
end
end Go.Proofs.Ytmholiddejgccaa

/- Merge of both with its errors; the walk of the law MsortMerges. -/
import Derived.Test.YtmholiddejgccaaR
namespace Go.Proofs.Ytmholiddejgccaa
open Go.ChangeShapes Go.WideShapes Go.ChangeAt Go.RowKit

section
variable {w : World} {aa ab : Option Addr} {la ca lb cb : Nat} {xs ys : List Rc}
theorem rmerge_bad {k : Int} (hk : kn k) (ha : IsSl 4 encR w aa la ca xs) (hb : IsSl 4 encR w ab lb cb ys) (hl : la + lb ≤ 65536) (sa : ((inv (ltK k) xs == 0) && (inv (ltK k) ys == 0)) = false) :
    Calls Try.prog 27 #[.slice aa la ca, .slice ab lb cb, .int .i64 k] w fun e w' => e = .returned (.tuple #[.slice none 0 0, .int .i64 8]) ∧ Below w.heap.size w w' := by
  have HC := Lib.hid (fun w => rcheck_ok hk (n := (la : Int) + (lb : Int)) (by omega) w)
  have OA := Lib.hid (rsorted_yes hk ha (by omega))
  have OB := Lib.hid (fun w' (hw : Below w.heap.size w w') => rsorted_yes hk (hb.below hw) (by omega))
  have hac := ha.hle; have ham := ha.hmax; have hbc := hb.hle; have hbm := hb.hmax
  unfold maxLen at ham hbm
  clear hk ha hb
  generalize (inv (ltK k) xs == 0) = s1 at *
  generalize (inv (ltK k) ys == 0) = s2 at *
  cases s1
  · clear sa
    go_enter Try.func27, Try.ntmps27
    go_wp2_with fail
    refine (HC.out _).mono ?_; rintro e w' ⟨rfl, rfl⟩
    go_wp2_with fail
    refine (OA.out).mono ?_; rintro e w1 ⟨rfl, hb⟩
    have B1 := Lib.hid hb; clear hb
    go_wp2_with fail
    refine (OB.out _ B1.out).mono ?_; rintro e w2 ⟨rfl, hb⟩
    have B2 := Lib.hid (B1.out.trans (hb.mono B1.out.size)); clear hb
    go_wp2_with fail
    go_ret2
    exact ⟨rfl, B2.out⟩
  · simp only [Bool.true_and] at sa
    subst sa
    go_enter Try.func27, Try.ntmps27
    go_wp2_with fail
    refine (HC.out _).mono ?_; rintro e w' ⟨rfl, rfl⟩
    go_wp2_with fail
    refine (OA.out).mono ?_; rintro e w1 ⟨rfl, hb⟩
    have B1 := Lib.hid hb; clear hb
    go_wp2_with fail
    refine (OB.out _ B1.out).mono ?_; rintro e w2 ⟨rfl, hb⟩
    have B2 := Lib.hid (B1.out.trans (hb.mono B1.out.size)); clear hb
    go_wp2_with fail
    go_ret2
    exact ⟨rfl, B2.out⟩
theorem rmerge_no {k : Int} (hk : ¬ (kn k ∧ (la : Int) + (lb : Int) ≤ 65536)) (h1 : la ≤ 4611686018427387903) (h2 : lb ≤ 4611686018427387903) :
    Calls Try.prog 27 #[.slice aa la ca, .slice ab lb cb, .int .i64 k] w fun e w' => e = .returned (.tuple #[.slice none 0 0, .int .i64 (errK k ((la : Int) + (lb : Int)))]) ∧ w = w' := by
  have HC := Lib.hid (fun w => rcheck_no hk w)
  have he := (errK_cases (k := k) (n := (la : Int) + (lb : Int))).resolve_left (fun h => hk ⟨h.1, h.2.1⟩)
  obtain ⟨_, e1, e2⟩ := he
  clear hk
  generalize errK k ((la : Int) + (lb : Int)) = er at *
  go_enter Try.func27, Try.ntmps27
  go_wp2_with fail
  refine (HC.out _).mono ?_; rintro e w' ⟨rfl, rfl⟩
  go_wp2_with fail
  go_ret2
  exact ⟨rfl, rfl⟩
/-! Both, with their errors. -/
def bothB (k : Int) (xs ys : List Rc) : Bool := (inv (ltK k) xs == 0) && (inv (ltK k) ys == 0)
def mrgE (k : Int) (xs ys : List Rc) : Int := if okB k (xs.length + ys.length) then (if bothB k xs ys then 0 else 8) else errK k ((xs.length : Int) + (ys.length : Int))
def mrgL (k : Int) (xs ys : List Rc) : List Rc := if okB k (xs.length + ys.length) && bothB k xs ys then arr (ltK k) (xs ++ ys) else []
theorem mrgL_len (k : Int) (xs ys : List Rc) : (mrgL k xs ys).length ≤ 65536 := by
  unfold mrgL
  split
  · rename_i h
    simp only [Bool.and_eq_true] at h
    have := okB_yes h.1
    have := (arr_perm (lt := ltK k) (xs ++ ys)).length_eq
    rw [List.length_append] at this
    omega
  · simp
theorem pmerge {k : Int} (ha : IsSl 4 encR w aa la ca xs) (hb : IsSl 4 encR w ab lb cb ys) (h1 : la ≤ 100000) (h2 : lb ≤ 100000)
    (ba : ∀ x, aa = some x → x.block < w.heap.size) (bb : ∀ x, ab = some x → x.block < w.heap.size) :
    Calls Try.prog 26 #[.slice aa la ca, .slice ab lb cb, .int .i64 k] w (SortPost 4 encR 24 (mrgE k xs ys) (mrgL k xs ys) w) := by
  have hac := ha.hle; have ham := ha.hmax; have hbc := hb.hle; have hbm := hb.hmax
  unfold maxLen at ham hbm
  have hal := ha.hlen; have hbl := hb.hlen
  cases ho : okB k (xs.length + ys.length)
  · have e : mrgL k xs ys = [] := by simp [mrgL, ho]
    have e2 : mrgE k xs ys = errK k ((la : Int) + (lb : Int)) := by simp [mrgE, ho, hal, hbl]
    rw [e, e2]
    exact (pmerge_no (fun hh => okB_no ho ⟨hh.1, by omega⟩) (by omega) (by omega)).mono fun _ _ ⟨he, hw⟩ => by subst hw; exact ⟨none, 0, he, IsSl.nil _, fun x hx => (by cases hx), Below.refl _ _⟩
  · have hk := okB_yes ho
    cases hs : bothB k xs ys
    · have e : mrgL k xs ys = [] := by simp [mrgL, ho, hs]
      have e2 : mrgE k xs ys = 8 := by simp [mrgE, ho, hs]
      rw [e, e2]
      exact (pmerge_bad hk.1 ha hb (by omega) hs).mono fun _ _ ⟨he, hw⟩ => ⟨none, 0, he, IsSl.nil _, fun x hx => (by cases hx), hw⟩
    · have hs2 := hs
      unfold bothB at hs2
      rw [Bool.and_eq_true] at hs2
      have e : mrgL k xs ys = mrg (ltK k) xs ys := by rw [mrg_arr (swoK k) (inv_srt hs2.1) (inv_srt hs2.2)]; simp [mrgL, ho, hs]
      have e2 : mrgE k xs ys = 0 := by simp [mrgE, ho, hs]
      rw [e, e2]
      exact (pmerge_ok hk.1 ha hb (by omega) hs2.1 hs2.2 ba bb).mono fun _ _ ⟨v, he, ho, hb⟩ => by subst he; exact SortPost.of encR_len ho hb
theorem rmerge {k : Int} (ha : IsSl 4 encR w aa la ca xs) (hb : IsSl 4 encR w ab lb cb ys) (h1 : la ≤ 100000) (h2 : lb ≤ 100000) :
    Calls Try.prog 27 #[.slice aa la ca, .slice ab lb cb, .int .i64 k] w (SortPost 4 encR 24 (mrgE k xs ys) (mrgL k xs ys) w) := by
  have hac := ha.hle; have ham := ha.hmax; have hbc := hb.hle; have hbm := hb.hmax
  unfold maxLen at ham hbm
  have hal := ha.hlen; have hbl := hb.hlen
  cases ho : okB k (xs.length + ys.length)
  · have e : mrgL k xs ys = [] := by simp [mrgL, ho]
    have e2 : mrgE k xs ys = errK k ((la : Int) + (lb : Int)) := by simp [mrgE, ho, hal, hbl]
    rw [e, e2]
    exact (rmerge_no (fun hh => okB_no ho ⟨hh.1, by omega⟩) (by omega) (by omega)).mono fun _ _ ⟨he, hw⟩ => by subst hw; exact ⟨none, 0, he, IsSl.nil _, fun x hx => (by cases hx), Below.refl _ _⟩
  · have hk := okB_yes ho
    cases hs : bothB k xs ys
    · have e : mrgL k xs ys = [] := by simp [mrgL, ho, hs]
      have e2 : mrgE k xs ys = 8 := by simp [mrgE, ho, hs]
      rw [e, e2]
      exact (rmerge_bad hk.1 ha hb (by omega) hs).mono fun _ _ ⟨he, hw⟩ => ⟨none, 0, he, IsSl.nil _, fun x hx => (by cases hx), hw⟩
    · have hs2 := hs
      unfold bothB at hs2
      rw [Bool.and_eq_true] at hs2
      have e : mrgL k xs ys = arr (ltK k) (xs ++ ys) := by simp [mrgL, ho, hs]
      have e2 : mrgE k xs ys = 0 := by simp [mrgE, ho, hs]
      rw [e, e2]
      exact (rmerge_ok hk.1 ha hb (by omega) hs2.1 hs2.2).mono fun _ _ ⟨v, he, ho, hb⟩ => by subst he; exact SortPost.of encR_len ho hb
end
end Go.Proofs.Ytmholiddejgccaa

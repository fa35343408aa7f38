/- ConfigClamps: the plain law, and step. -/
import Derived.Test.YtabihdhgonnihaaDoorO
namespace Go.Proofs.YtabihdhgonnihaaDoor
open Go.ChangeShapes Go.WideShapes Go.ChangeAt Go.RowKit
set_option linter.unusedVariables false
set_option linter.unusedSimpArgs false

def stepf (a b : Int) : Int := if a < b then a + 1 else if b < a then a - 1 else a
theorem wrong_iff (f : Cf) : wrong f < 0 ↔ (1 ≤ f.a ∧ f.a ≤ 9223372036854775807) ∧ (1 ≤ f.b ∧ f.b ≤ 16384) ∧ (2 ≤ f.c ∧ f.c ≤ 4096) ∧ (0 ≤ f.d ∧ f.d ≤ 16384) := by
  unfold wrong okf
  simp only [Cf.at, lo, hi]
  split
  · rename_i e; simp only [Bool.and_eq_false_iff, decide_eq_false_iff_not] at e; constructor <;> intro h <;> omega
  rename_i e0
  split
  · rename_i e; simp only [Bool.and_eq_false_iff, decide_eq_false_iff_not] at e; constructor <;> intro h <;> omega
  rename_i e1
  split
  · rename_i e; simp only [Bool.and_eq_false_iff, decide_eq_false_iff_not] at e; constructor <;> intro h <;> omega
  rename_i e2
  split
  · rename_i e; simp only [Bool.and_eq_false_iff, decide_eq_false_iff_not] at e; constructor <;> intro h <;> omega
  rename_i e3
  simp only [Bool.and_eq_false_iff, decide_eq_false_iff_not] at e0 e1 e2 e3
  constructor <;> intro h <;> omega
theorem chk_iff (f : Cf) : chk f = 0 ↔ wrong f < 0 := by
  unfold chk
  split <;> simp_all
theorem clamp_in (f : Cf) : (1 ≤ (clamp f).a ∧ (clamp f).a ≤ 9223372036854775807) ∧ (1 ≤ (clamp f).b ∧ (clamp f).b ≤ 16384) ∧ (2 ≤ (clamp f).c ∧ (clamp f).c ≤ 4096) ∧ (0 ≤ (clamp f).d ∧ (clamp f).d ≤ 16384) := by
  unfold clamp clampf
  simp only [Cf.at, lo, hi]
  refine ⟨⟨?_, ?_⟩, ⟨?_, ?_⟩, ⟨?_, ?_⟩, ⟨?_, ?_⟩⟩ <;> omega
theorem chk_clamp (f : Cf) : chk (clamp f) = 0 := by rw [chk_iff, wrong_iff]; exact clamp_in f
theorem clamp_ok (f : Cf) : (clamp f).ok := by
  have h := clamp_in f
  constructor <;> omega
theorem clamp_id {f : Cf} (h : wrong f < 0) : clamp f = f := by
  rw [wrong_iff] at h
  obtain ⟨a, b, c, d⟩ := f
  simp only at h
  unfold clamp clampf
  simp only [Cf.at, lo, hi]
  have e1 : min (max a 1) 9223372036854775807 = a := by omega
  have e2 : min (max b 1) 16384 = b := by omega
  have e3 : min (max c 2) 4096 = c := by omega
  have e4 : min (max d 0) 16384 = d := by omega
  rw [e1, e2, e3, e4]
theorem clamp_clamp (f : Cf) : clamp (clamp f) = clamp f := clamp_id ((chk_iff _).1 (chk_clamp f))
theorem chk_same (f : Cf) : chk f = 0 ↔ f = clamp f := by
  rw [chk_iff]
  exact ⟨fun h => (clamp_id h).symm, fun h => (chk_iff f).1 (by rw [h]; exact chk_clamp f)⟩
/-- The clamped configuration with one field of the original. -/
theorem chk_one (f : Cf) {i : Nat} (hi : i < 4) : chk ((clamp f).put i (f.at i)) = 0 ↔ (clamp f).put i (f.at i) = clamp f := by
  rw [chk_iff, wrong_iff]
  have h := clamp_in f
  have h4 : i = 0 ∨ i = 1 ∨ i = 2 ∨ i = 3 := by omega
  have ea : (clamp f).a = min (max f.a 1) 9223372036854775807 := rfl
  have eb : (clamp f).b = min (max f.b 1) 16384 := rfl
  have ec : (clamp f).c = min (max f.c 2) 4096 := rfl
  have ed : (clamp f).d = min (max f.d 0) 16384 := rfl
  generalize clamp f = g at *
  obtain ⟨ga, gb, gc, gd⟩ := g
  simp only at h ea eb ec ed
  rcases h4 with rfl | rfl | rfl | rfl <;> simp only [Cf.put, Cf.at, Cf.mk.injEq, and_true, true_and] <;> omega
theorem chk_near (f : Cf) {i : Nat} (hi : i < 4) : chk ((clamp f).put i (stepf ((clamp f).at i) (f.at i))) = 0 ↔ (clamp f).put i (stepf ((clamp f).at i) (f.at i)) = clamp f := by
  rw [chk_iff, wrong_iff]
  have h := clamp_in f
  have h4 : i = 0 ∨ i = 1 ∨ i = 2 ∨ i = 3 := by omega
  have ea : (clamp f).a = min (max f.a 1) 9223372036854775807 := rfl
  have eb : (clamp f).b = min (max f.b 1) 16384 := rfl
  have ec : (clamp f).c = min (max f.c 2) 4096 := rfl
  have ed : (clamp f).d = min (max f.d 0) 16384 := rfl
  generalize clamp f = g at *
  obtain ⟨ga, gb, gc, gd⟩ := g
  simp only at h ea eb ec ed
  unfold stepf
  rcases h4 with rfl | rfl | rfl | rfl <;> simp only [Cf.put, Cf.at, Cf.mk.injEq, and_true, true_and] <;> omega
theorem field_one (f : Cf) {i : Nat} (hi : i < 4) (hne : (clamp f).put i (f.at i) ≠ clamp f) : field ((clamp f).put i (f.at i)) = nm i := by
  have h := clamp_in f
  have h4 : i = 0 ∨ i = 1 ∨ i = 2 ∨ i = 3 := by omega
  have hw : wrong ((clamp f).put i (f.at i)) = i := by
    have hc : ¬ chk ((clamp f).put i (f.at i)) = 0 := fun h => hne ((chk_one f hi).1 h)
    rw [chk_iff, wrong_iff] at hc
    refine wrong_at hi ?_ ?_
    · intro j hj
      unfold okf
      simp only [Bool.and_eq_true, decide_eq_true_eq]
      generalize clamp f = g at *
      have h5 : j = 0 ∨ j = 1 ∨ j = 2 := by omega
      rcases h4 with rfl | rfl | rfl | rfl <;> rcases h5 with rfl | rfl | rfl <;> first | (exfalso; omega) | (simp only [Cf.put, Cf.at, lo, Go.Proofs.YtabihdhgonnihaaDoor.hi]; omega)
    · unfold okf
      generalize clamp f = g at *
      rcases h4 with rfl | rfl | rfl | rfl <;> simp only [Cf.put, Cf.at, lo, Go.Proofs.YtabihdhgonnihaaDoor.hi, Bool.and_eq_false_iff, decide_eq_false_iff_not] at hc ⊢ <;> omega
  unfold field
  rw [hw, if_neg (by omega)]
  simp
theorem put_ok' {f : Cf} (h : f.ok) (i : Nat) {x : Int} (h0 : -9223372036854775808 ≤ x) (h1 : x ≤ 9223372036854775807) : (f.put i x).ok := by
  obtain ⟨h1, h2, h3, h4, h5, h6, h7, h8⟩ := h
  unfold Cf.put
  split <;> constructor <;> simp only <;> omega
theorem stepf_in {a b : Int} (ha : -9223372036854775808 ≤ a) (ha1 : a ≤ 9223372036854775807) (hb : -9223372036854775808 ≤ b) (hb1 : b ≤ 9223372036854775807) : -9223372036854775808 ≤ stepf a b ∧ stepf a b ≤ 9223372036854775807 := by
  unfold stepf
  split <;> (try split) <;> omega
theorem pstep {a b : Int} (ha : -9223372036854775808 ≤ a) (ha1 : a ≤ 9223372036854775807) (hb : -9223372036854775808 ≤ b) (hb1 : b ≤ 9223372036854775807) (w : World) : Calls Tryd.prog 28 #[.int .i64 a, .int .i64 b] w fun e w' => e = .returned (.int .i64 (stepf a b)) ∧ w' = w := by
  unfold stepf
  by_cases h1 : a < b
  · rw [if_pos h1]
    have e1 : decide (a < b) = true := by simpa using h1
    go_enter Tryd.func28, Tryd.ntmps28
    go_wp2_with fail
    go_ret
    exact ⟨rfl, rfl⟩
  · rw [if_neg h1]
    have e1 : decide (a < b) = false := by simpa using h1
    by_cases h2 : b < a
    · rw [if_pos h2]
      have e2 : decide (b < a) = true := by simpa using h2
      go_enter Tryd.func28, Tryd.ntmps28
      go_wp2_with fail
      go_ret
      exact ⟨rfl, rfl⟩
    · rw [if_neg h2]
      have e2 : decide (b < a) = false := by simpa using h2
      go_enter Tryd.func28, Tryd.ntmps28
      go_wp2_with fail
      go_ret
      exact ⟨rfl, rfl⟩
end Go.Proofs.YtabihdhgonnihaaDoor

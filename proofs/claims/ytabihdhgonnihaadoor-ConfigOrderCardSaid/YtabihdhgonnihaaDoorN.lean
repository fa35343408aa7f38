/- Check, Field and Clamp of the program. -/
import Derived.Test.YtabihdhgonnihaaDoorM
namespace Go.Proofs.YtabihdhgonnihaaDoor
open Go.ChangeShapes Go.WideShapes Go.ChangeAt Go.RowKit
set_option linter.unusedVariables false
set_option linter.unusedSimpArgs false

theorem wrong_range (f : Cf) : wrong f = -1 ∨ wrong f = 0 ∨ wrong f = 1 ∨ wrong f = 2 ∨ wrong f = 3 := by
  unfold wrong
  split
  · simp
  split
  · simp
  split
  · simp
  split <;> simp
theorem new25 (w : World) (f : Cf) : Below w.heap.size w (w.alloc (.cells #[.int .i64 f.a, .int .i64 f.b, .int .i64 f.c, .int .i64 f.d] 25)) := Below.alloc (Below.refl _ _) (Nat.le_refl _) _
set_option maxRecDepth 100000 in
set_option maxHeartbeats 4000000 in
theorem pcheck {w : World} (h : Env w) (f : Cf) (hf : f.ok) : Calls Tryd.prog 27 #[.agg #[.int .i64 f.a, .int .i64 f.b, .int .i64 f.c, .int .i64 f.d]] w fun e w' => e = .returned (.int .i64 (chk f)) ∧ Below w.heap.size w w' := by
  have N := Lib.hid (new25 w f)
  have P1 := Lib.hid (psplit f.a f.b f.c f.d (w.alloc (.cells #[.int .i64 f.a, .int .i64 f.b, .int .i64 f.c, .int .i64 f.d] 25)))
  have P2 := Lib.hid (fun w' (hb : Below w.heap.size w w') => pwrong (h.below hb) f hf)
  unfold chk
  clear h hf
  by_cases hk : wrong f < 0
  · rw [if_pos hk]
    have e1 : decide (0 ≤ wrong f) = false := by simp; omega
    generalize wrong f = k at *
    clear hk
    go_enter Tryd.func27, Tryd.ntmps27
    go_wp2_with fail
    refine (P1.out).mono ?_; rintro e w1 ⟨rfl, hb1⟩
    have B1 := Lib.hid (N.out.trans (hb1.mono N.out.size))
    have P3 := Lib.hid (P2.out w1 B1.out)
    clear hb1 P1 P2
    go_wp2_with fail
    refine (P3.out).mono ?_; rintro e w2 ⟨rfl, hb2⟩
    have B2 := Lib.hid (B1.out.trans (hb2.mono B1.out.size))
    clear hb2
    go_wp2_with fail
    go_ret
    exact ⟨rfl, B2.out⟩
  · rw [if_neg hk]
    have e1 : decide (0 ≤ wrong f) = true := by simp; omega
    generalize wrong f = k at *
    clear hk
    go_enter Tryd.func27, Tryd.ntmps27
    go_wp2_with fail
    refine (P1.out).mono ?_; rintro e w1 ⟨rfl, hb1⟩
    have B1 := Lib.hid (N.out.trans (hb1.mono N.out.size))
    have P3 := Lib.hid (P2.out w1 B1.out)
    clear hb1 P1 P2
    go_wp2_with fail
    refine (P3.out).mono ?_; rintro e w2 ⟨rfl, hb2⟩
    have B2 := Lib.hid (B1.out.trans (hb2.mono B1.out.size))
    clear hb2
    go_wp2_with fail
    go_ret
    exact ⟨rfl, B2.out⟩
set_option maxRecDepth 100000 in
set_option maxHeartbeats 4000000 in
theorem pfield {w : World} (h : Env w) (f : Cf) (hf : f.ok) : Calls Tryd.prog 29 #[.agg #[.int .i64 f.a, .int .i64 f.b, .int .i64 f.c, .int .i64 f.d]] w fun e w' => e = .returned (.string ⟨(field f).toArray⟩) ∧ Below w.heap.size w w' := by
  have N := Lib.hid (new25 w f)
  have P1 := Lib.hid (psplit f.a f.b f.c f.d (w.alloc (.cells #[.int .i64 f.a, .int .i64 f.b, .int .i64 f.c, .int .i64 f.d] 25)))
  have P2 := Lib.hid (fun w' (hb : Below w.heap.size w w') => pwrong (h.below hb) f hf)
  have EC := Lib.hid (fun w' (hb : Below w.heap.size w w') => (h.below hb).cells)
  unfold field
  clear h hf
  have hr := wrong_range f
  generalize wrong f = k at *
  rcases hr with rfl | rfl | rfl | rfl | rfl
  all_goals
    go_enter Tryd.func29, Tryd.ntmps29
    go_wp2_with fail
    refine (P1.out).mono ?_; rintro e w1 ⟨rfl, hb1⟩
    have B1 := Lib.hid (N.out.trans (hb1.mono N.out.size))
    have P3 := Lib.hid (P2.out w1 B1.out)
    clear hb1 P1 P2
    go_wp2_with fail
    refine (P3.out).mono ?_; rintro e w2 ⟨rfl, hb2⟩
    have B2 := Lib.hid (B1.out.trans (hb2.mono B1.out.size))
    obtain ⟨c0, c1, c2, c3, c4, c5, c6, c7, c8, c9, c10, c11, c12⟩ := EC.out w2 B2.out
    clear hb2
    go_wp2_with fail
    go_ret
    exact ⟨rfl, B2.out⟩
end Go.Proofs.YtabihdhgonnihaaDoor

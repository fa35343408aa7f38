/- The walks of the laws ClockNil, ClockKnown. -/
import Derived.Test.YtbmlkanonmooeaaB
namespace Go.Proofs.Ytbmlkanonmooeaa
open Go.ChangeShapes Go.WideShapes Go.ChangeAt Go.RowKit

/-- A clock that is not valid: nil, or one of the window 0. -/
def Inv (w : World) (p : Option Addr) : Prop := p = none ∨ ∃ b, p = some ⟨b, 0, none⟩ ∧ w.cell? ⟨b, 0, none⟩ = some (.int .i64 0)
theorem valid_no (p : Option Addr) (w : World) (h : Inv w p) : Calls Try.prog 27 #[.pointer p] w fun e w' => e = .returned (.bool false) ∧ w = w' := by
  rcases h with rfl | ⟨b, rfl, hc⟩
  · go_enter Try.func27, Try.ntmps27
    go_wp2
    go_ret
    exact ⟨rfl, rfl⟩
  · go_enter Try.func27, Try.ntmps27
    go_wp2
    go_ret
    exact ⟨rfl, rfl⟩
theorem now_no (p : Option Addr) (w : World) (h : Inv w p) : Calls Try.prog 16 #[.pointer p] w fun e w' => e = .returned (.int .i64 0) ∧ w = w' := by
  go_enter Try.func16, Try.ntmps16
  go_wp2_with (go_at_call 27; refine (valid_no _ _ h).mono ?_; rintro e w' ⟨rfl, rfl⟩)
  go_ret
  exact ⟨rfl, rfl⟩
theorem window_no (p : Option Addr) (w : World) (h : Inv w p) : Calls Try.prog 20 #[.pointer p] w fun e w' => e = .returned (.int .i64 0) ∧ w = w' := by
  go_enter Try.func20, Try.ntmps20
  go_wp2_with (go_at_call 27; refine (valid_no _ _ h).mono ?_; rintro e w' ⟨rfl, rfl⟩)
  go_ret
  exact ⟨rfl, rfl⟩
theorem expiry_no (p : Option Addr) (t : Int) (w : World) (h : Inv w p) : Calls Try.prog 14 #[.pointer p, .int .i64 t] w fun e w' => e = .returned (.tuple #[.int .i64 0, .int .i64 1]) ∧ w = w' := by
  go_enter Try.func14, Try.ntmps14
  go_wp2_with (go_at_call 27; refine (valid_no _ _ h).mono ?_; rintro e w' ⟨rfl, rfl⟩)
  go_ret2
  exact ⟨rfl, rfl⟩
theorem check_no (p : Option Addr) (t : Int) (w : World) (h : Inv w p) : Calls Try.prog 21 #[.pointer p, .int .i64 t] w fun e w' => e = .returned (.int .i64 1) ∧ w = w' := by
  go_enter Try.func21, Try.ntmps21
  go_wp2_with (go_at_call 27; refine (valid_no _ _ h).mono ?_; rintro e w' ⟨rfl, rfl⟩)
  go_ret
  exact ⟨rfl, rfl⟩
theorem advance_no (p : Option Addr) (t : Int) (w : World) (h : Inv w p) : Calls Try.prog 13 #[.pointer p, .int .i64 t] w fun e w' => e = .returned (.int .i64 1) ∧ w = w' := by
  go_enter Try.func13, Try.ntmps13
  go_wp2_with (go_at_call 21; refine (check_no _ _ _ h).mono ?_; rintro e w' ⟨rfl, rfl⟩)
  go_ret
  exact ⟨rfl, rfl⟩
theorem live_no (p : Option Addr) (t : Int) (w : World) (h : Inv w p) : Calls Try.prog 15 #[.pointer p, .int .i64 t] w fun e w' => e = .returned (.bool false) ∧ w = w' := by
  go_enter Try.func15, Try.ntmps15
  go_wp2_with (go_at_call 27; refine (valid_no _ _ h).mono ?_; rintro e w' ⟨rfl, rfl⟩)
  go_ret
  exact ⟨rfl, rfl⟩
theorem copy_no (p : Option Addr) (w : World) (h : Inv w p) : Calls Try.prog 24 #[.pointer p] w fun e w' => e = .returned (.pointer none) ∧ w = w' := by
  go_enter Try.func24, Try.ntmps24
  go_wp2_with (go_at_call 27; refine (valid_no _ _ h).mono ?_; rintro e w' ⟨rfl, rfl⟩)
  go_ret
  exact ⟨rfl, rfl⟩

theorem nil_walk (t : Int) (w : World) : Calls Try.prog 9 #[.int .i64 t] w fun e w' => e = .returned (.bool true) ∧ Below w.heap.size w w' := by
  go_enter Try.func9, Try.ntmps9
  go_wp2_with fail
  have HI : Hid (Inv ((w.alloc (.cells #[.int .i64 0, .int .i64 0] 50)).alloc (.cells #[.pointer none, .pointer (some ⟨w.heap.size, 0, none⟩)] 22)) (some ⟨w.heap.size, 0, none⟩)) := Or.inr ⟨_, rfl, by simp⟩
  have HB := Lib.hid (Below.alloc (Below.alloc (Below.refl w.heap.size w) (Nat.le_refl _) (.cells #[.int .i64 0, .int .i64 0] 50)) (by simp) (.cells #[.pointer none, .pointer (some ⟨w.heap.size, 0, none⟩)] 22))
  refine wp_loop_rounds 3 ?_
  rw [rounds_succ]
  go_wp2_with (first | (go_at_call 14; refine (expiry_no _ t _ (by first | exact Or.inl rfl | exact HI.out)).mono ?_; rintro e w1 ⟨rfl, rfl⟩) | (go_at_call 21; refine (check_no _ t _ (by first | exact Or.inl rfl | exact HI.out)).mono ?_; rintro e w1 ⟨rfl, rfl⟩) | (go_at_call 13; refine (advance_no _ t _ (by first | exact Or.inl rfl | exact HI.out)).mono ?_; rintro e w1 ⟨rfl, rfl⟩) | (go_at_call 16; refine (now_no _ _ (by first | exact Or.inl rfl | exact HI.out)).mono ?_; rintro e w1 ⟨rfl, rfl⟩) | (go_at_call 20; refine (window_no _ _ (by first | exact Or.inl rfl | exact HI.out)).mono ?_; rintro e w1 ⟨rfl, rfl⟩) | (go_at_call 15; refine (live_no _ t _ (by first | exact Or.inl rfl | exact HI.out)).mono ?_; rintro e w1 ⟨rfl, rfl⟩) | (go_at_call 24; refine (copy_no _ _ (by first | exact Or.inl rfl | exact HI.out)).mono ?_; rintro e w1 ⟨rfl, rfl⟩))
  rw [rounds_succ]
  go_wp2_with (first | (go_at_call 14; refine (expiry_no _ t _ (by first | exact Or.inl rfl | exact HI.out)).mono ?_; rintro e w1 ⟨rfl, rfl⟩) | (go_at_call 21; refine (check_no _ t _ (by first | exact Or.inl rfl | exact HI.out)).mono ?_; rintro e w1 ⟨rfl, rfl⟩) | (go_at_call 13; refine (advance_no _ t _ (by first | exact Or.inl rfl | exact HI.out)).mono ?_; rintro e w1 ⟨rfl, rfl⟩) | (go_at_call 16; refine (now_no _ _ (by first | exact Or.inl rfl | exact HI.out)).mono ?_; rintro e w1 ⟨rfl, rfl⟩) | (go_at_call 20; refine (window_no _ _ (by first | exact Or.inl rfl | exact HI.out)).mono ?_; rintro e w1 ⟨rfl, rfl⟩) | (go_at_call 15; refine (live_no _ t _ (by first | exact Or.inl rfl | exact HI.out)).mono ?_; rintro e w1 ⟨rfl, rfl⟩) | (go_at_call 24; refine (copy_no _ _ (by first | exact Or.inl rfl | exact HI.out)).mono ?_; rintro e w1 ⟨rfl, rfl⟩))
  rw [rounds_succ]
  go_wp2_with (go_at_call 17; refine (works_any _).mono ?_; rintro e w3 ⟨rfl, b3⟩)
  go_ret
  exact ⟨rfl, HB.out.trans (Below.mono ‹_› HB.out.size)⟩
theorem nil_law (t : Int) (w : World) (_h : (Lit.int .i64 t).wf = true) : Calls Try.prog 9 #[.int .i64 t] w fun e w' => e = .returned (.bool true) ∧ Below w.heap.size w w' := nil_walk t w
end Go.Proofs.Ytbmlkanonmooeaa

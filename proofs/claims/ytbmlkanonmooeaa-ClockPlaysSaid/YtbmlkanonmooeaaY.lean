/- The walks of the laws ClockNews, ClockPlays. -/
import Derived.Test.YtbmlkanonmooeaaX
import Derived.Test.YtbmlkanonmooeaaD
import Derived.Test.YtbmlkanonmooeaaC
namespace Go.Proofs.Ytbmlkanonmooeaa
open Go.ChangeShapes Go.WideShapes Go.ChangeAt Go.RowKit

theorem rnew_yes (s : Int) (w : World) (h : 1 ≤ s) :
    Calls Try.prog 18 #[.int .i64 s] w fun e w' => e = .returned (.tuple #[.pointer (some ⟨w.heap.size, 0, none⟩), .int .i64 0]) ∧ w' = w.alloc (rclk s 0) := by
  go_enter Try.func18, Try.ntmps18
  go_wp2
  go_ret2
  exact ⟨rfl, rfl⟩
theorem rnew_no (s : Int) (w : World) (h : ¬ 1 ≤ s) :
    Calls Try.prog 18 #[.int .i64 s] w fun e w' => e = .returned (.tuple #[.pointer none, .int .i64 2]) ∧ w = w' := by
  go_enter Try.func18, Try.ntmps18
  go_wp2
  go_ret2
  exact ⟨rfl, rfl⟩
theorem rcopy_any (b : Nat) (s n : Int) (w : World) (hb : w.heap[b]? = some (rclk s n)) :
    Calls Try.prog 25 #[.pointer (some ⟨b, 0, none⟩)] w fun e w' => e = .returned (.pointer (some ⟨w.heap.size, 0, none⟩)) ∧ w' = (w.alloc (rclk s n)).drew := by
  have h0 := rclk0 hb; have h1 := rclk1 hb; have h2 := rclk2 hb
  have hne := World.new_ne w ⟨b, 1, none⟩ h1
  clear hb
  go_enter Try.func25, Try.ntmps25
  go_wp2_with (go_at_call 32; refine (rvalid_yes _ _ h0).mono ?_; rintro e w' ⟨rfl, rfl⟩)
  go_region_held3 (fun w' => w'.cell? ⟨b, 1, none⟩ = some (.int .i64 s) ∧ w'.cell? ⟨b, 2, none⟩ = some (.int .i64 n)) (go_keep) (fail)
  go_wp2
  go_ret
  exact ⟨rfl, rfl⟩

theorem rvalid_no (w : World) : Calls Try.prog 32 #[.pointer none] w fun e w' => e = .returned (.bool false) ∧ w = w' := by
  go_enter Try.func32, Try.ntmps32
  go_wp2
  go_ret
  exact ⟨rfl, rfl⟩
theorem rnow_no (w : World) : Calls Try.prog 26 #[.pointer none] w fun e w' => e = .returned (.int .i64 0) ∧ w = w' := by
  go_enter Try.func26, Try.ntmps26
  go_wp2_with (go_at_call 32; refine (rvalid_no _).mono ?_; rintro e w' ⟨rfl, rfl⟩)
  go_ret
  exact ⟨rfl, rfl⟩
theorem rwindow_no (w : World) : Calls Try.prog 30 #[.pointer none] w fun e w' => e = .returned (.int .i64 0) ∧ w = w' := by
  go_enter Try.func30, Try.ntmps30
  go_wp2_with (go_at_call 32; refine (rvalid_no _).mono ?_; rintro e w' ⟨rfl, rfl⟩)
  go_ret
  exact ⟨rfl, rfl⟩
theorem rexpiry_no (t : Int) (w : World) : Calls Try.prog 29 #[.pointer none, .int .i64 t] w fun e w' => e = .returned (.tuple #[.int .i64 0, .int .i64 1]) ∧ w = w' := by
  go_enter Try.func29, Try.ntmps29
  go_wp2_with (go_at_call 32; refine (rvalid_no _).mono ?_; rintro e w' ⟨rfl, rfl⟩)
  go_ret2
  exact ⟨rfl, rfl⟩
theorem rcheck_no (t : Int) (w : World) : Calls Try.prog 23 #[.pointer none, .int .i64 t] w fun e w' => e = .returned (.int .i64 1) ∧ w = w' := by
  go_enter Try.func23, Try.ntmps23
  go_wp2_with (go_at_call 32; refine (rvalid_no _).mono ?_; rintro e w' ⟨rfl, rfl⟩)
  go_ret
  exact ⟨rfl, rfl⟩
theorem radvance_no (t : Int) (w : World) : Calls Try.prog 22 #[.pointer none, .int .i64 t] w fun e w' => e = .returned (.int .i64 1) ∧ w = w' := by
  go_enter Try.func22, Try.ntmps22
  go_wp2_with (go_at_call 23; refine (rcheck_no _ _).mono ?_; rintro e w' ⟨rfl, rfl⟩)
  go_ret
  exact ⟨rfl, rfl⟩
theorem rlive_no (t : Int) (w : World) : Calls Try.prog 31 #[.pointer none, .int .i64 t] w fun e w' => e = .returned (.bool false) ∧ w = w' := by
  go_enter Try.func31, Try.ntmps31
  go_wp2_with (go_at_call 32; refine (rvalid_no _).mono ?_; rintro e w' ⟨rfl, rfl⟩)
  go_ret
  exact ⟨rfl, rfl⟩
theorem rcopy_no (w : World) : Calls Try.prog 25 #[.pointer none] w fun e w' => e = .returned (.pointer none) ∧ w = w' := by
  go_enter Try.func25, Try.ntmps25
  go_wp2_with (go_at_call 32; refine (rvalid_no _).mono ?_; rintro e w' ⟨rfl, rfl⟩)
  go_ret
  exact ⟨rfl, rfl⟩

/-- The two clocks, in one state. -/
structure Two (w : World) (b r : Nat) (s n : Int) : Prop where
  c : w.heap[b]? = some (clk s n)
  d : w.heap[r]? = some (rclk s n)
  pos : 1 ≤ s
  fs : fits s
  fn : fits n
  fns : fits (n + s)
theorem Two.later {w w' : World} {b r : Nat} {s n : Int} (h : Two w b r s n) (hb : Below w.heap.size w w') : Two w' b r s n :=
  ⟨(hb.block _ (lt_of_block h.c)).trans h.c, (hb.block _ (lt_of_block h.d)).trans h.d, h.pos, h.fs, h.fn, h.fns⟩

set_option maxHeartbeats 1000000 in
theorem agree_yes (b r : Nat) (s n t : Int) (w : World) (h : Two w b r s n) (ht : fits t) :
    Calls Try.prog 19 #[.pointer (some ⟨b, 0, none⟩), .pointer (some ⟨r, 0, none⟩), .int .i64 t] w fun e w' => e = .returned (.bool true) ∧ Below w.heap.size w w' := by
  have H := Lib.hid h; have HT := Lib.hid ht; clear h ht
  go_enter Try.func19, Try.ntmps19
  go_wp2_with fail
  refine (expiry_any _ s n t _ H.out.c H.out.pos H.out.fs HT.out).mono ?_; rintro e w1 ⟨rfl, rfl⟩
  go_wp2_with fail
  refine (rexpiry_any _ s n t _ H.out.d H.out.fs HT.out).mono ?_; rintro e w1 ⟨rfl, hb1⟩
  have B1 := Lib.hid hb1; have H1 := Lib.hid (H.out.later hb1); clear hb1
  go_wp2_with fail
  refine (now_any _ s n _ H1.out.c H1.out.pos).mono ?_; rintro e w2 ⟨rfl, rfl⟩
  go_wp2_with fail
  refine (rnow_any _ s n _ H1.out.d).mono ?_; rintro e w2 ⟨rfl, rfl⟩
  go_wp2_with fail
  refine (window_any _ s n _ H1.out.c H1.out.pos).mono ?_; rintro e w2 ⟨rfl, rfl⟩
  go_wp2_with fail
  refine (rwindow_any _ s n _ H1.out.d).mono ?_; rintro e w2 ⟨rfl, rfl⟩
  go_wp2_with fail
  refine (live_any _ s n t _ H1.out.c H1.out.pos H1.out.fs HT.out).mono ?_; rintro e w2 ⟨rfl, rfl⟩
  go_wp2_with fail
  refine (rlive_any _ s n t _ H1.out.d H1.out.pos H1.out.fs HT.out H1.out.fn H1.out.fns).mono ?_; rintro e w2 ⟨rfl, hb2⟩
  have B2 := Lib.hid (B1.out.trans (hb2.mono B1.out.size)); have H2 := Lib.hid (H1.out.later hb2); clear hb2
  go_wp2_with fail
  refine (check_any _ s n t _ H2.out.c H2.out.pos H2.out.fs HT.out).mono ?_; rintro e w3 ⟨rfl, rfl⟩
  go_wp2_with fail
  refine (rcheck_any _ s n t _ H2.out.d H2.out.fs HT.out).mono ?_; rintro e w3 ⟨rfl, hb3⟩
  have B3 := Lib.hid (B2.out.trans (hb3.mono B2.out.size)); clear hb3
  go_wp2_with fail
  go_ret
  exact ⟨rfl, B3.out⟩
set_option maxHeartbeats 1000000 in
theorem agree_no (t : Int) (w : World) :
    Calls Try.prog 19 #[.pointer none, .pointer none, .int .i64 t] w fun e w' => e = .returned (.bool true) ∧ w = w' := by
  have HI : Hid (Inv w none) := Or.inl rfl
  go_enter Try.func19, Try.ntmps19
  go_wp2_with (first | (go_at_call 14; refine (expiry_no _ t _ HI.out).mono ?_; rintro e w1 ⟨rfl, rfl⟩) | (go_at_call 29; refine (rexpiry_no t _).mono ?_; rintro e w1 ⟨rfl, rfl⟩) | (go_at_call 16; refine (now_no _ _ HI.out).mono ?_; rintro e w1 ⟨rfl, rfl⟩) | (go_at_call 26; refine (rnow_no _).mono ?_; rintro e w1 ⟨rfl, rfl⟩) | (go_at_call 20; refine (window_no _ _ HI.out).mono ?_; rintro e w1 ⟨rfl, rfl⟩) | (go_at_call 30; refine (rwindow_no _).mono ?_; rintro e w1 ⟨rfl, rfl⟩) | (go_at_call 15; refine (live_no _ t _ HI.out).mono ?_; rintro e w1 ⟨rfl, rfl⟩) | (go_at_call 31; refine (rlive_no t _).mono ?_; rintro e w1 ⟨rfl, rfl⟩) | (go_at_call 21; refine (check_no _ t _ HI.out).mono ?_; rintro e w1 ⟨rfl, rfl⟩) | (go_at_call 23; refine (rcheck_no t _).mono ?_; rintro e w1 ⟨rfl, rfl⟩))
  go_ret
  exact ⟨rfl, rfl⟩

set_option maxHeartbeats 1000000 in
theorem news_law (s t : Int) (w : World) (h0 : (Lit.int .i64 s).wf = true) (h1 : (Lit.int .i64 t).wf = true) :
    Calls Try.prog 6 #[.int .i64 s, .int .i64 t] w fun e w' => e = .returned (.bool true) ∧ Below w.heap.size w w' := by
  have hs := fits_wf h0; have HT := Lib.hid (fits_wf h1); clear h0 h1
  by_cases hp : 1 ≤ s
  · have HS := Lib.hid hs
    go_enter Try.func6, Try.ntmps6
    go_wp2_with fail
    refine (new_yes s _ hp).mono ?_; rintro e w1 ⟨rfl, rfl⟩
    go_wp2_with fail
    refine (rnew_yes s _ hp).mono ?_; rintro e w1 ⟨rfl, rfl⟩
    have H : Hid (Two ((w.alloc (clk s 0)).alloc (rclk s 0)) w.heap.size (w.heap.size + 1) s 0) :=
      ⟨block_old (block_new _ _) _, by have := block_new (w.alloc (clk s 0)) (rclk s 0); rw [World.size_alloc] at this; exact this, hp, HS.out, by decide, by simpa using HS.out⟩
    have HB : Hid (Below w.heap.size w ((w.alloc (clk s 0)).alloc (rclk s 0))) := (Below.alloc (Below.refl _ _) (Nat.le_refl _) _).alloc (by simp) _
    go_wp2_with fail
    refine (agree_yes _ _ s 0 t _ H.out HT.out).mono ?_; rintro e w3 ⟨rfl, hb3⟩
    have B3 := Lib.hid (HB.out.trans (hb3.mono HB.out.size)); clear hb3
    go_wp2_with fail
    refine (works_any _).mono ?_; rintro e w4 ⟨rfl, hb4⟩
    have B4 := Lib.hid (B3.out.trans (hb4.mono B3.out.size)); clear hb4
    go_wp2_with fail
    go_ret
    exact ⟨rfl, B4.out⟩
  · go_enter Try.func6, Try.ntmps6
    go_wp2_with fail
    refine (new_no s _ (by omega)).mono ?_; rintro e w1 ⟨rfl, rfl⟩
    go_wp2_with fail
    refine (rnew_no s _ (by omega)).mono ?_; rintro e w1 ⟨rfl, rfl⟩
    go_wp2_with fail
    refine (agree_no t _).mono ?_; rintro e w1 ⟨rfl, rfl⟩
    go_wp2_with fail
    refine (works_any _).mono ?_; rintro e w4 ⟨rfl, hb4⟩
    have B4 := Lib.hid hb4; clear hb4
    go_wp2_with fail
    go_ret
    exact ⟨rfl, B4.out⟩
end Go.Proofs.Ytbmlkanonmooeaa

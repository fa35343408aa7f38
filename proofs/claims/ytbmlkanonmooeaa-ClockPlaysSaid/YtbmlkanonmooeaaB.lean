/- The walks of the laws ClockLives, ClockOrders. -/
import Derived.Test.YtbmlkanonmooeaaA
namespace Go.Proofs.Ytbmlkanonmooeaa
open Go.ChangeShapes Go.WideShapes Go.ChangeAt Go.RowKit

/-- The window that the laws take for any number. -/
def spn (n : Int) : Int := if n < 1 then (if -(n + 1) < 1 then 1 else -(n + 1)) else n
theorem spn_pos (n : Int) : 1 ≤ spn n := by unfold spn; split <;> (try split) <;> omega
theorem spn_fits (n : Int) (h : fits n) : fits (spn n) := by unfold fits at *; unfold spn; split <;> (try split) <;> omega
theorem spn1 {n : Int} (h : n < 1) (h2 : -(n + 1) < 1) : spn n = 1 := by simp [spn, h, h2]
theorem spn2 {n : Int} (h : n < 1) (h2 : ¬ -(n + 1) < 1) : spn n = -(n + 1) := by simp [spn, h, h2]
theorem spn3 {n : Int} (h : ¬ n < 1) : spn n = n := by simp [spn, h]

set_option maxHeartbeats 400000 in
theorem span_any (n : Int) (w : World) (hn : fits n) :
    Calls Try.prog 12 #[.int .i64 n] w fun e w' => e = .returned (.int .i64 (spn n)) ∧ w = w' := by
  obtain ⟨hn1, hn2⟩ := hn
  by_cases h : n < 1
  · by_cases h2 : -(n + 1) < 1
    · have H := Lib.hid (spn1 h h2)
      go_enter Try.func12, Try.ntmps12
      go_wp2
      all_goals go_ret
      all_goals exact ⟨by rw [H.out]; rfl, rfl⟩
    · have H := Lib.hid (spn2 h h2)
      go_enter Try.func12, Try.ntmps12
      go_wp2
      all_goals go_ret
      all_goals exact ⟨by rw [H.out]; rfl, rfl⟩
  · have H := Lib.hid (spn3 h)
    go_enter Try.func12, Try.ntmps12
    go_wp2
    all_goals go_ret
    exact ⟨by rw [H.out]; rfl, rfl⟩

theorem fits_wf {n : Int} (h : (Lit.int .i64 n).wf = true) : fits n := bounds_i64 h
theorem addE_01 (a b : Int) : addE a b = 0 ∨ addE a b = 7 := by unfold addE; split <;> simp
theorem adv_fits {s n t : Int} (hn : fits n) (ht : fits t) : fits (adv s n t) := by unfold adv; split <;> assumption

set_option maxHeartbeats 1000000 in
theorem lives_walk (n to t : Int) (w : World) (hn : fits n) (hto : fits to) (ht : fits t) :
    Calls Try.prog 3 #[.int .i64 n, .int .i64 to, .int .i64 t] w fun e w' => e = .returned (.bool true) ∧ Below w.heap.size w w' := by
  have hs1 := spn_pos n
  have hs2 := spn_fits n hn
  go_enter Try.func3, Try.ntmps3
  go_wp2_with fail
  refine (span_any n _ hn).mono ?_; rintro e w1 ⟨rfl, rfl⟩
  generalize spn n = s at *
  go_wp2_with fail
  refine (new_yes s _ hs1).mono ?_; rintro e w1 ⟨rfl, rfl⟩
  have b1 := Lib.hid (block_new w (clk s 0))
  go_wp2_with fail
  refine (advance_any _ s 0 to _ b1.out hs1 hs2 hto).mono ?_; rintro e w2 ⟨rfl, b2, t2⟩
  have T2 := Lib.hid t2
  have B2 := Lib.hid b2
  clear b2 t2
  generalize adv s 0 to = m at *
  have TT : Below w.heap.size w w2 := ((Touch.alloc (Touch.refl _ _) _).trans T2.out).below (Nat.le_refl _) (fun k hk => by omega)
  have fin : ∀ (w3 : World), Below w2.heap.size w2 w3 → Below w.heap.size w w3 := fun _ b3 => TT.trans (b3.mono TT.size)
  have Fin := Lib.hid fin
  clear TT fin
  by_cases h1 : t ≤ m
  · by_cases hf : fits (t + s)
    · have hE := addE_in hf
      have hV := addV_in hf
      by_cases h2 : m < t + s
      · have hL : lv s m t = true := by simp [lv, h1, hf, h2]
        go_wp2_with (first | (go_at_call 14; refine (expiry_any _ s m t _ B2.out hs1 hs2 ht).mono ?_; rintro e w1 ⟨rfl, rfl⟩) | (go_at_call 15; refine (live_any _ s m t _ B2.out hs1 hs2 ht).mono ?_; rintro e w1 ⟨rfl, rfl⟩) | (go_at_call 16; refine (now_any _ s m _ B2.out hs1).mono ?_; rintro e w1 ⟨rfl, rfl⟩) | (go_at_call 17; refine (works_any _).mono ?_; rintro e w3 ⟨rfl, b3⟩))
        go_ret
        exact ⟨rfl, Fin.out _ ‹_›⟩
      · have hL : lv s m t = false := by simp [lv, hf, h2]
        go_wp2_with (first | (go_at_call 14; refine (expiry_any _ s m t _ B2.out hs1 hs2 ht).mono ?_; rintro e w1 ⟨rfl, rfl⟩) | (go_at_call 15; refine (live_any _ s m t _ B2.out hs1 hs2 ht).mono ?_; rintro e w1 ⟨rfl, rfl⟩) | (go_at_call 16; refine (now_any _ s m _ B2.out hs1).mono ?_; rintro e w1 ⟨rfl, rfl⟩) | (go_at_call 17; refine (works_any _).mono ?_; rintro e w3 ⟨rfl, b3⟩))
        go_ret
        exact ⟨ret_bool (by simp; omega), Fin.out _ ‹_›⟩
    · have hE := addE_over hf
      have hV := addV_over hf
      have hL : lv s m t = false := by simp [lv, hf]
      go_wp2_with (first | (go_at_call 14; refine (expiry_any _ s m t _ B2.out hs1 hs2 ht).mono ?_; rintro e w1 ⟨rfl, rfl⟩) | (go_at_call 15; refine (live_any _ s m t _ B2.out hs1 hs2 ht).mono ?_; rintro e w1 ⟨rfl, rfl⟩) | (go_at_call 16; refine (now_any _ s m _ B2.out hs1).mono ?_; rintro e w1 ⟨rfl, rfl⟩) | (go_at_call 17; refine (works_any _).mono ?_; rintro e w3 ⟨rfl, b3⟩))
      go_ret
      exact ⟨rfl, Fin.out _ ‹_›⟩
  · have hL : lv s m t = false := by simp [lv, h1]
    by_cases hf : fits (t + s)
    · have hE := addE_in hf
      have hV := addV_in hf
      go_wp2_with (first | (go_at_call 14; refine (expiry_any _ s m t _ B2.out hs1 hs2 ht).mono ?_; rintro e w1 ⟨rfl, rfl⟩) | (go_at_call 15; refine (live_any _ s m t _ B2.out hs1 hs2 ht).mono ?_; rintro e w1 ⟨rfl, rfl⟩) | (go_at_call 16; refine (now_any _ s m _ B2.out hs1).mono ?_; rintro e w1 ⟨rfl, rfl⟩) | (go_at_call 17; refine (works_any _).mono ?_; rintro e w3 ⟨rfl, b3⟩))
      go_ret
      exact ⟨rfl, Fin.out _ ‹_›⟩
    · have hE := addE_over hf
      have hV := addV_over hf
      go_wp2_with (first | (go_at_call 14; refine (expiry_any _ s m t _ B2.out hs1 hs2 ht).mono ?_; rintro e w1 ⟨rfl, rfl⟩) | (go_at_call 15; refine (live_any _ s m t _ B2.out hs1 hs2 ht).mono ?_; rintro e w1 ⟨rfl, rfl⟩) | (go_at_call 16; refine (now_any _ s m _ B2.out hs1).mono ?_; rintro e w1 ⟨rfl, rfl⟩) | (go_at_call 17; refine (works_any _).mono ?_; rintro e w3 ⟨rfl, b3⟩))
      go_ret
      exact ⟨rfl, Fin.out _ ‹_›⟩

set_option maxHeartbeats 1000000 in
theorem orders_walk (n t u : Int) (w : World) (hn : fits n) (ht : fits t) (hu : fits u) :
    Calls Try.prog 5 #[.int .i64 n, .int .i64 t, .int .i64 u] w fun e w' => e = .returned (.bool true) ∧ Below w.heap.size w w' := by
  have hs1 := spn_pos n
  have hs2 := spn_fits n hn
  go_enter Try.func5, Try.ntmps5
  have key : ∀ t u : Int, t ≤ u → fits t → fits u → ¬ fits (t + spn n) → ¬ fits (u + spn n) := by
    intro t u h1 h2 h3 h4; unfold fits at *; omega
  have Key := Lib.hid key; clear key
  by_cases htu : u < t
  all_goals
    go_wp2_with fail
    refine (span_any n _ hn).mono ?_; rintro e w1 ⟨rfl, rfl⟩
    generalize spn n = s at *
    go_wp2_with fail
    refine (new_yes s _ hs1).mono ?_; rintro e w1 ⟨rfl, rfl⟩
    have b1 := Lib.hid (block_new w (clk s 0))
    have fin : ∀ w3, Below (w.alloc (clk s 0)).heap.size (w.alloc (clk s 0)) w3 → Below w.heap.size w w3 := fun _ b3 => (Below.alloc (Below.refl _ _) (Nat.le_refl _) _).trans (b3.mono (by simp))
    have Fin := Lib.hid fin; clear fin
  · have q1 : (u == t) = false := by simp; omega
    have q2 : (u + s == t + s) = false := by simp; omega
    by_cases hf : fits (u + s)
    · have hE := addE_in hf
      have hV := addV_in hf
      by_cases hg : fits (t + s)
      · have hE2 := addE_in hg
        have hV2 := addV_in hg
        go_wp2_with (first | (go_at_call 14; refine (expiry_any _ s 0 _ _ b1.out hs1 hs2 (by assumption)).mono ?_; rintro e w1 ⟨rfl, rfl⟩) | (go_at_call 17; refine (works_any _).mono ?_; rintro e w3 ⟨rfl, b3⟩))
        go_ret
        exact ⟨rfl, Fin.out _ ‹_›⟩
      · have hE2 := addE_over hg
        have hV2 := addV_over hg
        go_wp2_with (first | (go_at_call 14; refine (expiry_any _ s 0 _ _ b1.out hs1 hs2 (by assumption)).mono ?_; rintro e w1 ⟨rfl, rfl⟩) | (go_at_call 17; refine (works_any _).mono ?_; rintro e w3 ⟨rfl, b3⟩))
        go_ret
        exact ⟨rfl, Fin.out _ ‹_›⟩
    · have hg := Key.out u t (by omega) hu ht hf
      have hE := addE_over hf
      have hV := addV_over hf
      have hE2 := addE_over hg
      have hV2 := addV_over hg
      go_wp2_with (first | (go_at_call 14; refine (expiry_any _ s 0 _ _ b1.out hs1 hs2 (by assumption)).mono ?_; rintro e w1 ⟨rfl, rfl⟩) | (go_at_call 17; refine (works_any _).mono ?_; rintro e w3 ⟨rfl, b3⟩))
      go_ret
      exact ⟨rfl, Fin.out _ ‹_›⟩
  · by_cases hlt : t < u
    · have q1 : (t == u) = false := by simp; omega
      have q2 : (t + s == u + s) = false := by simp; omega
      by_cases hf : fits (t + s)
      · have hE := addE_in hf
        have hV := addV_in hf
        by_cases hg : fits (u + s)
        · have hE2 := addE_in hg
          have hV2 := addV_in hg
          go_wp2_with (first | (go_at_call 14; refine (expiry_any _ s 0 _ _ b1.out hs1 hs2 (by assumption)).mono ?_; rintro e w1 ⟨rfl, rfl⟩) | (go_at_call 17; refine (works_any _).mono ?_; rintro e w3 ⟨rfl, b3⟩))
          go_ret
          exact ⟨rfl, Fin.out _ ‹_›⟩
        · have hE2 := addE_over hg
          have hV2 := addV_over hg
          go_wp2_with (first | (go_at_call 14; refine (expiry_any _ s 0 _ _ b1.out hs1 hs2 (by assumption)).mono ?_; rintro e w1 ⟨rfl, rfl⟩) | (go_at_call 17; refine (works_any _).mono ?_; rintro e w3 ⟨rfl, b3⟩))
          go_ret
          exact ⟨rfl, Fin.out _ ‹_›⟩
      · have hg := Key.out t u (by omega) ht hu hf
        have hE := addE_over hf
        have hV := addV_over hf
        have hE2 := addE_over hg
        have hV2 := addV_over hg
        go_wp2_with (first | (go_at_call 14; refine (expiry_any _ s 0 _ _ b1.out hs1 hs2 (by assumption)).mono ?_; rintro e w1 ⟨rfl, rfl⟩) | (go_at_call 17; refine (works_any _).mono ?_; rintro e w3 ⟨rfl, b3⟩))
        go_ret
        exact ⟨rfl, Fin.out _ ‹_›⟩
    · obtain rfl : t = u := by omega
      clear hlt htu
      by_cases hf : fits (t + s)
      · have hE := addE_in hf
        have hV := addV_in hf
        go_wp2_with (first | (go_at_call 14; refine (expiry_any _ s 0 _ _ b1.out hs1 hs2 (by assumption)).mono ?_; rintro e w1 ⟨rfl, rfl⟩) | (go_at_call 17; refine (works_any _).mono ?_; rintro e w3 ⟨rfl, b3⟩))
        go_ret
        exact ⟨rfl, Fin.out _ ‹_›⟩
      · have hE := addE_over hf
        have hV := addV_over hf
        go_wp2_with (first | (go_at_call 14; refine (expiry_any _ s 0 _ _ b1.out hs1 hs2 (by assumption)).mono ?_; rintro e w1 ⟨rfl, rfl⟩) | (go_at_call 17; refine (works_any _).mono ?_; rintro e w3 ⟨rfl, b3⟩))
        go_ret
        exact ⟨rfl, Fin.out _ ‹_›⟩

theorem lives_law (n to t : Int) (w : World) (h0 : (Lit.int .i64 n).wf = true) (h1 : (Lit.int .i64 to).wf = true) (h2 : (Lit.int .i64 t).wf = true) :
    Calls Try.prog 3 #[.int .i64 n, .int .i64 to, .int .i64 t] w fun e w' => e = .returned (.bool true) ∧ Below w.heap.size w w' :=
  lives_walk n to t w (fits_wf h0) (fits_wf h1) (fits_wf h2)
theorem orders_law (n t u : Int) (w : World) (h0 : (Lit.int .i64 n).wf = true) (h1 : (Lit.int .i64 t).wf = true) (h2 : (Lit.int .i64 u).wf = true) :
    Calls Try.prog 5 #[.int .i64 n, .int .i64 t, .int .i64 u] w fun e w' => e = .returned (.bool true) ∧ Below w.heap.size w w' :=
  orders_walk n t u w (fits_wf h0) (fits_wf h1) (fits_wf h2)
end Go.Proofs.Ytbmlkanonmooeaa

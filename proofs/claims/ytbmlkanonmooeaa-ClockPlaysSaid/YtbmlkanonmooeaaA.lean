/- Contracts of the functions of packages checked and clock that the laws of layer 33 reach. -/
import Derived.Test.YtbmlkanonmooeaaProg
import Derived.Test.YtbmlkanonmooeaaK
namespace Go.Proofs.Ytbmlkanonmooeaa
open Go.ChangeShapes Go.WideShapes Go.ChangeAt Go.RowKit

/-- Does the number fit into 64 bits? -/
def fits (x : Int) : Prop := -9223372036854775808 ≤ x ∧ x ≤ 9223372036854775807
instance (x : Int) : Decidable (fits x) := by unfold fits; exact inferInstance
def addV (a b : Int) : Int := if fits (a + b) then a + b else 0
def addE (a b : Int) : Int := if fits (a + b) then 0 else 7

theorem add_over {a b : Int} (ha : fits a) (hb : fits b) (_h1 : a < 0 ↔ b < 0) (h2 : (!decide (wrap64 (a + b) < 0) == decide (b < 0)) = true) : ¬ fits (a + b) := by
  unfold fits wrap64 at *
  intro h
  by_cases h3 : b < 0
  · simp [h3] at h2; omega
  · simp [h3] at h2; omega
theorem add_in {a b : Int} (ha : fits a) (hb : fits b) (_h1 : a < 0 ↔ b < 0) (h2 : (!decide (wrap64 (a + b) < 0) == decide (b < 0)) = false) : fits (a + b) := by
  unfold fits wrap64 at *
  by_cases h3 : b < 0
  · simp [h3] at h2; omega
  · simp [h3] at h2; omega
theorem add_in2 {a b : Int} (ha : fits a) (hb : fits b) (h1 : ¬ (a < 0 ↔ b < 0)) : fits (a + b) := by
  unfold fits at *; omega
theorem addV_over {a b : Int} (h : ¬ fits (a + b)) : addV a b = 0 := by simp [addV, h]
theorem addE_over {a b : Int} (h : ¬ fits (a + b)) : addE a b = 7 := by simp [addE, h]
theorem addV_in {a b : Int} (h : fits (a + b)) : addV a b = a + b := by simp [addV, h]
theorem addE_in {a b : Int} (h : fits (a + b)) : addE a b = 0 := by simp [addE, h]
theorem wrap_fits {x : Int} (h : fits x) : wrap64 x = x := by unfold fits at h; unfold wrap64; omega

set_option maxHeartbeats 400000 in
theorem add_any (a b : Int) (w : World) (ha : fits a) (hb : fits b) :
    Calls Try.prog 34 #[.int .i64 a, .int .i64 b] w fun e w' => e = .returned (.tuple #[.int .i64 (addV a b), .int .i64 (addE a b)]) ∧ w = w' := by
  have Ha := ha; have Hb := hb
  obtain ⟨ha1, ha2⟩ := ha
  obtain ⟨hb1, hb2⟩ := hb
  go_enter Try.func34, Try.ntmps34
  go_wp2
  · have hf := add_over Ha Hb ‹_› ‹_›
    go_ret2
    exact ⟨by rw [addV_over hf, addE_over hf]; rfl, rfl⟩
  · have hf := add_in Ha Hb ‹_› ‹_›
    go_ret2
    exact ⟨by rw [addV_in hf, addE_in hf]; show _ = Ending.returned (.tuple #[.int .i64 (a + b), .int .i64 0]); simp [wrap_fits hf], rfl⟩
  · have hf := add_in2 Ha Hb ‹_›
    go_ret2
    exact ⟨by rw [addV_in hf, addE_in hf]; show _ = Ending.returned (.tuple #[.int .i64 (a + b), .int .i64 0]); simp [wrap_fits hf], rfl⟩

theorem after_any (s t : Int) (w : World) (hs : fits s) (ht : fits t) :
    Calls Try.prog 28 #[.int .i64 s, .int .i64 t] w fun e w' => e = .returned (.tuple #[.int .i64 (addV t s), .int .i64 (addE t s)]) ∧ w = w' := by
  go_enter Try.func28, Try.ntmps28
  go_wp2_with (go_at_call 34; refine (add_any _ _ _ ht hs).mono ?_; rintro e w' ⟨rfl, rfl⟩)
  go_ret2
  exact ⟨rfl, rfl⟩

/-- A clock of a window of length s at the time n. -/
abbrev clk (s n : Int) : Obj := .cells #[.int .i64 s, .int .i64 n] 50 (0, 0)
theorem clk0 {w : World} {b : Nat} {s n : Int} (h : w.heap[b]? = some (clk s n)) : w.cell? ⟨b, 0, none⟩ = some (.int .i64 s) := cell_of h 0
theorem clk1 {w : World} {b : Nat} {s n : Int} (h : w.heap[b]? = some (clk s n)) : w.cell? ⟨b, 1, none⟩ = some (.int .i64 n) := cell_of h 1

theorem valid_yes (b : Nat) (s : Int) (w : World) (hc : w.cell? ⟨b, 0, none⟩ = some (.int .i64 s)) (h : 1 ≤ s) :
    Calls Try.prog 27 #[.pointer (some ⟨b, 0, none⟩)] w fun e w' => e = .returned (.bool true) ∧ w = w' := by
  go_enter Try.func27, Try.ntmps27
  go_wp2
  go_ret
  exact ⟨rfl, rfl⟩

theorem now_any (b : Nat) (s n : Int) (w : World) (hb : w.heap[b]? = some (clk s n)) (h : 1 ≤ s) :
    Calls Try.prog 16 #[.pointer (some ⟨b, 0, none⟩)] w fun e w' => e = .returned (.int .i64 n) ∧ w = w' := by
  have hc := clk0 hb; have hn := clk1 hb; clear hb
  go_enter Try.func16, Try.ntmps16
  go_wp2_with (go_at_call 27; refine (valid_yes _ _ _ hc h).mono ?_; rintro e w' ⟨rfl, rfl⟩)
  go_ret
  exact ⟨rfl, rfl⟩
theorem window_any (b : Nat) (s n : Int) (w : World) (hb : w.heap[b]? = some (clk s n)) (h : 1 ≤ s) :
    Calls Try.prog 20 #[.pointer (some ⟨b, 0, none⟩)] w fun e w' => e = .returned (.int .i64 s) ∧ w = w' := by
  have hc := clk0 hb; clear hb
  go_enter Try.func20, Try.ntmps20
  go_wp2_with (go_at_call 27; refine (valid_yes _ _ _ hc h).mono ?_; rintro e w' ⟨rfl, rfl⟩)
  go_ret
  exact ⟨rfl, rfl⟩
theorem expiry_any (b : Nat) (s n t : Int) (w : World) (hb : w.heap[b]? = some (clk s n)) (h : 1 ≤ s) (hs : fits s) (ht : fits t) :
    Calls Try.prog 14 #[.pointer (some ⟨b, 0, none⟩), .int .i64 t] w fun e w' => e = .returned (.tuple #[.int .i64 (addV t s), .int .i64 (addE t s)]) ∧ w = w' := by
  have hc := clk0 hb; clear hb
  go_enter Try.func14, Try.ntmps14
  go_wp2_with (first | (go_at_call 27; refine (valid_yes _ _ _ hc h).mono ?_; rintro e w' ⟨rfl, rfl⟩) | (go_at_call 28; refine (after_any _ _ _ hs ht).mono ?_; rintro e w' ⟨rfl, rfl⟩))
  go_ret2
  exact ⟨rfl, rfl⟩

/-- What Check answers for a valid clock. -/
def chk (s n t : Int) : Int := if t < n then 10 else addE t s
theorem chk_lt {s n t : Int} (h : t < n) : chk s n t = 10 := by simp [chk, h]
theorem chk_ge {s n t : Int} (h : n ≤ t) : chk s n t = addE t s := by simp [chk, Int.not_lt.2 h]
theorem check_any (b : Nat) (s n t : Int) (w : World) (hb : w.heap[b]? = some (clk s n)) (h : 1 ≤ s) (hs : fits s) (ht : fits t) :
    Calls Try.prog 21 #[.pointer (some ⟨b, 0, none⟩), .int .i64 t] w fun e w' => e = .returned (.int .i64 (chk s n t)) ∧ w = w' := by
  have hc := clk0 hb; have hn := clk1 hb; clear hb
  go_enter Try.func21, Try.ntmps21
  go_wp2_with (first | (go_at_call 27; refine (valid_yes _ _ _ hc h).mono ?_; rintro e w' ⟨rfl, rfl⟩) | (go_at_call 28; refine (after_any _ _ _ hs ht).mono ?_; rintro e w' ⟨rfl, rfl⟩))
  all_goals go_ret
  · exact ⟨by rw [chk_lt (by assumption)]; rfl, rfl⟩
  · exact ⟨by rw [chk_ge (by assumption)]; rfl, rfl⟩

/-- The time behind Advance. -/
def adv (s n t : Int) : Int := if chk s n t = 0 then t else n
theorem advance_any (b : Nat) (s n t : Int) (w : World) (hb : w.heap[b]? = some (clk s n)) (h : 1 ≤ s) (hs : fits s) (ht : fits t) :
    Calls Try.prog 13 #[.pointer (some ⟨b, 0, none⟩), .int .i64 t] w fun e w' => e = .returned (.int .i64 (chk s n t)) ∧ w'.heap[b]? = some (clk s (adv s n t)) ∧ Touch (· = b) w w' := by
  have hn := clk1 hb; have hf := free_of hb 1
  have HB := Lib.hid hb; clear hb
  by_cases hk : chk s n t = 0
  · have Hk := Lib.hid hk
    have h0 : (chk s n t == 0) = true := by simp [hk]
    clear hk
    go_enter Try.func13, Try.ntmps13
    go_wp2_with (first | (go_at_call 21; refine (check_any _ _ _ _ _ HB.out h hs ht).mono ?_; rintro e w' ⟨rfl, rfl⟩))
    go_ret
    refine ⟨by rfl, ?_, Touch.setCell (S := (· = b)) (Touch.refl _ _) (fun _ => rfl) _⟩
    have := set_of HB.out 1 (.int .i64 t)
    rw [this]; simp [adv, Hk.out]
  · have Hk := Lib.hid hk
    have h0 : (chk s n t == 0) = false := by simp [hk]
    clear hk
    go_enter Try.func13, Try.ntmps13
    go_wp2_with (first | (go_at_call 21; refine (check_any _ _ _ _ _ HB.out h hs ht).mono ?_; rintro e w' ⟨rfl, rfl⟩))
    go_ret
    refine ⟨by rfl, ?_, Touch.refl _ _⟩
    rw [HB.out]; simp [adv, Hk.out]

/-- What Live answers for a valid clock. -/
def lv (s n t : Int) : Bool := decide (t ≤ n ∧ fits (t + s) ∧ n < t + s)
theorem live_any (b : Nat) (s n t : Int) (w : World) (hb : w.heap[b]? = some (clk s n)) (h : 1 ≤ s) (hs : fits s) (ht : fits t) :
    Calls Try.prog 15 #[.pointer (some ⟨b, 0, none⟩), .int .i64 t] w fun e w' => e = .returned (.bool (lv s n t)) ∧ w = w' := by
  have hc := clk0 hb; have hn := clk1 hb; clear hb
  by_cases h1 : t ≤ n
  · by_cases hf : fits (t + s)
    · have hE : (addE t s == 0) = true := by simp [addE_in hf]
      have hV := addV_in hf
      by_cases h2 : n < t + s
      · have HL := Lib.hid (show lv s n t = true by simp [lv, h1, hf, h2])
        clear hf
        go_enter Try.func15, Try.ntmps15
        go_wp2_with (first | (go_at_call 27; refine (valid_yes _ _ _ hc h).mono ?_; rintro e w' ⟨rfl, rfl⟩) | (go_at_call 28; refine (after_any _ _ _ hs ht).mono ?_; rintro e w' ⟨rfl, rfl⟩))
        go_ret
        exact ⟨by rw [HL.out]; rfl, rfl⟩
      · have HL := Lib.hid (show lv s n t = false by simp [lv, h1, hf, h2])
        clear hf
        go_enter Try.func15, Try.ntmps15
        go_wp2_with (first | (go_at_call 27; refine (valid_yes _ _ _ hc h).mono ?_; rintro e w' ⟨rfl, rfl⟩) | (go_at_call 28; refine (after_any _ _ _ hs ht).mono ?_; rintro e w' ⟨rfl, rfl⟩))
        go_ret
        exact ⟨by rw [HL.out]; exact ret_bool (by simp; omega), rfl⟩
    · have hE : (addE t s == 0) = false := by simp [addE_over hf]
      have HL := Lib.hid (show lv s n t = false by simp [lv, h1, hf])
      clear hf
      go_enter Try.func15, Try.ntmps15
      go_wp2_with (first | (go_at_call 27; refine (valid_yes _ _ _ hc h).mono ?_; rintro e w' ⟨rfl, rfl⟩) | (go_at_call 28; refine (after_any _ _ _ hs ht).mono ?_; rintro e w' ⟨rfl, rfl⟩))
      go_ret
      exact ⟨by rw [HL.out]; rfl, rfl⟩
  · have HL := Lib.hid (show lv s n t = false by simp [lv, h1])
    go_enter Try.func15, Try.ntmps15
    go_wp2_with (first | (go_at_call 27; refine (valid_yes _ _ _ hc h).mono ?_; rintro e w' ⟨rfl, rfl⟩) | (go_at_call 28; refine (after_any _ _ _ hs ht).mono ?_; rintro e w' ⟨rfl, rfl⟩))
    go_ret
    exact ⟨by rw [HL.out]; rfl, rfl⟩

theorem new_yes (s : Int) (w : World) (h : 1 ≤ s) :
    Calls Try.prog 11 #[.int .i64 s] w fun e w' => e = .returned (.tuple #[.pointer (some ⟨w.heap.size, 0, none⟩), .int .i64 0]) ∧ w' = w.alloc (clk s 0) := by
  go_enter Try.func11, Try.ntmps11
  go_wp2
  go_ret2
  exact ⟨rfl, rfl⟩
theorem new_no (s : Int) (w : World) (h : ¬ 1 ≤ s) :
    Calls Try.prog 11 #[.int .i64 s] w fun e w' => e = .returned (.tuple #[.pointer none, .int .i64 2]) ∧ w = w' := by
  go_enter Try.func11, Try.ntmps11
  go_wp2
  go_ret2
  exact ⟨rfl, rfl⟩

theorem copy_any (b : Nat) (s n : Int) (w : World) (hb : w.heap[b]? = some (clk s n)) (h : 1 ≤ s) :
    Calls Try.prog 24 #[.pointer (some ⟨b, 0, none⟩)] w fun e w' => e = .returned (.pointer (some ⟨w.heap.size, 0, none⟩)) ∧ w' = w.alloc (clk s n) := by
  have hc := clk0 hb; have hn := clk1 hb; clear hb
  go_enter Try.func24, Try.ntmps24
  go_wp2_with (go_at_call 27; refine (valid_yes _ _ _ hc h).mono ?_; rintro e w' ⟨rfl, rfl⟩)
  go_ret
  exact ⟨rfl, rfl⟩

theorem fitsN {n : Int} (h1 : -9223372036854775808 ≤ n) (h2 : n ≤ 9223372036854775807) : fits n := ⟨h1, h2⟩
set_option maxHeartbeats 1000000 in
theorem works_any (w : World) : Calls Try.prog 17 #[] w fun e w' => e = .returned (.bool true) ∧ Below w.heap.size w w' := by
  have f10 : fits 10 := by decide
  have e1 : addV (-3) 10 = 7 := by decide
  have e2 : addE (-3) 10 = 0 := by decide
  have e3 : lv 10 0 0 = true := by decide
  have e4 : lv 10 0 (-9) = true := by decide
  have e5 : lv 10 0 (-10) = false := by decide
  have e6 : lv 10 0 1 = false := by decide
  have e7 : chk 10 0 4 = 0 := by decide
  have e8 : chk 10 4 3 = 10 := by decide
  have e9 : chk 10 4 9223372036854775798 = 7 := by decide
  go_enter Try.func17, Try.ntmps17
  go_wp2_with fail
  refine (new_yes 10 _ (by decide)).mono ?_; rintro e w1 ⟨rfl, rfl⟩
  have b1 := Lib.hid (block_new w (clk 10 0))
  go_wp2_with fail
  refine (expiry_any _ 10 0 (-3) _ b1.out (by decide) f10 (by decide)).mono ?_; rintro e w1 ⟨rfl, rfl⟩
  go_wp2_with fail
  refine (live_any _ 10 0 0 _ b1.out (by decide) f10 (by decide)).mono ?_; rintro e w1 ⟨rfl, rfl⟩
  go_wp2_with fail
  refine (live_any _ 10 0 (-9) _ b1.out (by decide) f10 (by decide)).mono ?_; rintro e w1 ⟨rfl, rfl⟩
  go_wp2_with fail
  refine (live_any _ 10 0 (-10) _ b1.out (by decide) f10 (by decide)).mono ?_; rintro e w1 ⟨rfl, rfl⟩
  go_wp2_with fail
  refine (live_any _ 10 0 1 _ b1.out (by decide) f10 (by decide)).mono ?_; rintro e w1 ⟨rfl, rfl⟩
  go_wp2_with fail
  refine (advance_any _ 10 0 4 _ b1.out (by decide) f10 (by decide)).mono ?_; rintro e w2 ⟨rfl, b2, t2⟩
  have T2 := Lib.hid t2
  have B2 := Lib.hid (show w2.heap[w.heap.size]? = some (clk 10 4) from b2)
  clear b2 t2
  go_wp2_with fail
  refine (advance_any _ 10 4 3 _ B2.out (by decide) f10 (by decide)).mono ?_; rintro e w3 ⟨rfl, b3, t3⟩
  have T3 := Lib.hid t3
  have B3 := Lib.hid (show w3.heap[w.heap.size]? = some (clk 10 4) from b3)
  clear b3 t3
  go_wp2_with fail
  refine (now_any _ 10 4 _ B3.out (by decide)).mono ?_; rintro e w1 ⟨rfl, rfl⟩
  go_wp2_with fail
  refine (check_any _ 10 4 9223372036854775798 _ B3.out (by decide) f10 (by decide)).mono ?_; rintro e w1 ⟨rfl, rfl⟩
  go_wp2_with fail
  go_ret
  refine ⟨rfl, ?_⟩
  have t1 : Touch (· = w.heap.size) w w2 := (Touch.alloc (Touch.refl _ _) _).trans T2.out
  exact (t1.trans T3.out).below (Nat.le_refl _) (fun k hk => by omega)
end Go.Proofs.Ytbmlkanonmooeaa

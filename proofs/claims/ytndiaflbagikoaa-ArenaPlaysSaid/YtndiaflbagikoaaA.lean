/- Contracts of the functions of package arena, over its memory. -/
import Derived.Test.YtndiaflbagikoaaProg
import Derived.Test.YtndiaflbagikoaaM
import Derived.LaidEqlPtr
import Derived.BigQuiet
import Derived.Deep.QuietTactic
import Derived.WalkSmall
namespace Go.Proofs.Ytndiaflbagikoaa
open Go.ChangeShapes Go.WideShapes Go.ChangeAt Go.RowKit

theorem info63 : (Try.prog.info? 63).isSome = true := by kernel_rfl
theorem valid_yes (b : Nat) (w : World) (hc : w.cell? ⟨b, 0, none⟩ = some (.pointer (some ⟨b, 0, none⟩))) :
    Calls Try.prog 31 #[.pointer (some ⟨b, 0, none⟩)] w fun e w' => e = .returned (.bool true) ∧ w = w' := by
  obtain ⟨j, hj⟩ := Option.isSome_iff_exists.1 info63
  have hE := run_eql_ptr_same (P := Try.prog) w ⟨b, 0, none⟩ Try.underlying23 hj
  clear hj
  go_enter Try.func31, Try.ntmps31
  go_wp2
  go_ret
  exact ⟨rfl, rfl⟩

section
variable {w : World} {b : Nat} {bs : List Nat} {v : Value} {slots begun used : Nat} {last : Int} {f : Nat → Sl}
theorem at_any (h : ArM w b bs v slots begun used last f) (k : Nat) (hk : k / 64 < bs.length) (hm : k < 1000000) :
    Calls Try.prog 33 #[.pointer (some ⟨b, 0, none⟩), .int .i64 k] w fun e w' => e = .returned (.pointer (some ⟨bs[k / 64], k % 64 * 3, none⟩)) ∧ w = w' := by
  obtain ⟨c0, c1, c2, c3, c4, c5⟩ := h.cells
  obtain ⟨g, cap, rfl, cg⟩ := h.at_ hk
  clear h c0 c2 c3 c4 c5
  generalize bs[k / 64] = B at *
  have hki : (k : Int) / 64 < (bs.length : Int) := by omega
  go_enter Try.func33, Try.ntmps33
  go_wp2
  go_ret
  exact ⟨rfl, rfl⟩
theorem state_in (h : ArM w b bs v slots begun used last f) (k : Nat) (hkb : k < begun) (hk : k / 64 < bs.length) (hm : begun < 1000000) :
    Calls Try.prog 32 #[.pointer (some ⟨b, 0, none⟩), .int .i64 k] w fun e w' => e = .returned (.int .i64 (f k).st) ∧ w = w' := by
  obtain ⟨c0, c1, c2, c3, c4, c5⟩ := h.cells
  have hs : w.cell? ⟨bs[k / 64], k % 64 * 3, none⟩ = some (.int .i64 (f k).st) := h.slot hk 0 (by omega)
  have H := Lib.hid h
  clear h c0 c1 c2 c4 c5
  go_enter Try.func32, Try.ntmps32
  go_wp2_with (go_at_call 33; refine (at_any H.out k hk (by omega)).mono ?_; rintro e w' ⟨rfl, rfl⟩)
  go_ret
  exact ⟨rfl, rfl⟩
theorem state_out (h : ArM w b bs v slots begun used last f) (k : Nat) (hkb : begun ≤ k) :
    Calls Try.prog 32 #[.pointer (some ⟨b, 0, none⟩), .int .i64 k] w fun e w' => e = .returned (.int .i64 0) ∧ w = w' := by
  obtain ⟨c0, c1, c2, c3, c4, c5⟩ := h.cells
  clear h c0 c1 c2 c4 c5
  go_enter Try.func32, Try.ntmps32
  go_wp2
  go_ret
  exact ⟨rfl, rfl⟩
theorem next_last (h : ArM w b bs v slots begun used last f) (hl : 0 ≤ last) :
    Calls Try.prog 17 #[.pointer (some ⟨b, 0, none⟩)] w fun e w' => e = .returned (.tuple #[.int .i64 last, .bool true]) ∧ w = w' := by
  obtain ⟨c0, c1, c2, c3, c4, c5⟩ := h.cells
  have hn : (last != -1) = true := by simp; omega
  clear h c1 c2 c3 c4
  go_enter Try.func17, Try.ntmps17
  go_wp2_with (go_at_call 31; refine (valid_yes _ _ c0).mono ?_; rintro e w' ⟨rfl, rfl⟩)
  go_ret2
  exact ⟨rfl, rfl⟩
theorem next_fresh (h : ArM w b bs v slots begun used (-1) f) (hl : begun < slots) :
    Calls Try.prog 17 #[.pointer (some ⟨b, 0, none⟩)] w fun e w' => e = .returned (.tuple #[.int .i64 begun, .bool true]) ∧ Below w.heap.size w w' := by
  obtain ⟨c0, c1, c2, c3, c4, c5⟩ := h.cells
  clear h c1 c4
  go_enter Try.func17, Try.ntmps17
  go_wp2_with (go_at_call 31; refine (valid_yes _ _ c0).mono ?_; rintro e w' ⟨rfl, rfl⟩)
  go_quiet (fail)
  go_wp2
  go_ret2
  exact ⟨rfl, below_drewN (Below.refl _ _) _⟩
theorem next_full (h : ArM w b bs v slots begun used (-1) f) (hl : ¬ begun < slots) :
    Calls Try.prog 17 #[.pointer (some ⟨b, 0, none⟩)] w fun e w' => e = .returned (.tuple #[.int .i64 0, .bool false]) ∧ Below w.heap.size w w' := by
  obtain ⟨c0, c1, c2, c3, c4, c5⟩ := h.cells
  clear h c1 c4
  go_enter Try.func17, Try.ntmps17
  go_wp2_with (go_at_call 31; refine (valid_yes _ _ c0).mono ?_; rintro e w' ⟨rfl, rfl⟩)
  go_quiet (fail)
  go_wp2
  go_ret2
  exact ⟨rfl, below_drewN (Below.refl _ _) _⟩
theorem len_any (h : ArM w b bs v slots begun used last f) :
    Calls Try.prog 20 #[.pointer (some ⟨b, 0, none⟩)] w fun e w' => e = .returned (.int .i64 used) ∧ w = w' := by
  obtain ⟨c0, c1, c2, c3, c4, c5⟩ := h.cells
  clear h c1 c2 c3 c5
  go_enter Try.func20, Try.ntmps20
  go_wp2_with (go_at_call 31; refine (valid_yes _ _ c0).mono ?_; rintro e w' ⟨rfl, rfl⟩)
  go_ret
  exact ⟨rfl, rfl⟩
theorem cap_any (h : ArM w b bs v slots begun used last f) :
    Calls Try.prog 25 #[.pointer (some ⟨b, 0, none⟩)] w fun e w' => e = .returned (.int .i64 slots) ∧ w = w' := by
  obtain ⟨c0, c1, c2, c3, c4, c5⟩ := h.cells
  clear h c1 c3 c4 c5
  go_enter Try.func25, Try.ntmps25
  go_wp2_with (go_at_call 31; refine (valid_yes _ _ c0).mono ?_; rintro e w' ⟨rfl, rfl⟩)
  go_ret
  exact ⟨rfl, rfl⟩

/-- Used: outside, of a fresh slot, of another. -/
theorem used_out (h : ArM w b bs v slots begun used last f) (i : Int) (hi : i < 0 ∨ (slots : Int) ≤ i) :
    Calls Try.prog 15 #[.pointer (some ⟨b, 0, none⟩), .int .i64 i] w fun e w' => e = .returned (.bool false) ∧ w = w' := by
  obtain ⟨c0, c1, c2, c3, c4, c5⟩ := h.cells
  clear h c1 c3 c4 c5
  by_cases h0 : 0 ≤ i
  · have h1 : ¬ i < (slots : Int) := by omega
    clear hi
    go_enter Try.func15, Try.ntmps15
    go_wp2_with (go_at_call 31; refine (valid_yes _ _ c0).mono ?_; rintro e w' ⟨rfl, rfl⟩)
    go_ret
    exact ⟨rfl, rfl⟩
  · clear hi
    go_enter Try.func15, Try.ntmps15
    go_wp2_with (go_at_call 31; refine (valid_yes _ _ c0).mono ?_; rintro e w' ⟨rfl, rfl⟩)
    go_ret
    exact ⟨rfl, rfl⟩
theorem used_fresh (h : ArM w b bs v slots begun used last f) (k : Nat) (hi : k < slots) (hb : begun ≤ k) :
    Calls Try.prog 15 #[.pointer (some ⟨b, 0, none⟩), .int .i64 k] w fun e w' => e = .returned (.bool false) ∧ w = w' := by
  obtain ⟨c0, c1, c2, c3, c4, c5⟩ := h.cells
  have H := Lib.hid h
  clear h c1 c3 c4 c5
  go_enter Try.func15, Try.ntmps15
  go_wp2_with (first | (go_at_call 31; refine (valid_yes _ _ c0).mono ?_; rintro e w' ⟨rfl, rfl⟩) | (go_at_call 32; refine (state_out H.out k hb).mono ?_; rintro e w' ⟨rfl, rfl⟩))
  go_ret
  exact ⟨rfl, rfl⟩
theorem used_in (h : ArM w b bs v slots begun used last f) (k : Nat) (hi : k < slots) (hb : k < begun) (hk : k / 64 < bs.length) (hm : begun < 1000000) :
    Calls Try.prog 15 #[.pointer (some ⟨b, 0, none⟩), .int .i64 k] w fun e w' => e = .returned (.bool ((f k).st == 1)) ∧ w = w' := by
  obtain ⟨c0, c1, c2, c3, c4, c5⟩ := h.cells
  have H := Lib.hid h
  clear h c1 c3 c4 c5
  go_enter Try.func15, Try.ntmps15
  go_wp2_with (first | (go_at_call 31; refine (valid_yes _ _ c0).mono ?_; rintro e w' ⟨rfl, rfl⟩) | (go_at_call 32; refine (state_in H.out k hb hk hm).mono ?_; rintro e w' ⟨rfl, rfl⟩))
  go_ret
  exact ⟨rfl, rfl⟩
theorem times_out (h : ArM w b bs v slots begun used last f) (i : Int) (hi : i < 0 ∨ (slots : Int) ≤ i) :
    Calls Try.prog 19 #[.pointer (some ⟨b, 0, none⟩), .int .i64 i] w fun e w' => e = .returned (.int .u64 0) ∧ w = w' := by
  obtain ⟨c0, c1, c2, c3, c4, c5⟩ := h.cells
  clear h c1 c3 c4 c5
  by_cases h0 : i < 0
  · clear hi
    go_enter Try.func19, Try.ntmps19
    go_wp2_with (go_at_call 31; refine (valid_yes _ _ c0).mono ?_; rintro e w' ⟨rfl, rfl⟩)
    go_ret
    exact ⟨rfl, rfl⟩
  · have h1 : (slots : Int) ≤ i := by omega
    clear hi
    go_enter Try.func19, Try.ntmps19
    go_wp2_with (go_at_call 31; refine (valid_yes _ _ c0).mono ?_; rintro e w' ⟨rfl, rfl⟩)
    go_ret
    exact ⟨rfl, rfl⟩
theorem times_fresh (h : ArM w b bs v slots begun used last f) (k : Nat) (hi : k < slots) (hb : begun ≤ k) :
    Calls Try.prog 19 #[.pointer (some ⟨b, 0, none⟩), .int .i64 k] w fun e w' => e = .returned (.int .u64 0) ∧ w = w' := by
  obtain ⟨c0, c1, c2, c3, c4, c5⟩ := h.cells
  have H := Lib.hid h
  clear h c1 c3 c4 c5
  go_enter Try.func19, Try.ntmps19
  go_wp2_with (first | (go_at_call 31; refine (valid_yes _ _ c0).mono ?_; rintro e w' ⟨rfl, rfl⟩) | (go_at_call 32; refine (state_out H.out k hb).mono ?_; rintro e w' ⟨rfl, rfl⟩))
  go_ret
  exact ⟨rfl, rfl⟩
theorem times_in (h : ArM w b bs v slots begun used last f) (k : Nat) (hi : k < slots) (hb : k < begun) (hk : k / 64 < bs.length) (hm : begun < 1000000) (hs : (f k).st ≠ 0) :
    Calls Try.prog 19 #[.pointer (some ⟨b, 0, none⟩), .int .i64 k] w fun e w' => e = .returned (.int .u64 (f k).tm) ∧ w = w' := by
  obtain ⟨c0, c1, c2, c3, c4, c5⟩ := h.cells
  have ht : w.cell? ⟨bs[k / 64], k % 64 * 3 + 2, none⟩ = some (.int .u64 (f k).tm) := h.slot hk 2 (by omega)
  have H := Lib.hid h
  have hz : ((f k).st == 0) = false := by simp [hs]
  clear h c1 c3 c4 c5 hs
  go_enter Try.func19, Try.ntmps19
  go_wp2_with (first | (go_at_call 31; refine (valid_yes _ _ c0).mono ?_; rintro e w' ⟨rfl, rfl⟩) | (go_at_call 32; refine (state_in H.out k hb hk hm).mono ?_; rintro e w' ⟨rfl, rfl⟩) | (go_at_call 33; refine (at_any H.out k hk (by omega)).mono ?_; rintro e w' ⟨rfl, rfl⟩))
  go_ret
  exact ⟨rfl, rfl⟩
end
theorem new_yes (s : Int) (w : World) (h0 : 0 ≤ s) (h1 : s ≤ 65536) :
    Calls Try.prog 22 #[.int .i64 s] w fun e w' => e = .returned (.tuple #[.pointer (some ⟨w.heap.size, 0, none⟩), .int .i64 0]) ∧ w' = w.alloc (.cells #[.pointer (some ⟨w.heap.size, 0, none⟩), .slice none 0 0, .int .i64 s, .int .i64 0, .int .i64 0, .int .i64 (-1)] 63) := by
  go_enter Try.func22, Try.ntmps22
  go_wp2
  go_ret2
  exact ⟨rfl, rfl⟩
theorem new_no (s : Int) (w : World) (h : s < 0 ∨ 65536 < s) :
    Calls Try.prog 22 #[.int .i64 s] w fun e w' => e = .returned (.tuple #[.pointer none, .int .i64 2]) ∧ w = w' := by
  by_cases h0 : s < 0
  · clear h
    go_enter Try.func22, Try.ntmps22
    go_wp2
    go_ret2
    exact ⟨rfl, rfl⟩
  · have h1 : 65536 < s := by omega
    clear h
    go_enter Try.func22, Try.ntmps22
    go_wp2
    go_ret2
    exact ⟨rfl, rfl⟩
end Go.Proofs.Ytndiaflbagikoaa

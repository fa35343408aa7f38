/- Free, over the memory of an arena. -/
import Derived.Test.YtndiaflbagikoaaB
namespace Go.Proofs.Ytndiaflbagikoaa
open Go.ChangeShapes Go.WideShapes Go.ChangeAt Go.RowKit
section
variable {w : World} {b : Nat} {bs : List Nat} {v : Value} {slots begun used : Nat} {last : Int} {f : Nat → Sl}
theorem free_out (h : ArM w b bs v slots begun used last f) (i : Int) (hi : i < 0 ∨ (slots : Int) ≤ i) :
    Calls Try.prog 16 #[.pointer (some ⟨b, 0, none⟩), .int .i64 i] w fun e w' => e = .returned (.int .i64 3) ∧ w = w' := by
  obtain ⟨c0, c1, c2, c3, c4, c5⟩ := h.cells
  clear h c1 c3 c4 c5
  by_cases h0 : i < 0
  · clear hi
    go_enter Try.func16, Try.ntmps16
    go_wp2_with (go_at_call 31; refine (valid_yes _ _ c0).mono ?_; rintro e w' ⟨rfl, rfl⟩)
    go_ret
    exact ⟨rfl, rfl⟩
  · have h1 : (slots : Int) ≤ i := by omega
    clear hi
    go_enter Try.func16, Try.ntmps16
    go_wp2_with (go_at_call 31; refine (valid_yes _ _ c0).mono ?_; rintro e w' ⟨rfl, rfl⟩)
    go_ret
    exact ⟨rfl, rfl⟩
theorem free_fresh (h : ArM w b bs v slots begun used last f) (k : Nat) (hi : k < slots) (hb : begun ≤ k) :
    Calls Try.prog 16 #[.pointer (some ⟨b, 0, none⟩), .int .i64 k] w fun e w' => e = .returned (.int .i64 5) ∧ w = w' := by
  obtain ⟨c0, c1, c2, c3, c4, c5⟩ := h.cells
  have H := Lib.hid h
  clear h c1 c3 c4 c5
  go_enter Try.func16, Try.ntmps16
  go_wp2_with (first | (go_at_call 31; refine (valid_yes _ _ c0).mono ?_; rintro e w' ⟨rfl, rfl⟩) | (go_at_call 32; refine (state_out H.out k hb).mono ?_; rintro e w' ⟨rfl, rfl⟩))
  go_ret
  exact ⟨rfl, rfl⟩
theorem free_not (h : ArM w b bs v slots begun used last f) (k : Nat) (hi : k < slots) (hb : k < begun) (hk : k / 64 < bs.length) (hm : begun < 1000000) (hs : (f k).st ≠ 1) :
    Calls Try.prog 16 #[.pointer (some ⟨b, 0, none⟩), .int .i64 k] w fun e w' => e = .returned (.int .i64 5) ∧ w = w' := by
  obtain ⟨c0, c1, c2, c3, c4, c5⟩ := h.cells
  have H := Lib.hid h
  have hz : ((f k).st != 1) = true := by simp [hs]
  clear h c1 c3 c4 c5 hs
  go_enter Try.func16, Try.ntmps16
  go_wp2_with (first | (go_at_call 31; refine (valid_yes _ _ c0).mono ?_; rintro e w' ⟨rfl, rfl⟩) | (go_at_call 32; refine (state_in H.out k hb hk hm).mono ?_; rintro e w' ⟨rfl, rfl⟩))
  go_ret
  exact ⟨rfl, rfl⟩

def Given (w : World) (b : Nat) (bs : List Nat) (v : Value) (slots begun used : Nat) (last : Int) (f : Nat → Sl) (k : Nat) (w' : World) : Prop :=
  ArM w' b bs v slots begun (used - 1) k (upd f k ⟨2, last, (f k).tm⟩) ∧ Touch (Foot b bs v) w w'
theorem given (h : ArM w b bs v slots begun used last f) (hu : 1 ≤ used) {k : Nat} (hk : k / 64 < bs.length) :
    Given w b bs v slots begun used last f k ((((w.setCell ⟨bs[k / 64], k % 64 * 3, none⟩ (.int .i64 2)).setCell ⟨bs[k / 64], k % 64 * 3 + 1, none⟩ (.int .i64 last)).setCell ⟨b, 5, none⟩ (.int .i64 k)).setCell ⟨b, 4, none⟩ (.int .i64 ((used : Int) - 1))) := by
  have m1 := h.slot_set hk 0 (by omega) ⟨2, (f k).af, (f k).tm⟩ (.int .i64 2) rfl (fun d hd hne => by
    match d, hd, hne with
    | 1, _, _ => rfl
    | 2, _, _ => rfl)
  have m2 := m1.slot_set hk 1 (by omega) ⟨2, last, (f k).tm⟩ (.int .i64 last) rfl (fun d hd hne => by
    rw [upd_same]
    match d, hd, hne with
    | 0, _, _ => rfl
    | 2, _, _ => rfl)
  rw [upd_upd] at m2
  have m3 := m2.last_set k
  have m4 := m3.used_set (used - 1)
  refine ⟨?_, ?_⟩
  · rw [show ((used : Int) - 1) = ((used - 1 : Nat) : Int) by omega]
    exact m4
  · have hB : Foot b bs v bs[k / 64] := Or.inr (Or.inl (List.getElem_mem hk))
    exact ((((Touch.refl _ _).setCell (fun _ => hB) _).setCell (fun _ => hB) _).setCell (fun _ => Or.inl rfl) _).setCell (fun _ => Or.inl rfl) _

set_option maxHeartbeats 1000000 in
theorem free_in (h : ArM w b bs v slots begun used last f) (k : Nat) (hi : k < slots) (hb : k < begun) (hk : k / 64 < bs.length) (hm : begun < 1000000) (hs : (f k).st = 1) (hu : 1 ≤ used) (hu2 : used < 1000000) :
    Calls Try.prog 16 #[.pointer (some ⟨b, 0, none⟩), .int .i64 k] w fun e w' => e = .returned (.int .i64 0) ∧ ArM w' b bs v slots begun (used - 1) k (upd f k ⟨2, last, (f k).tm⟩) ∧ Touch (Foot b bs v) w w' := by
  obtain ⟨c0, c1, c2, c3, c4, c5⟩ := h.cells
  have g4 := free_of h.head 4
  have g5 := free_of h.head 5
  have hz : ((f k).st != 1) = false := by simp [hs]
  have d0 : w.cell? ⟨bs[k / 64], k % 64 * 3, none⟩ = some (.int .i64 (f k).st) := h.slot hk 0 (by omega)
  have d1 : w.cell? ⟨bs[k / 64], k % 64 * 3 + 1, none⟩ = some (.int .i64 (f k).af) := h.slot hk 1 (by omega)
  have f0 := free_of (h.blk _ hk) (k % 64 * 3)
  have f1 := free_of (h.blk _ hk) (k % 64 * 3 + 1)
  have hne := h.ne hk
  have TK := Lib.hid (given h hu hk)
  have AT := Lib.hid (at_any h k hk (by omega))
  have ST := Lib.hid (state_in h k hb hk hm)
  clear h c1 c3 hs
  generalize bs[k / 64] = B at *
  go_enter Try.func16, Try.ntmps16
  go_wp2_with (first | (go_at_call 31; refine (valid_yes _ _ c0).mono ?_; rintro e w' ⟨rfl, rfl⟩) | (go_at_call 32; refine (ST.out).mono ?_; rintro e w' ⟨rfl, rfl⟩) | (go_at_call 33; refine (AT.out).mono ?_; rintro e w' ⟨rfl, rfl⟩))
  go_ret
  exact ⟨rfl, TK.out.1, TK.out.2⟩
end
end Go.Proofs.Ytndiaflbagikoaa

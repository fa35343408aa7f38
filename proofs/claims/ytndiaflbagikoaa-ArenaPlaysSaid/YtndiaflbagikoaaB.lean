/- Contracts of Alloc and Free, over the memory of an arena. -/
import Derived.Test.YtndiaflbagikoaaA
namespace Go.Proofs.Ytndiaflbagikoaa
open Go.ChangeShapes Go.WideShapes Go.ChangeAt Go.RowKit

def inc (t : Int) : Int := IntKind.u64.wrap (t + 1)
section
variable {w : World} {b : Nat} {bs : List Nat} {v : Value} {slots begun used : Nat} {last : Int} {f : Nat → Sl}
theorem alloc_full (h : ArM w b bs v slots begun used (-1) f) (hl : ¬ begun < slots) :
    Calls Try.prog 18 #[.pointer (some ⟨b, 0, none⟩)] w fun e w' => e = .returned (.tuple #[.int .i64 0, .int .i64 4]) ∧ Below w.heap.size w w' := by
  obtain ⟨c0, c1, c2, c3, c4, c5⟩ := h.cells
  have H := Lib.hid h
  clear h c1 c2 c3 c4 c5
  go_enter Try.func18, Try.ntmps18
  go_wp2_with fail
  refine (valid_yes _ _ c0).mono ?_; rintro e w' ⟨rfl, rfl⟩
  go_wp2_with fail
  refine (next_full H.out hl).mono ?_; rintro e w1 ⟨rfl, hb1⟩
  have B1 := Lib.hid hb1; clear hb1
  go_wp2_with fail
  go_ret2
  exact ⟨rfl, B1.out⟩

theorem ArM.last_set (h : ArM w b bs v slots begun used last f) (l : Int) : ArM (w.setCell ⟨b, 5, none⟩ (.int .i64 l)) b bs v slots begun used l f := h.head_set 5 _ _ _ _ _ rfl
theorem ArM.used_set (h : ArM w b bs v slots begun used last f) (n : Nat) : ArM (w.setCell ⟨b, 4, none⟩ (.int .i64 n)) b bs v slots begun n last f := h.head_set 4 _ _ _ _ _ rfl
theorem ArM.begun_set (h : ArM w b bs v slots begun used last f) (n : Nat) : ArM (w.setCell ⟨b, 3, none⟩ (.int .i64 n)) b bs v slots n used last f := h.head_set 3 _ _ _ _ _ rfl
theorem ArM.ne (h : ArM w b bs v slots begun used last f) {j : Nat} (hj : j < bs.length) : bs[j] ≠ b := fun e => h.hb (by rw [← e]; exact List.getElem_mem hj)

/-- The end of Alloc: the slot's record, and the count. -/
def Taken (w : World) (b : Nat) (bs : List Nat) (v : Value) (slots begun used : Nat) (last : Int) (f : Nat → Sl) (k : Nat) (w' : World) : Prop :=
  ArM w' b bs v slots begun (used + 1) last (upd f k ⟨1, -1, inc (f k).tm⟩) ∧ Touch (Foot b bs v) w w'
theorem taken (h : ArM w b bs v slots begun used last f) {k : Nat} (hk : k / 64 < bs.length) :
    Taken w b bs v slots begun used last f k ((((w.setCell ⟨bs[k / 64], k % 64 * 3, none⟩ (.int .i64 1)).setCell ⟨bs[k / 64], k % 64 * 3 + 1, none⟩ (.int .i64 (-1))).setCell ⟨bs[k / 64], k % 64 * 3 + 2, none⟩ (.int .u64 (inc (f k).tm))).setCell ⟨b, 4, none⟩ (.int .i64 ((used : Int) + 1))) := by
  have m1 := h.slot_set hk 0 (by omega) ⟨1, (f k).af, (f k).tm⟩ (.int .i64 1) rfl (fun d hd hne => by
    match d, hd, hne with
    | 1, _, _ => rfl
    | 2, _, _ => rfl)
  have m2 := m1.slot_set hk 1 (by omega) ⟨1, -1, (f k).tm⟩ (.int .i64 (-1)) rfl (fun d hd hne => by
    rw [upd_same]
    match d, hd, hne with
    | 0, _, _ => rfl
    | 2, _, _ => rfl)
  have m3 := m2.slot_set hk 2 (by omega) ⟨1, -1, inc (f k).tm⟩ (.int .u64 (inc (f k).tm)) rfl (fun d hd hne => by
    rw [upd_same]
    match d, hd, hne with
    | 0, _, _ => rfl
    | 1, _, _ => rfl
    | 2, _, h => exact absurd rfl h)
  rw [upd_upd, upd_upd] at m3
  have m4 := m3.used_set (used + 1)
  refine ⟨?_, ?_⟩
  · rw [show ((used : Int) + 1) = ((used + 1 : Nat) : Int) by omega]
    exact m4
  · have hB : Foot b bs v bs[k / 64] := Or.inr (Or.inl (List.getElem_mem hk))
    exact ((((Touch.refl _ _).setCell (fun _ => hB) _).setCell (fun _ => hB) _).setCell (fun _ => hB) _).setCell (fun _ => Or.inl rfl) _

set_option maxHeartbeats 1000000 in
theorem alloc_pop (k : Nat) (h : ArM w b bs v slots begun used k f) (hk : k / 64 < bs.length) (hm : k < 1000000) (hu : used < 1000000) :
    Calls Try.prog 18 #[.pointer (some ⟨b, 0, none⟩)] w fun e w' => e = .returned (.tuple #[.int .i64 k, .int .i64 0]) ∧ ArM w' b bs v slots begun (used + 1) (f k).af (upd f k ⟨1, -1, inc (f k).tm⟩) ∧ Touch (Foot b bs v) w w' := by
  obtain ⟨c0, c1, c2, c3, c4, c5⟩ := h.cells
  have fb := free_of h.head 5
  have ca : w.cell? ⟨bs[k / 64], k % 64 * 3 + 1, none⟩ = some (.int .i64 (f k).af) := h.slot hk 1 (by omega)
  have H := Lib.hid h
  clear h c1 c2 c3 c4
  go_enter Try.func18, Try.ntmps18
  go_wp2_with fail
  refine (valid_yes _ _ c0).mono ?_; rintro e w' ⟨rfl, rfl⟩
  go_wp2_with fail
  refine (next_last H.out (by omega)).mono ?_; rintro e w' ⟨rfl, rfl⟩
  go_wp2_with fail
  refine (at_any H.out k hk hm).mono ?_; rintro e w' ⟨rfl, rfl⟩
  go_wp2_with fail
  have M1 := H.out.last_set (f k).af
  obtain ⟨W, hW⟩ : ∃ W, W = w.setCell ⟨b, 5, none⟩ (.int .i64 (f k).af) := ⟨_, rfl⟩
  have T1 : Hid (Touch (Foot b bs v) w W) := by rw [hW]; exact (Touch.refl _ _).setCell (fun _ => Or.inl rfl) _
  rw [← hW] at M1 ⊢
  have HM := Lib.hid M1
  clear hW c0 c5 fb ca M1
  obtain ⟨c0, c1, c2, c3, c4, c5⟩ := HM.out.cells
  have fb := free_of HM.out.head 4
  have d0 : W.cell? ⟨bs[k / 64], k % 64 * 3, none⟩ = some (.int .i64 (f k).st) := HM.out.slot hk 0 (by omega)
  have d1 : W.cell? ⟨bs[k / 64], k % 64 * 3 + 1, none⟩ = some (.int .i64 (f k).af) := HM.out.slot hk 1 (by omega)
  have d2 : W.cell? ⟨bs[k / 64], k % 64 * 3 + 2, none⟩ = some (.int .u64 (f k).tm) := HM.out.slot hk 2 (by omega)
  have f0 := free_of (HM.out.blk _ hk) (k % 64 * 3)
  have f1 := free_of (HM.out.blk _ hk) (k % 64 * 3 + 1)
  have f2 := free_of (HM.out.blk _ hk) (k % 64 * 3 + 2)
  have hne := HM.out.ne hk
  have TK := Lib.hid (taken HM.out hk)
  refine (at_any HM.out k hk hm).mono ?_; rintro e w' ⟨rfl, rfl⟩
  clear c0 c1 c2 c3 c5
  generalize bs[k / 64] = B at *
  go_wp2_with fail
  go_ret2
  exact ⟨rfl, TK.out.1, T1.out.trans TK.out.2⟩

set_option maxHeartbeats 1000000 in
theorem alloc_fresh (h : ArM w b bs v slots begun used (-1) f) (hl : begun < slots) (hk : begun / 64 < bs.length) (h64 : begun % 64 ≠ 0) (hm : begun < 1000000) (hu : used < 1000000) :
    Calls Try.prog 18 #[.pointer (some ⟨b, 0, none⟩)] w fun e w' => e = .returned (.tuple #[.int .i64 begun, .int .i64 0]) ∧ ArM w' b bs v slots (begun + 1) (used + 1) (-1) (upd f begun ⟨1, -1, inc (f begun).tm⟩) ∧ Touch (Foot b bs v) w w' := by
  obtain ⟨c0, c1, c2, c3, c4, c5⟩ := h.cells
  have hq : ((begun : Int) % 64 == 0) = false := by simp; omega
  have hq2 : ((begun : Int) == -1) = false := by simp
  have H := Lib.hid h
  clear h c1 c2 c4 h64
  go_enter Try.func18, Try.ntmps18
  go_wp2_with fail
  refine (valid_yes _ _ c0).mono ?_; rintro e w' ⟨rfl, rfl⟩
  go_wp2_with fail
  refine (next_fresh H.out hl).mono ?_; rintro e w1 ⟨rfl, hb1⟩
  have HM1 := Lib.hid (H.out.keep (Touch.of_below hb1 (fun _ => False)) (fun _ _ h => h))
  have T0 := Lib.hid (Touch.of_below hb1 (Foot b bs v))
  clear hb1 c0 c3 c5
  obtain ⟨c0, c1, c2, c3, c4, c5⟩ := HM1.out.cells
  have fb := free_of HM1.out.head 3
  clear c0 c1 c2 c4
  go_wp2_with fail
  have M1 := HM1.out.begun_set (begun + 1)
  obtain ⟨W, hW⟩ : ∃ W, W = w1.setCell ⟨b, 3, none⟩ (.int .i64 ((begun : Int) + 1)) := ⟨_, rfl⟩
  have T1 : Hid (Touch (Foot b bs v) w W) := by rw [hW]; exact T0.out.trans ((Touch.refl _ _).setCell (fun _ => Or.inl rfl) _)
  rw [show (((begun + 1 : Nat) : Int)) = (begun : Int) + 1 by omega] at M1
  rw [← hW] at M1 ⊢
  have HM := Lib.hid M1
  clear hW c3 c5 fb M1
  obtain ⟨c0, c1, c2, c3, c4, c5⟩ := HM.out.cells
  have fb := free_of HM.out.head 4
  have d0 : W.cell? ⟨bs[begun / 64], begun % 64 * 3, none⟩ = some (.int .i64 (f begun).st) := HM.out.slot hk 0 (by omega)
  have d1 : W.cell? ⟨bs[begun / 64], begun % 64 * 3 + 1, none⟩ = some (.int .i64 (f begun).af) := HM.out.slot hk 1 (by omega)
  have d2 : W.cell? ⟨bs[begun / 64], begun % 64 * 3 + 2, none⟩ = some (.int .u64 (f begun).tm) := HM.out.slot hk 2 (by omega)
  have f0 := free_of (HM.out.blk _ hk) (begun % 64 * 3)
  have f1 := free_of (HM.out.blk _ hk) (begun % 64 * 3 + 1)
  have f2 := free_of (HM.out.blk _ hk) (begun % 64 * 3 + 2)
  have hne := HM.out.ne hk
  have TK := Lib.hid (taken HM.out hk)
  refine (at_any HM.out begun hk hm).mono ?_; rintro e w' ⟨rfl, rfl⟩
  clear c0 c1 c2 c3 c5
  generalize bs[begun / 64] = B at *
  go_wp2_with fail
  go_ret2
  exact ⟨rfl, TK.out.1, T1.out.trans TK.out.2⟩
end
end Go.Proofs.Ytndiaflbagikoaa

/- CodecPuts: the walk. -/
import Derived.Test.YthnoihdojinocaaZq
namespace Go.Proofs.Ythnoihdojinocaa
open Go.ChangeShapes Go.WideShapes Go.ChangeAt Go.RowKit
set_option linter.unusedVariables false
set_option linter.unusedSimpArgs false

/-- What Put returns: the frame, or nothing. -/
def fr0 (c : Cm) : List Nat := if chk c = 0 then frm c else []
def PutS (w : World) (c : Cm) (e : Ending) (w' : World) : Prop := ∃ a n cp, e = .returned (.tuple #[.slice a n cp, .int .i64 (chk c)]) ∧ IsK .u8 w' a n cp (ns (fr0 c)) ∧ Below w.heap.size w w'
theorem put_sl {w w' : World} {c : Cm} {e : Ending} (h : PutR w c e w') : PutS w c e w' := by
  obtain ⟨v, rfl, hb, h1, h2⟩ := h
  by_cases hk : chk c = 0
  · obtain ⟨a, cp, rfl, hs⟩ := (h1 hk).sl
    exact ⟨a, _, cp, rfl, by unfold fr0; rw [if_pos hk]; exact hs, hb⟩
  · rw [h2 hk]
    exact ⟨none, 0, 0, rfl, by unfold fr0; rw [if_neg hk]; exact IsSl.nil _, hb⟩
/-- A command that lies in block x, in whatever world behind W. -/
def Box (W : World) (x : Nat) (c : Cm) (ad : Option Addr) (cd : Nat) (ab : Option Addr) (cb : Nat) : Prop := ∀ w', Below W.heap.size W w' → w'.cell? ⟨x, 0, none⟩ = some (.int .i64 c.op) ∧ w'.cell? ⟨x, 1, none⟩ = some (.int .u64 c.u) ∧ w'.cell? ⟨x, 2, none⟩ = some (.int .u64 c.v) ∧ w'.cell? ⟨x, 3, none⟩ = some (.int .i64 c.w) ∧ w'.cell? ⟨x, 4, none⟩ = some (.int .i64 c.t) ∧ w'.cell? ⟨x, 5, none⟩ = some (.slice ad c.d.length cd) ∧ w'.cell? ⟨x, 6, none⟩ = some (.slice ab c.b.length cb)
theorem box_of {W : World} {x : Nat} {c : Cm} {ad ab : Option Addr} {cd cb : Nat} (h : W.heap[x]? = some (.cells (cmV c (.slice ad c.d.length cd) (.slice ab c.b.length cb)) 27 (0, 0))) : Box W x c ad cd ab cb := fun w' hb => by
  have h2 := (hb.block _ (lt_of_block h)).trans h
  exact ⟨cell_of h2 0, cell_of h2 1, cell_of h2 2, cell_of h2 3, cell_of h2 4, cell_of h2 5, cell_of h2 6⟩
set_option maxRecDepth 100000 in
set_option maxHeartbeats 16000000 in
theorem puts_law (c : Cm) (ad : Option Addr) (cd : Nat) (ab : Option Addr) (cb : Nat) (w : World) (hL : LsAt w c ad cd ab cb) (hc : c.ok) :
    Calls Try.prog 3 #[.agg (cmV c (.slice ad c.d.length cd) (.slice ab c.b.length cb))] w fun e w' => e = .returned (.bool true) ∧ Below w.heap.size w w' := by
  obtain ⟨W1, hW1⟩ : ∃ W1, W1 = w.alloc (.cells (cmV c (.slice ad c.d.length cd) (.slice ab c.b.length cb)) 27) := ⟨_, rfl⟩
  have A1 : Below w.heap.size w W1 := by rw [hW1]; exact Below.alloc (Below.refl _ _) (Nat.le_refl _) _
  have AW := Lib.hid A1
  have HX : W1.heap[w.heap.size]? = some (.cells (cmV c (.slice ad c.d.length cd) (.slice ab c.b.length cb)) 27 (0, 0)) := by rw [hW1]; exact block_new _ _
  have BX := Lib.hid (box_of HX)
  have HL1 := Lib.hid (hL.keep A1)
  have HW1 := Lib.hid hW1
  have HC := Lib.hid hc
  obtain ⟨x0, x1, x2, x3, x4, x5, x6⟩ := BX.out W1 (Below.refl _ _)
  by_cases hbad : 20000 < c.d.length ∨ 20000 < c.b.length
  · have W := Lib.hid (works_any W1)
    by_cases h1 : 20000 < c.d.length
    · have e1 : decide ((20000 : Int) < (c.d.length : Int)) = true := by simp; omega
      have e2 : decide (20000 < c.d.length) = true := by simp; omega
      clear hbad hL hc A1 hW1 HX
      generalize c.d.length = dl at *
      generalize c.b.length = bl at *
      unfold cmV at *
      go_enter Try.func3, Try.ntmps3
      go_wp2_with fail
      rw [← HW1.out]
      refine (W.out).mono ?_; rintro e w1 ⟨rfl, hb⟩
      have B := Lib.hid (AW.out.trans (hb.mono AW.out.size))
      clear hb
      go_wp2_with fail
      go_ret
      exact ⟨rfl, B.out⟩
    · have e1 : decide ((20000 : Int) < (c.d.length : Int)) = false := by simp; omega
      have e2 : decide (20000 < c.d.length) = false := by simp; omega
      have e3 : decide ((20000 : Int) < (c.b.length : Int)) = true := by simp; omega
      have e4 : decide (20000 < c.b.length) = true := by simp; omega
      clear hbad hL hc A1 hW1 HX
      generalize c.d.length = dl at *
      generalize c.b.length = bl at *
      unfold cmV at *
      go_enter Try.func3, Try.ntmps3
      go_wp2_with fail
      rw [← HW1.out]
      refine (W.out).mono ?_; rintro e w1 ⟨rfl, hb⟩
      have B := Lib.hid (AW.out.trans (hb.mono AW.out.size))
      clear hb
      go_wp2_with fail
      go_ret
      exact ⟨rfl, B.out⟩
  · have e1 : decide ((20000 : Int) < (c.d.length : Int)) = false := by simp; omega
    have e2 : decide (20000 < c.d.length) = false := by simp; omega
    have e3 : decide ((20000 : Int) < (c.b.length : Int)) = false := by simp; omega
    have e4 : decide (20000 < c.b.length) = false := by simp; omega
    have P1 := Lib.hid (fun w' hb => (pput (HL1.out.keep (w' := w') hb) HC.out (by omega) (by omega)).mono (fun e w'' h => put_sl h))
    have P2 := Lib.hid (fun w' hb => (rput (HL1.out.keep (w' := w') hb) HC.out (by omega) (by omega)).mono (fun e w'' h => put_sl h))
    have C1 := Lib.hid (fun w' => pcheck_c (w := w') (c := c) (ad := ad) (ab := ab) (cd := cd) (cb := cb) (by omega) (by omega))
    have C2 := Lib.hid (fun w' => rcheck (w := w') (c := c) (ad := ad) (ab := ab) (cd := cd) (cb := cb) (by omega) (by omega))
    clear hbad hL hc A1 hW1 HX
    unfold PutS at P1 P2
    generalize fr0 c = fr at *
    generalize chk c = ck at *
    unfold cmV at *
    go_enter Try.func3, Try.ntmps3
    go_wp2_with fail
    rw [← HW1.out]
    refine (P1.out _ (Below.refl _ _)).mono ?_; rintro e w2 ⟨a2, n2, c2, rfl, hs2, hb2⟩
    have S2 := Lib.hid hs2; have B2 := Lib.hid hb2
    have P2b := Lib.hid (P2.out _ hb2)
    clear x0 x1 x2 x3 x4 x5 x6 hs2 P1 P2 hb2
    obtain ⟨x0, x1, x2, x3, x4, x5, x6⟩ := BX.out w2 B2.out
    go_wp2_with fail
    refine (P2b.out).mono ?_; rintro e w3 ⟨a3, n3, c3, rfl, hs3, hb3⟩
    have B3 := Lib.hid (B2.out.trans (hb3.mono B2.out.size))
    have Q : Hid (∀ w', Below w3.heap.size w3 w' → Calls Try.prog 18 #[.slice a2 n2 c2, .slice a3 n3 c3] w' fun e w'' => e = .returned (.bool true) ∧ Below w'.heap.size w' w'') := Lib.hid (fun w' h => bytes_yes ((S2.out.below hb3).below h) (hs3.below h))
    clear x0 x1 x2 x3 x4 x5 x6 hs3 hb3 P2b
    obtain ⟨x0, x1, x2, x3, x4, x5, x6⟩ := BX.out w3 B3.out
    have BD : Hid (Below w3.heap.size w3 w3.drew) := Lib.hid (Below.drew (Below.refl _ _))
    have BC := Lib.hid (Below.drew B3.out)
    go_wp2_with fail
    go_region_with (first
      | (go_at_call 18; refine (Q.out _ BD.out).mono ?_; rintro e w4 ⟨rfl, hb⟩; have BC4 := Lib.hid (BC.out.trans (hb.mono BC.out.size)); clear BC x0 x1 x2 x3 x4 x5 x6; have BC := BC4; clear BC4 hb; obtain ⟨x0, x1, x2, x3, x4, x5, x6⟩ := BX.out _ BC.out)
      | (go_at_call 19; refine (C1.out _).mono ?_; rintro e w5 ⟨rfl, hb⟩; have BC5 := Lib.hid (BC.out.trans (hb.mono BC.out.size)); clear BC x0 x1 x2 x3 x4 x5 x6; have BC := BC5; clear BC5 hb; obtain ⟨x0, x1, x2, x3, x4, x5, x6⟩ := BX.out _ BC.out)
      | (go_at_call 20; refine (C2.out _).mono ?_; rintro e w6 ⟨rfl, hb⟩; have BC6 := Lib.hid (BC.out.trans (hb.mono BC.out.size)); clear BC x0 x1 x2 x3 x4 x5 x6; have BC := BC6; clear BC6 hb; obtain ⟨x0, x1, x2, x3, x4, x5, x6⟩ := BX.out _ BC.out)
      | (go_at_call 15; refine (works_any _).mono ?_; rintro e w7 ⟨rfl, hb⟩; have BC7 := Lib.hid (BC.out.trans (hb.mono BC.out.size)); clear BC x0 x1 x2 x3 x4 x5 x6; have BC := BC7; clear BC7 hb))
    all_goals
      go_wp2_with fail
      go_ret
      exact ⟨rfl, AW.out.trans (BC.out.mono AW.out.size)⟩
end Go.Proofs.Ythnoihdojinocaa

/- Contracts of the functions of package seepageref01 that the laws of layer 33 reach: Order, Add. -/
import Derived.Test.YtbmlkanonmooeaaT
namespace Go.Proofs.Ytbmlkanonmooeaa
open Go.ChangeShapes Go.WideShapes Go.ChangeAt Go.RowKit

theorem num_neg (s : Bool) (C : Nat → Int) : num (!s) C = - num s C := by unfold num; cases s <;> simp

set_option maxHeartbeats 1000000 in
theorem order_any (s1 s2 : Bool) (A1 B1 : Nat → Int) (w : World) (hA : Limbs A1) (hB : Limbs B1) (hsum : vl A1 6 + vl B1 6 < pw 6) :
    Calls Try.prog 37 #[.agg (wdc s1 A1), .agg (wdc s2 B1)] w fun e w' => e = .returned (.int .i64 (sgn (num s1 A1 - num s2 B1))) ∧ Below w.heap.size w w' := by
  have HA := Lib.hid hA; have HB := Lib.hid hB; have HS := Lib.hid hsum; clear hA hB hsum
  go_enter Try.func37, Try.ntmps37
  go_wp2
  obtain ⟨W, hW⟩ : ∃ W, W = (w.alloc (.cells (wdc s1 A1) 58)).alloc (.cells (wdc s2 B1) 58) := ⟨_, rfl⟩
  rw [← hW]
  have b0 : W.heap[w.heap.size]? = some (.cells (wdc s1 A1) 58 (0, 0)) := by rw [hW]; exact block_old (block_new _ _) _
  have b1 : W.heap[w.heap.size + 1]? = some (.cells (wdc s2 B1) 58 (0, 0)) := by
    rw [hW]; have := block_new (w.alloc (.cells (wdc s1 A1) 58)) (.cells (wdc s2 B1) 58); rw [World.size_alloc] at this; exact this
  have bW : Below w.heap.size w W := by rw [hW]; exact (Below.alloc (Below.refl _ _) (Nat.le_refl _) _).alloc (by simp) _
  clear hW
  obtain ⟨a0, a1, a2, a3, a4, a5, a6⟩ := w2_cells b0
  obtain ⟨c0, c1, c2, c3, c4, c5, c6⟩ := w2_cells b1
  have z1 := lt_of_block b1
  have HW := Lib.hid bW
  clear b0 b1 bW
  go_region_with (first
    | (go_at_call 43; refine (neg_any s2 B1 _).mono ?_; rintro e w3 ⟨rfl, hb3⟩; have h3 := Lib.hid hb3; obtain ⟨kc, kf⟩ := bcell hb3; have hs3 := hb3.size; simp only [World.size_drew] at kc kf hs3 h3; have y0 := (kc _ 0 (by omega)).trans a0; have y1 := (kc _ 1 (by omega)).trans a1; have y2 := (kc _ 2 (by omega)).trans a2; have y3 := (kc _ 3 (by omega)).trans a3; have y4 := (kc _ 4 (by omega)).trans a4; have y5 := (kc _ 5 (by omega)).trans a5; have y6 := (kc _ 6 (by omega)).trans a6; clear kc kf hb3)
    | (go_at_call 35; refine (plus_any s1 (!s2) A1 B1 _ HA.out HB.out HS.out).mono ?_; rintro e w4 ⟨s, C, hC, hn, rfl, hb4⟩; have h4 := Lib.hid hb4; have HC := Lib.hid hC; have HN := Lib.hid hn; clear hb4 hC hn)
    | (go_at_call 42; refine (sign_any s C _ HC.out).mono ?_; rintro e w5 ⟨rfl, hb5⟩; have h5 := Lib.hid hb5; clear hb5))
  all_goals
    go_wp2
    go_ret
    refine ⟨ret_int ?_, ?_⟩
    · rw [HN.out, num_neg]; rfl
    · have e1 := (Below.drew HW.out).trans (h3.out.mono HW.out.size)
      have e2 := e1.trans (h4.out.mono e1.size)
      exact e2.trans (h5.out.mono e2.size)
end Go.Proofs.Ytbmlkanonmooeaa

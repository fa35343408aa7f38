/- Contracts of the functions of package seepageref01 that the laws of layer 33 reach: sums of numbers of any sign. -/
import Derived.Test.YtbmlkanonmooeaaR
namespace Go.Proofs.Ytbmlkanonmooeaa
open Go.ChangeShapes Go.WideShapes Go.ChangeAt Go.RowKit

/-- The cells of two numbers lie in two blocks. -/
def W2 (B : Nat) (s1 s2 : Bool) (A1 B1 : Nat → Int) (w : World) : Prop :=
  w.heap[B]? = some (.cells (wdc s1 A1) 58 (0, 0)) ∧ w.heap[B + 1]? = some (.cells (wdc s2 B1) 58 (0, 0)) ∧ ∃ c, w.heap[B + 1 + 1]? = some (.cells c 58 (0, 0)) ∧ c.size = 7
theorem w2_cells {w : World} {b : Nat} {s : Bool} {A : Nat → Int} (h : w.heap[b]? = some (.cells (wdc s A) 58 (0, 0))) :
    w.cell? ⟨b, 0, none⟩ = some (.bool s) ∧ w.cell? ⟨b, 1, none⟩ = some (.int .u64 (A 0)) ∧ w.cell? ⟨b, 2, none⟩ = some (.int .u64 (A 1)) ∧ w.cell? ⟨b, 3, none⟩ = some (.int .u64 (A 2)) ∧ w.cell? ⟨b, 4, none⟩ = some (.int .u64 (A 3)) ∧ w.cell? ⟨b, 5, none⟩ = some (.int .u64 (A 4)) ∧ w.cell? ⟨b, 6, none⟩ = some (.int .u64 (A 5)) :=
  ⟨cell_of h 0, cell_of h 1, cell_of h 2, cell_of h 3, cell_of h 4, cell_of h 5, cell_of h 6⟩

theorem bcell {W w1 : World} (hb : Below W.heap.size W w1) : (∀ b o, b < W.heap.size → w1.cell? ⟨b, o, none⟩ = W.cell? ⟨b, o, none⟩) ∧ (∀ b o, b < W.heap.size → w1.frozen? ⟨b, o, none⟩ = W.frozen? ⟨b, o, none⟩) :=
  ⟨fun b o h => hb.cell (p := ⟨b, o, none⟩) h, fun b o h => hb.frozen (p := ⟨b, o, none⟩) h⟩

set_option maxHeartbeats 1000000 in
theorem plus_same (s : Bool) (A1 B1 : Nat → Int) (w : World) (hA : Limbs A1) (hB : Limbs B1) :
    Calls Try.prog 35 #[.agg (wdc s A1), .agg (wdc s B1)] w fun e w' => e = .returned (.agg (wdc s (dg A1 B1))) ∧ Below w.heap.size w w' := by
  have HA := Lib.hid hA; have HB := Lib.hid hB; clear hA hB
  go_enter Try.func35, Try.ntmps35
  go_wp2
  obtain ⟨W, hW⟩ : ∃ W, W = ((w.alloc (.cells (wdc s A1) 58)).alloc (.cells (wdc s B1) 58)).alloc (.cells (wdc false fun _ => 0) 58) := ⟨_, rfl⟩
  rw [← hW]
  have b0 : W.heap[w.heap.size]? = some (.cells (wdc s A1) 58 (0, 0)) := by rw [hW]; exact block_old (block_old (block_new _ _) _) _
  have b1 : W.heap[w.heap.size + 1]? = some (.cells (wdc s B1) 58 (0, 0)) := by
    rw [hW]; have := block_new (w.alloc (.cells (wdc s A1) 58)) (.cells (wdc s B1) 58); rw [World.size_alloc] at this; exact block_old this _
  have b2 : W.heap[w.heap.size + 1 + 1]? = some (.cells (wdc false fun _ => 0) 58 (0, 0)) := by
    rw [hW]; have := block_new ((w.alloc (.cells (wdc s A1) 58)).alloc (.cells (wdc s B1) 58)) (.cells (wdc false fun _ => 0) 58); rw [World.size_alloc, World.size_alloc] at this; exact this
  have bW : Below w.heap.size w W := by rw [hW]; exact ((Below.alloc (Below.refl _ _) (Nat.le_refl _) _).alloc (by simp) _).alloc (by simp; omega) _
  clear hW
  have H0 := Lib.hid b0; have H1 := Lib.hid b1; have H2 := Lib.hid b2; have HW := Lib.hid bW
  obtain ⟨a0, a1, a2, a3, a4, a5, a6⟩ := w2_cells b0
  obtain ⟨c0, c1, c2, c3, c4, c5, c6⟩ := w2_cells b1
  have z2 := lt_of_block b2
  obtain ⟨r0, r1, r2, r3, r4, r5, r6⟩ := w2_cells b2
  obtain ⟨f0, f1, f2, f3, f4, f5, f6⟩ := arr_free b2
  clear b0 b1 b2 bW
  go_region_with (first | (go_at_call 39; refine (more_any A1 B1 _ HA.out HB.out).mono ?_; rintro e w3 ⟨rfl, hb3⟩; have h3 := Lib.hid hb3; obtain ⟨kc, kf⟩ := bcell hb3; have hs3 := hb3.size; simp only [World.size_drew] at kc kf hs3 h3; have y0 := (kc _ 0 (by omega)).trans a0; have t0 := (kc _ 0 z2).trans r0; have t1 := (kc _ 1 z2).trans r1; have t2 := (kc _ 2 z2).trans r2; have t3 := (kc _ 3 z2).trans r3; have t4 := (kc _ 4 z2).trans r4; have t5 := (kc _ 5 z2).trans r5; have t6 := (kc _ 6 z2).trans r6; have g0 := (kf _ 0 z2).trans f0; have g1 := (kf _ 1 z2).trans f1; have g2 := (kf _ 2 z2).trans f2; have g3 := (kf _ 3 z2).trans f3; have g4 := (kf _ 4 z2).trans f4; have g5 := (kf _ 5 z2).trans f5; have g6 := (kf _ 6 z2).trans f6; clear kc kf hb3))
  all_goals
    go_wp2
    refine bodyPost_ret (v := .agg (wdc s (dg A1 B1))) (by simp [results, Try.results35, go_sem, *]) rfl ⟨rfl, ?_⟩
    have hb := (Below.drew HW.out).trans (h3.out.mono HW.out.size)
    exact ((((((hb.setCell (by simp; omega) _).setCell (by simp; omega) _).setCell (by simp; omega) _).setCell (by simp; omega) _).setCell (by simp; omega) _).setCell (by simp; omega) _).setCell (by simp; omega) _
set_option maxHeartbeats 1000000 in
theorem plus_ge (s : Bool) (A1 B1 : Nat → Int) (w : World) (hA : Limbs A1) (hB : Limbs B1) (hcmp : vl B1 6 ≤ vl A1 6) :
    Calls Try.prog 35 #[.agg (wdc s A1), .agg (wdc (!s) B1)] w fun e w' => e = .returned (.agg (wdc (s) (df A1 B1))) ∧ Below w.heap.size w w' := by
  have HA := Lib.hid hA; have HB := Lib.hid hB; clear hA hB
  have hs : (s == !s) = false := by cases s <;> rfl
  have hz : 0 ≤ szr A1 B1 := by unfold szr; rw [if_neg (by omega)]; split <;> omega
  clear hcmp
  go_enter Try.func35, Try.ntmps35
  go_wp2_with fail
  obtain ⟨W, hW⟩ : ∃ W, W = ((w.alloc (.cells (wdc s A1) 58)).alloc (.cells (wdc (!s) B1) 58)).alloc (.cells (wdc false fun _ => 0) 58) := ⟨_, rfl⟩
  rw [← hW]
  have b0 : W.heap[w.heap.size]? = some (.cells (wdc s A1) 58 (0, 0)) := by rw [hW]; exact block_old (block_old (block_new _ _) _) _
  have b1 : W.heap[w.heap.size + 1]? = some (.cells (wdc (!s) B1) 58 (0, 0)) := by
    rw [hW]; have := block_new (w.alloc (.cells (wdc s A1) 58)) (.cells (wdc (!s) B1) 58); rw [World.size_alloc] at this; exact block_old this _
  have b2 : W.heap[w.heap.size + 1 + 1]? = some (.cells (wdc false fun _ => 0) 58 (0, 0)) := by
    rw [hW]; have := block_new ((w.alloc (.cells (wdc s A1) 58)).alloc (.cells (wdc (!s) B1) 58)) (.cells (wdc false fun _ => 0) 58); rw [World.size_alloc, World.size_alloc] at this; exact this
  have bW : Below w.heap.size w W := by rw [hW]; exact ((Below.alloc (Below.refl _ _) (Nat.le_refl _) _).alloc (by simp) _).alloc (by simp; omega) _
  clear hW
  have H0 := Lib.hid b0; have H1 := Lib.hid b1; have H2 := Lib.hid b2; have HW := Lib.hid bW
  obtain ⟨a0, a1, a2, a3, a4, a5, a6⟩ := w2_cells b0
  obtain ⟨c0, c1, c2, c3, c4, c5, c6⟩ := w2_cells b1
  have z2 := lt_of_block b2
  obtain ⟨r0, r1, r2, r3, r4, r5, r6⟩ := w2_cells b2
  obtain ⟨f0, f1, f2, f3, f4, f5, f6⟩ := arr_free b2
  go_wp2_with fail
  refine (size_any A1 B1 _ HA.out HB.out).mono ?_
  rintro e w2 ⟨rfl, hb2⟩
  have bW2 := bW.trans (hb2.mono bW.size)
  have b0' := (hb2.block _ (lt_of_block b0)).trans b0
  have b1' := (hb2.block _ (lt_of_block b1)).trans b1
  have b2' := (hb2.block _ (lt_of_block b2)).trans b2
  clear a0 a1 a2 a3 a4 a5 a6 c0 c1 c2 c3 c4 c5 c6 z2 r0 r1 r2 r3 r4 r5 r6 f0 f1 f2 f3 f4 f5 f6 H0 H1 H2 HW
  clear bW b0 b1 b2 hb2
  obtain ⟨a0, a1, a2, a3, a4, a5, a6⟩ := w2_cells b0'
  obtain ⟨c0, c1, c2, c3, c4, c5, c6⟩ := w2_cells b1'
  obtain ⟨r0, r1, r2, r3, r4, r5, r6⟩ := w2_cells b2'
  obtain ⟨f0, f1, f2, f3, f4, f5, f6⟩ := arr_free b2'
  have z2 := lt_of_block b2'
  have HW := Lib.hid bW2
  clear bW2 b0' b1' b2'
  go_wp2_with fail
  go_region_with (first | (go_at_call 41; refine (less_any A1 B1 _ HA.out HB.out).mono ?_; rintro e w3 ⟨rfl, hb3⟩; have h3 := Lib.hid hb3; obtain ⟨kc, kf⟩ := bcell hb3; have hs3 := hb3.size; simp only [World.size_drew] at kc kf hs3 h3; have y0 := (kc _ 0 (by omega)).trans a0; have t0 := (kc _ 0 z2).trans r0; have t1 := (kc _ 1 z2).trans r1; have t2 := (kc _ 2 z2).trans r2; have t3 := (kc _ 3 z2).trans r3; have t4 := (kc _ 4 z2).trans r4; have t5 := (kc _ 5 z2).trans r5; have t6 := (kc _ 6 z2).trans r6; have g0 := (kf _ 0 z2).trans f0; have g1 := (kf _ 1 z2).trans f1; have g2 := (kf _ 2 z2).trans f2; have g3 := (kf _ 3 z2).trans f3; have g4 := (kf _ 4 z2).trans f4; have g5 := (kf _ 5 z2).trans f5; have g6 := (kf _ 6 z2).trans f6; clear kc kf hb3))
  all_goals
    go_wp2
    refine bodyPost_ret (v := .agg (wdc (s) (df A1 B1))) (by simp [results, Try.results35, go_sem, *]) rfl ⟨rfl, ?_⟩
    have hb := (Below.drew HW.out).trans (h3.out.mono HW.out.size)
    exact ((((((hb.setCell (by simp; omega) _).setCell (by simp; omega) _).setCell (by simp; omega) _).setCell (by simp; omega) _).setCell (by simp; omega) _).setCell (by simp; omega) _).setCell (by simp; omega) _
set_option maxHeartbeats 1000000 in
theorem plus_lt (s : Bool) (A1 B1 : Nat → Int) (w : World) (hA : Limbs A1) (hB : Limbs B1) (hcmp : vl A1 6 < vl B1 6) :
    Calls Try.prog 35 #[.agg (wdc s A1), .agg (wdc (!s) B1)] w fun e w' => e = .returned (.agg (wdc (!s) (df B1 A1))) ∧ Below w.heap.size w w' := by
  have HA := Lib.hid hA; have HB := Lib.hid hB; clear hA hB
  have hs : (s == !s) = false := by cases s <;> rfl
  have hz : szr A1 B1 < 0 := by unfold szr; rw [if_pos hcmp]; omega
  clear hcmp
  go_enter Try.func35, Try.ntmps35
  go_wp2_with fail
  obtain ⟨W, hW⟩ : ∃ W, W = ((w.alloc (.cells (wdc s A1) 58)).alloc (.cells (wdc (!s) B1) 58)).alloc (.cells (wdc false fun _ => 0) 58) := ⟨_, rfl⟩
  rw [← hW]
  have b0 : W.heap[w.heap.size]? = some (.cells (wdc s A1) 58 (0, 0)) := by rw [hW]; exact block_old (block_old (block_new _ _) _) _
  have b1 : W.heap[w.heap.size + 1]? = some (.cells (wdc (!s) B1) 58 (0, 0)) := by
    rw [hW]; have := block_new (w.alloc (.cells (wdc s A1) 58)) (.cells (wdc (!s) B1) 58); rw [World.size_alloc] at this; exact block_old this _
  have b2 : W.heap[w.heap.size + 1 + 1]? = some (.cells (wdc false fun _ => 0) 58 (0, 0)) := by
    rw [hW]; have := block_new ((w.alloc (.cells (wdc s A1) 58)).alloc (.cells (wdc (!s) B1) 58)) (.cells (wdc false fun _ => 0) 58); rw [World.size_alloc, World.size_alloc] at this; exact this
  have bW : Below w.heap.size w W := by rw [hW]; exact ((Below.alloc (Below.refl _ _) (Nat.le_refl _) _).alloc (by simp) _).alloc (by simp; omega) _
  clear hW
  have H0 := Lib.hid b0; have H1 := Lib.hid b1; have H2 := Lib.hid b2; have HW := Lib.hid bW
  obtain ⟨a0, a1, a2, a3, a4, a5, a6⟩ := w2_cells b0
  obtain ⟨c0, c1, c2, c3, c4, c5, c6⟩ := w2_cells b1
  have z2 := lt_of_block b2
  obtain ⟨r0, r1, r2, r3, r4, r5, r6⟩ := w2_cells b2
  obtain ⟨f0, f1, f2, f3, f4, f5, f6⟩ := arr_free b2
  go_wp2_with fail
  refine (size_any A1 B1 _ HA.out HB.out).mono ?_
  rintro e w2 ⟨rfl, hb2⟩
  have bW2 := bW.trans (hb2.mono bW.size)
  have b0' := (hb2.block _ (lt_of_block b0)).trans b0
  have b1' := (hb2.block _ (lt_of_block b1)).trans b1
  have b2' := (hb2.block _ (lt_of_block b2)).trans b2
  clear a0 a1 a2 a3 a4 a5 a6 c0 c1 c2 c3 c4 c5 c6 z2 r0 r1 r2 r3 r4 r5 r6 f0 f1 f2 f3 f4 f5 f6 H0 H1 H2 HW
  clear bW b0 b1 b2 hb2
  obtain ⟨a0, a1, a2, a3, a4, a5, a6⟩ := w2_cells b0'
  obtain ⟨c0, c1, c2, c3, c4, c5, c6⟩ := w2_cells b1'
  obtain ⟨r0, r1, r2, r3, r4, r5, r6⟩ := w2_cells b2'
  obtain ⟨f0, f1, f2, f3, f4, f5, f6⟩ := arr_free b2'
  have z2 := lt_of_block b2'
  have HW := Lib.hid bW2
  clear bW2 b0' b1' b2'
  go_wp2_with fail
  go_region_with (first | (go_at_call 41; refine (less_any B1 A1 _ HB.out HA.out).mono ?_; rintro e w3 ⟨rfl, hb3⟩; have h3 := Lib.hid hb3; obtain ⟨kc, kf⟩ := bcell hb3; have hs3 := hb3.size; simp only [World.size_drew] at kc kf hs3 h3; have y0 := (kc _ 0 (by omega)).trans c0; have t0 := (kc _ 0 z2).trans r0; have t1 := (kc _ 1 z2).trans r1; have t2 := (kc _ 2 z2).trans r2; have t3 := (kc _ 3 z2).trans r3; have t4 := (kc _ 4 z2).trans r4; have t5 := (kc _ 5 z2).trans r5; have t6 := (kc _ 6 z2).trans r6; have g0 := (kf _ 0 z2).trans f0; have g1 := (kf _ 1 z2).trans f1; have g2 := (kf _ 2 z2).trans f2; have g3 := (kf _ 3 z2).trans f3; have g4 := (kf _ 4 z2).trans f4; have g5 := (kf _ 5 z2).trans f5; have g6 := (kf _ 6 z2).trans f6; clear kc kf hb3))
  all_goals
    go_wp2
    refine bodyPost_ret (v := .agg (wdc (!s) (df B1 A1))) (by simp [results, Try.results35, go_sem, *]) rfl ⟨rfl, ?_⟩
    have hb := (Below.drew HW.out).trans (h3.out.mono HW.out.size)
    exact ((((((hb.setCell (by simp; omega) _).setCell (by simp; omega) _).setCell (by simp; omega) _).setCell (by simp; omega) _).setCell (by simp; omega) _).setCell (by simp; omega) _).setCell (by simp; omega) _
end Go.Proofs.Ytbmlkanonmooeaa

/- Clamp of the document. -/
import Derived.Test.YtabihdhgonnihaaDoorZx
namespace Go.Proofs.YtabihdhgonnihaaDoor
open Go.ChangeShapes Go.WideShapes Go.ChangeAt Go.RowKit
set_option linter.unusedVariables false
set_option linter.unusedSimpArgs false

structure RcB (w : World) (g k : Nat) (f : Cf) (wr : World) : Prop where
  fi : FiB w g k f wr
  out : wr.heap[w.heap.size + 1]? = some (.cells #[.int .i64 0, .int .i64 0, .int .i64 0, .int .i64 0] 25 (0, 0))
theorem RcB.drew {w : World} {g k : Nat} {f : Cf} {wr : World} (h : RcB w g k f wr) : RcB w g k f wr.drew := ⟨h.fi.drew, h.out⟩
theorem RcB.drewN {w : World} {g k : Nat} {f : Cf} {wr : World} (h : RcB w g k f wr) (n : Nat) : RcB w g k f (wr.drewN n) := ⟨h.fi.drewN n, h.out⟩
theorem RcB.set {w : World} {g k : Nat} {f : Cf} {wr : World} (h : RcB w g k f wr) (hg : w.heap.size + 1 < g) (hk : g < k) {i : Nat} (hi : i < 4) (x : Int) : RcB w g k (f.put i x) (wr.setCell ⟨g, i, none⟩ (.int .i64 x)) := by
  have h2 := set_of h.fi.f i (.int .i64 x)
  have h3 : (#[.int .i64 f.a, .int .i64 f.b, .int .i64 f.c, .int .i64 f.d] : Array Value).setIfInBounds i (.int .i64 x) = #[.int .i64 (f.put i x).a, .int .i64 (f.put i x).b, .int .i64 (f.put i x).c, .int .i64 (f.put i x).d] := by
    have h4 : i = 0 ∨ i = 1 ∨ i = 2 ∨ i = 3 := by omega
    rcases h4 with rfl | rfl | rfl | rfl <;> rfl
  rw [h3] at h2
  exact ⟨⟨h2, block_set h.fi.r (by show k ≠ g; omega) _, h.fi.below.setCell (by show w.heap.size ≤ g; omega) _⟩, block_set h.out (by show w.heap.size + 1 ≠ g; omega) _⟩
theorem half_put (f : Cf) {i : Nat} (hi : i < 4) : (half f i).put i (clampf f i) = half f (i + 1) := by
  have h4 : i = 0 ∨ i = 1 ∨ i = 2 ∨ i = 3 := by omega
  rcases h4 with rfl | rfl | rfl | rfl <;> simp [half, Cf.put]
theorem put_at (f : Cf) {i : Nat} (hi : i < 4) : f.put i (f.at i) = f := by
  have h4 : i = 0 ∨ i = 1 ∨ i = 2 ∨ i = 3 := by omega
  obtain ⟨a, b, c, d⟩ := f
  rcases h4 with rfl | rfl | rfl | rfl <;> rfl
set_option maxRecDepth 100000 in
set_option maxHeartbeats 16000000 in
theorem rclamp (f : Cf) (hf : f.ok) (w : World) : Calls Tryd.prog 35 #[.agg #[.int .i64 f.a, .int .i64 f.b, .int .i64 f.c, .int .i64 f.d]] w fun e w' => e = .returned (.agg #[.int .i64 (clamp f).a, .int .i64 (clamp f).b, .int .i64 (clamp f).c, .int .i64 (clamp f).d]) ∧ Below w.heap.size w w' := by
  have HF := Lib.hid hf
  have A : Hid (Below w.heap.size w ((w.alloc (.cells #[.int .i64 f.a, .int .i64 f.b, .int .i64 f.c, .int .i64 f.d] 25)).alloc (.cells #[.int .i64 0, .int .i64 0, .int .i64 0, .int .i64 0] 25))) := Lib.hid ((new25 w f).alloc (by simp) _)
  have X : Hid (((w.alloc (.cells #[.int .i64 f.a, .int .i64 f.b, .int .i64 f.c, .int .i64 f.d] 25)).alloc (.cells #[.int .i64 0, .int .i64 0, .int .i64 0, .int .i64 0] 25)).heap[w.heap.size + 1]? = some (.cells #[.int .i64 0, .int .i64 0, .int .i64 0, .int .i64 0] 25 (0, 0))) := Lib.hid (by
    have := block_new (w.alloc (.cells #[.int .i64 f.a, .int .i64 f.b, .int .i64 f.c, .int .i64 f.d] 25)) (.cells #[.int .i64 0, .int .i64 0, .int .i64 0, .int .i64 0] 25)
    rwa [show (w.alloc (.cells #[.int .i64 f.a, .int .i64 f.b, .int .i64 f.c, .int .i64 f.d] 25)).heap.size = w.heap.size + 1 by simp] at this)
  have P2 := Lib.hid (rfields f ((w.alloc (.cells #[.int .i64 f.a, .int .i64 f.b, .int .i64 f.c, .int .i64 f.d] 25)).alloc (.cells #[.int .i64 0, .int .i64 0, .int .i64 0, .int .i64 0] 25)))
  have P3 := Lib.hid (fun w' => rrows w')
  obtain ⟨W0, hW0⟩ : ∃ W0, W0 = ((w.alloc (.cells #[.int .i64 f.a, .int .i64 f.b, .int .i64 f.c, .int .i64 f.d] 25)).alloc (.cells #[.int .i64 0, .int .i64 0, .int .i64 0, .int .i64 0] 25)) := ⟨_, rfl⟩
  have HZ : Hid (W0.heap.size = w.heap.size + 2) := Lib.hid (by rw [hW0]; simp)
  have HW0 := Lib.hid hW0
  rw [← hW0] at A X P2
  clear hf hW0
  go_enter Tryd.func35, Tryd.ntmps35
  go_wp2_with fail
  rw [← HW0.out]
  refine (P2.out).mono ?_; rintro e w2 ⟨rfl, hw2⟩
  have X2 : Hid (w2.heap[W0.heap.size + 1]? = some (.cells #[.int .i64 f.a, .int .i64 f.b, .int .i64 f.c, .int .i64 f.d] 2 (0, 0))) := Lib.hid (by
    rw [hw2]
    have := block_new (W0.alloc (.cells #[.int .i64 f.a, .int .i64 f.b, .int .i64 f.c, .int .i64 f.d] 25)) (.cells #[.int .i64 f.a, .int .i64 f.b, .int .i64 f.c, .int .i64 f.d] 2)
    rwa [show (W0.alloc (.cells #[.int .i64 f.a, .int .i64 f.b, .int .i64 f.c, .int .i64 f.d] 25)).heap.size = W0.heap.size + 1 by simp] at this)
  have Y2 : Hid (w2.heap[w.heap.size + 1]? = some (.cells #[.int .i64 0, .int .i64 0, .int .i64 0, .int .i64 0] 25 (0, 0))) := Lib.hid (by rw [hw2]; exact block_old (block_old X.out _) _)
  have B2 : Hid (Below w.heap.size w w2) := Lib.hid (by rw [hw2]; exact (A.out.alloc A.out.size _).alloc (by have := A.out.size; simp; omega) _)
  have Z2 : Hid (W0.heap.size + 1 < w2.heap.size) := Lib.hid (lt_of_block X2.out)
  have Q3 := Lib.hid (P3.out w2)
  clear hw2 P2 P3 A X
  go_wp2_with fail
  refine (Q3.out).mono ?_; rintro e w3 ⟨rfl, hw3⟩
  have RB : Hid (RcB w (W0.heap.size + 1) w2.heap.size (half f 0) w3) := Lib.hid (by
    rw [hw3, show half f 0 = f by simp [half]]
    exact ⟨⟨block_old X2.out _, block_new _ _, B2.out.alloc B2.out.size _⟩, block_old Y2.out _⟩)
  have HG : Hid (w.heap.size + 1 < W0.heap.size + 1 ∧ W0.heap.size + 1 < w2.heap.size) := Lib.hid ⟨by have := HZ.out; omega, Z2.out⟩
  clear hw3 Q3 X2 Y2 B2 Z2 HZ HW0
  go_wp2_with fail
  generalize W0.heap.size + 1 = g at *
  generalize w2.heap.size = k at *
  go_loopw [5] (fun v5 wr => ∃ (i : Nat) (z : Int), i ≤ 4 ∧ v5 = .int .i64 z ∧ z = (i : Int) ∧ RcB w g k (half f i) wr) (fun v5 _ => 4 - (intOf v5).toNat)
  case atStart => exact ⟨0, 0, by omega, rfl, rfl, RB.out⟩
  case round =>
    obtain ⟨i, z, hi4, rfl, hz, hb⟩ := hrel
    have GB := Lib.hid hb
    have h5 : i = 0 ∨ i = 1 ∨ i = 2 ∨ i = 3 ∨ i = 4 := by omega
    clear hi4 hb RB
    rcases h5 with rfl | rfl | rfl | rfl | rfl
    · obtain rfl : z = 0 := by omega
      clear hz
      have HV : Hid ((half f 0).a = f.a) := Lib.hid (by simp [half])
      have HC : Hid (clampf f 0 = min (max f.a 1) 9223372036854775807) := Lib.hid rfl
      have HP : Hid ((half f 0).put 0 (clampf f 0) = half f (0 + 1)) := Lib.hid (half_put f (by omega))
      have HA : Hid (-9223372036854775808 ≤ f.a ∧ f.a ≤ 9223372036854775807) := Lib.hid ⟨HF.out.a0, HF.out.a1⟩
      have HS : Hid ((half f 0).put 0 (half f 0).a = half f 0) := Lib.hid (put_at (half f 0) (by omega))
      have c1 : wr.cell? ⟨g, 0, none⟩ = some (.int .i64 f.a) := by rw [← HV.out]; exact cell_of GB.out.fi.f 0
      have c2 : wr.cell? ⟨k, 1, none⟩ = some (.int .i64 1) := cell_of GB.out.fi.r 1
      have c3 : wr.cell? ⟨k, 2, none⟩ = some (.int .i64 9223372036854775807) := cell_of GB.out.fi.r 2
      have c4 : wr.frozen? ⟨g, 0, none⟩ = false := free_of GB.out.fi.f 0
      have l1 := lt_of_block GB.out.fi.f
      have l2 := lt_of_block GB.out.fi.r
      have hne : ¬ k = g := by have := HG.out.2; omega
      have hne2 : ¬ g = k := by have := HG.out.2; omega
      generalize half f 0 = hf at *
      generalize clampf f 0 = cl at *
      generalize f.a = x at *
      by_cases h1 : x < 1
      · have e1 : decide (x < 1) = true := by simpa using h1
        have HR : Hid (∀ n m, RcB w g k (half f (0 + 1)) (((wr.drewN n).setCell ⟨g, 0, none⟩ (.int .i64 1)).drewN m)) := Lib.hid (fun n m => by
          have : cl = 1 := by rw [HC.out]; omega
          rw [← HP.out, this]
          exact (((GB.out.drewN n).set HG.out.1 HG.out.2 (by omega) 1)).drewN m)
        clear h1
        go_wp2_with fail
        go_quiet (fail)
        go_wp2_with fail
        go_quiet (fail)
        go_wp2_with fail
        go_roundw
        case rel => exact ⟨0 + 1, _, by omega, rfl, by omega, (by first | exact HR.out _ _ | exact HR.out _)⟩
        case measure => simp [intOf]
      · have e1 : decide (x < 1) = false := by simpa using h1
        by_cases h2 : 9223372036854775807 < x
        · have e2 : decide (9223372036854775807 < x) = true := by simpa using h2
          have HR : Hid (∀ n, RcB w g k (half f (0 + 1)) ((wr.drewN n).setCell ⟨g, 0, none⟩ (.int .i64 9223372036854775807))) := Lib.hid (fun n => by
            have : cl = 9223372036854775807 := by rw [HC.out]; omega
            rw [← HP.out, this]
            exact ((GB.out.drewN n).set HG.out.1 HG.out.2 (by omega) 9223372036854775807))
          clear h1 h2
          go_wp2_with fail
          go_quiet (fail)
          go_wp2_with fail
          go_quiet (fail)
          go_wp2_with fail
          go_roundw
          case rel => exact ⟨0 + 1, _, by omega, rfl, by omega, (by first | exact HR.out _ _ | exact HR.out _)⟩
          case measure => simp [intOf]
        · have e2 : decide (9223372036854775807 < x) = false := by simpa using h2
          have HR : Hid (∀ n, RcB w g k (half f (0 + 1)) (wr.drewN n)) := Lib.hid (fun n => by
            have : cl = hf.a := by rw [HC.out, HV.out]; omega
            rw [← HP.out, this, HS.out]
            exact GB.out.drewN n)
          clear h1 h2
          go_wp2_with fail
          go_quiet (fail)
          go_wp2_with fail
          go_quiet (fail)
          go_wp2_with fail
          go_roundw
          case rel => exact ⟨0 + 1, _, by omega, rfl, by omega, (by first | exact HR.out _ _ | exact HR.out _)⟩
          case measure => simp [intOf]
    · obtain rfl : z = 1 := by omega
      clear hz
      have HV : Hid ((half f 1).b = f.b) := Lib.hid (by simp [half])
      have HC : Hid (clampf f 1 = min (max f.b 1) 16384) := Lib.hid rfl
      have HP : Hid ((half f 1).put 1 (clampf f 1) = half f (1 + 1)) := Lib.hid (half_put f (by omega))
      have HA : Hid (-9223372036854775808 ≤ f.b ∧ f.b ≤ 9223372036854775807) := Lib.hid ⟨HF.out.b0, HF.out.b1⟩
      have HS : Hid ((half f 1).put 1 (half f 1).b = half f 1) := Lib.hid (put_at (half f 1) (by omega))
      have c1 : wr.cell? ⟨g, 1, none⟩ = some (.int .i64 f.b) := by rw [← HV.out]; exact cell_of GB.out.fi.f 1
      have c2 : wr.cell? ⟨k, 4, none⟩ = some (.int .i64 1) := cell_of GB.out.fi.r 4
      have c3 : wr.cell? ⟨k, 5, none⟩ = some (.int .i64 16384) := cell_of GB.out.fi.r 5
      have c4 : wr.frozen? ⟨g, 1, none⟩ = false := free_of GB.out.fi.f 1
      have l1 := lt_of_block GB.out.fi.f
      have l2 := lt_of_block GB.out.fi.r
      have hne : ¬ k = g := by have := HG.out.2; omega
      have hne2 : ¬ g = k := by have := HG.out.2; omega
      generalize half f 1 = hf at *
      generalize clampf f 1 = cl at *
      generalize f.b = x at *
      by_cases h1 : x < 1
      · have e1 : decide (x < 1) = true := by simpa using h1
        have HR : Hid (∀ n m, RcB w g k (half f (1 + 1)) (((wr.drewN n).setCell ⟨g, 1, none⟩ (.int .i64 1)).drewN m)) := Lib.hid (fun n m => by
          have : cl = 1 := by rw [HC.out]; omega
          rw [← HP.out, this]
          exact (((GB.out.drewN n).set HG.out.1 HG.out.2 (by omega) 1)).drewN m)
        clear h1
        go_wp2_with fail
        go_quiet (fail)
        go_wp2_with fail
        go_quiet (fail)
        go_wp2_with fail
        go_roundw
        case rel => exact ⟨1 + 1, _, by omega, rfl, by omega, (by first | exact HR.out _ _ | exact HR.out _)⟩
        case measure => simp [intOf]
      · have e1 : decide (x < 1) = false := by simpa using h1
        by_cases h2 : 16384 < x
        · have e2 : decide (16384 < x) = true := by simpa using h2
          have HR : Hid (∀ n, RcB w g k (half f (1 + 1)) ((wr.drewN n).setCell ⟨g, 1, none⟩ (.int .i64 16384))) := Lib.hid (fun n => by
            have : cl = 16384 := by rw [HC.out]; omega
            rw [← HP.out, this]
            exact ((GB.out.drewN n).set HG.out.1 HG.out.2 (by omega) 16384))
          clear h1 h2
          go_wp2_with fail
          go_quiet (fail)
          go_wp2_with fail
          go_quiet (fail)
          go_wp2_with fail
          go_roundw
          case rel => exact ⟨1 + 1, _, by omega, rfl, by omega, (by first | exact HR.out _ _ | exact HR.out _)⟩
          case measure => simp [intOf]
        · have e2 : decide (16384 < x) = false := by simpa using h2
          have HR : Hid (∀ n, RcB w g k (half f (1 + 1)) (wr.drewN n)) := Lib.hid (fun n => by
            have : cl = hf.b := by rw [HC.out, HV.out]; omega
            rw [← HP.out, this, HS.out]
            exact GB.out.drewN n)
          clear h1 h2
          go_wp2_with fail
          go_quiet (fail)
          go_wp2_with fail
          go_quiet (fail)
          go_wp2_with fail
          go_roundw
          case rel => exact ⟨1 + 1, _, by omega, rfl, by omega, (by first | exact HR.out _ _ | exact HR.out _)⟩
          case measure => simp [intOf]
    · obtain rfl : z = 2 := by omega
      clear hz
      have HV : Hid ((half f 2).c = f.c) := Lib.hid (by simp [half])
      have HC : Hid (clampf f 2 = min (max f.c 2) 4096) := Lib.hid rfl
      have HP : Hid ((half f 2).put 2 (clampf f 2) = half f (2 + 1)) := Lib.hid (half_put f (by omega))
      have HA : Hid (-9223372036854775808 ≤ f.c ∧ f.c ≤ 9223372036854775807) := Lib.hid ⟨HF.out.c0, HF.out.c1⟩
      have HS : Hid ((half f 2).put 2 (half f 2).c = half f 2) := Lib.hid (put_at (half f 2) (by omega))
      have c1 : wr.cell? ⟨g, 2, none⟩ = some (.int .i64 f.c) := by rw [← HV.out]; exact cell_of GB.out.fi.f 2
      have c2 : wr.cell? ⟨k, 7, none⟩ = some (.int .i64 2) := cell_of GB.out.fi.r 7
      have c3 : wr.cell? ⟨k, 8, none⟩ = some (.int .i64 4096) := cell_of GB.out.fi.r 8
      have c4 : wr.frozen? ⟨g, 2, none⟩ = false := free_of GB.out.fi.f 2
      have l1 := lt_of_block GB.out.fi.f
      have l2 := lt_of_block GB.out.fi.r
      have hne : ¬ k = g := by have := HG.out.2; omega
      have hne2 : ¬ g = k := by have := HG.out.2; omega
      generalize half f 2 = hf at *
      generalize clampf f 2 = cl at *
      generalize f.c = x at *
      by_cases h1 : x < 2
      · have e1 : decide (x < 2) = true := by simpa using h1
        have HR : Hid (∀ n m, RcB w g k (half f (2 + 1)) (((wr.drewN n).setCell ⟨g, 2, none⟩ (.int .i64 2)).drewN m)) := Lib.hid (fun n m => by
          have : cl = 2 := by rw [HC.out]; omega
          rw [← HP.out, this]
          exact (((GB.out.drewN n).set HG.out.1 HG.out.2 (by omega) 2)).drewN m)
        clear h1
        go_wp2_with fail
        go_quiet (fail)
        go_wp2_with fail
        go_quiet (fail)
        go_wp2_with fail
        go_roundw
        case rel => exact ⟨2 + 1, _, by omega, rfl, by omega, (by first | exact HR.out _ _ | exact HR.out _)⟩
        case measure => simp [intOf]
      · have e1 : decide (x < 2) = false := by simpa using h1
        by_cases h2 : 4096 < x
        · have e2 : decide (4096 < x) = true := by simpa using h2
          have HR : Hid (∀ n, RcB w g k (half f (2 + 1)) ((wr.drewN n).setCell ⟨g, 2, none⟩ (.int .i64 4096))) := Lib.hid (fun n => by
            have : cl = 4096 := by rw [HC.out]; omega
            rw [← HP.out, this]
            exact ((GB.out.drewN n).set HG.out.1 HG.out.2 (by omega) 4096))
          clear h1 h2
          go_wp2_with fail
          go_quiet (fail)
          go_wp2_with fail
          go_quiet (fail)
          go_wp2_with fail
          go_roundw
          case rel => exact ⟨2 + 1, _, by omega, rfl, by omega, (by first | exact HR.out _ _ | exact HR.out _)⟩
          case measure => simp [intOf]
        · have e2 : decide (4096 < x) = false := by simpa using h2
          have HR : Hid (∀ n, RcB w g k (half f (2 + 1)) (wr.drewN n)) := Lib.hid (fun n => by
            have : cl = hf.c := by rw [HC.out, HV.out]; omega
            rw [← HP.out, this, HS.out]
            exact GB.out.drewN n)
          clear h1 h2
          go_wp2_with fail
          go_quiet (fail)
          go_wp2_with fail
          go_quiet (fail)
          go_wp2_with fail
          go_roundw
          case rel => exact ⟨2 + 1, _, by omega, rfl, by omega, (by first | exact HR.out _ _ | exact HR.out _)⟩
          case measure => simp [intOf]
    · obtain rfl : z = 3 := by omega
      clear hz
      have HV : Hid ((half f 3).d = f.d) := Lib.hid (by simp [half])
      have HC : Hid (clampf f 3 = min (max f.d 0) 16384) := Lib.hid rfl
      have HP : Hid ((half f 3).put 3 (clampf f 3) = half f (3 + 1)) := Lib.hid (half_put f (by omega))
      have HA : Hid (-9223372036854775808 ≤ f.d ∧ f.d ≤ 9223372036854775807) := Lib.hid ⟨HF.out.d0, HF.out.d1⟩
      have HS : Hid ((half f 3).put 3 (half f 3).d = half f 3) := Lib.hid (put_at (half f 3) (by omega))
      have c1 : wr.cell? ⟨g, 3, none⟩ = some (.int .i64 f.d) := by rw [← HV.out]; exact cell_of GB.out.fi.f 3
      have c2 : wr.cell? ⟨k, 10, none⟩ = some (.int .i64 0) := cell_of GB.out.fi.r 10
      have c3 : wr.cell? ⟨k, 11, none⟩ = some (.int .i64 16384) := cell_of GB.out.fi.r 11
      have c4 : wr.frozen? ⟨g, 3, none⟩ = false := free_of GB.out.fi.f 3
      have l1 := lt_of_block GB.out.fi.f
      have l2 := lt_of_block GB.out.fi.r
      have hne : ¬ k = g := by have := HG.out.2; omega
      have hne2 : ¬ g = k := by have := HG.out.2; omega
      generalize half f 3 = hf at *
      generalize clampf f 3 = cl at *
      generalize f.d = x at *
      by_cases h1 : x < 0
      · have e1 : decide (x < 0) = true := by simpa using h1
        have HR : Hid (∀ n m, RcB w g k (half f (3 + 1)) (((wr.drewN n).setCell ⟨g, 3, none⟩ (.int .i64 0)).drewN m)) := Lib.hid (fun n m => by
          have : cl = 0 := by rw [HC.out]; omega
          rw [← HP.out, this]
          exact (((GB.out.drewN n).set HG.out.1 HG.out.2 (by omega) 0)).drewN m)
        clear h1
        go_wp2_with fail
        go_quiet (fail)
        go_wp2_with fail
        go_quiet (fail)
        go_wp2_with fail
        go_roundw
        case rel => exact ⟨3 + 1, _, by omega, rfl, by omega, (by first | exact HR.out _ _ | exact HR.out _)⟩
        case measure => simp [intOf]
      · have e1 : decide (x < 0) = false := by simpa using h1
        by_cases h2 : 16384 < x
        · have e2 : decide (16384 < x) = true := by simpa using h2
          have HR : Hid (∀ n, RcB w g k (half f (3 + 1)) ((wr.drewN n).setCell ⟨g, 3, none⟩ (.int .i64 16384))) := Lib.hid (fun n => by
            have : cl = 16384 := by rw [HC.out]; omega
            rw [← HP.out, this]
            exact ((GB.out.drewN n).set HG.out.1 HG.out.2 (by omega) 16384))
          clear h1 h2
          go_wp2_with fail
          go_quiet (fail)
          go_wp2_with fail
          go_quiet (fail)
          go_wp2_with fail
          go_roundw
          case rel => exact ⟨3 + 1, _, by omega, rfl, by omega, (by first | exact HR.out _ _ | exact HR.out _)⟩
          case measure => simp [intOf]
        · have e2 : decide (16384 < x) = false := by simpa using h2
          have HR : Hid (∀ n, RcB w g k (half f (3 + 1)) (wr.drewN n)) := Lib.hid (fun n => by
            have : cl = hf.d := by rw [HC.out, HV.out]; omega
            rw [← HP.out, this, HS.out]
            exact GB.out.drewN n)
          clear h1 h2
          go_wp2_with fail
          go_quiet (fail)
          go_wp2_with fail
          go_quiet (fail)
          go_wp2_with fail
          go_roundw
          case rel => exact ⟨3 + 1, _, by omega, rfl, by omega, (by first | exact HR.out _ _ | exact HR.out _)⟩
          case measure => simp [intOf]
    · obtain rfl : z = 4 := by omega
      clear hz
      have h4 : half f 4 = clamp f := by simp [half, clamp]
      have hb := GB.out
      rw [h4] at hb
      have J := Lib.hid (rmade (clamp f) hb.fi.f)
      have BB : Hid (Below w.heap.size w wr) := Lib.hid hb.fi.below
      have BO := Lib.hid hb.out
      clear hb GB h4
      generalize hq : clamp f = q at *
      have HQ := Lib.hid hq
      clear hq
      go_wp2_with fail
      refine (J.out).mono ?_; rintro e w5 ⟨rfl, hb5⟩
      have B5 := Lib.hid (BB.out.trans (hb5.mono BB.out.size))
      have hx := (hb5.block _ (lt_of_block BO.out)).trans BO.out
      have y0 : w5.cell? ⟨w.heap.size + 1, 0, none⟩ = some (.int .i64 0) := cell_of hx 0
      have y1 : w5.cell? ⟨w.heap.size + 1, 1, none⟩ = some (.int .i64 0) := cell_of hx 1
      have y2 : w5.cell? ⟨w.heap.size + 1, 2, none⟩ = some (.int .i64 0) := cell_of hx 2
      have y3 : w5.cell? ⟨w.heap.size + 1, 3, none⟩ = some (.int .i64 0) := cell_of hx 3
      have z0 : w5.frozen? ⟨w.heap.size + 1, 0, none⟩ = false := free_of hx 0
      have z1 : w5.frozen? ⟨w.heap.size + 1, 1, none⟩ = false := free_of hx 1
      have z2 : w5.frozen? ⟨w.heap.size + 1, 2, none⟩ = false := free_of hx 2
      have z3 : w5.frozen? ⟨w.heap.size + 1, 3, none⟩ = false := free_of hx 3
      have B6 : Hid (Below w.heap.size w ((((w5.setCell ⟨w.heap.size + 1, 0, none⟩ (.int .i64 q.a)).setCell ⟨w.heap.size + 1, 1, none⟩ (.int .i64 q.b)).setCell ⟨w.heap.size + 1, 2, none⟩ (.int .i64 q.c)).setCell ⟨w.heap.size + 1, 3, none⟩ (.int .i64 q.d))) := Lib.hid ((((B5.out.setCell (by simp) _).setCell (by simp) _).setCell (by simp) _).setCell (by simp) _)
      clear hb5 J
      go_wp2_with fail
      have hy := set4 hx rfl (.int .i64 q.a) (.int .i64 q.b) (.int .i64 q.c) (.int .i64 q.d)
      clear y0 y1 y2 y3 z0 z1 z2 z3
      generalize (((w5.setCell ⟨w.heap.size + 1, 0, none⟩ (.int .i64 q.a)).setCell ⟨w.heap.size + 1, 1, none⟩ (.int .i64 q.b)).setCell ⟨w.heap.size + 1, 2, none⟩ (.int .i64 q.c)).setCell ⟨w.heap.size + 1, 3, none⟩ (.int .i64 q.d) = W6 at *
      have y0 : W6.cell? ⟨w.heap.size + 1, 0, none⟩ = some (.int .i64 q.a) := cell_of hy 0
      have y1 : W6.cell? ⟨w.heap.size + 1, 1, none⟩ = some (.int .i64 q.b) := cell_of hy 1
      have y2 : W6.cell? ⟨w.heap.size + 1, 2, none⟩ = some (.int .i64 q.c) := cell_of hy 2
      have y3 : W6.cell? ⟨w.heap.size + 1, 3, none⟩ = some (.int .i64 q.d) := cell_of hy 3
      exact bodyPost_ret (v := .agg #[.int .i64 q.a, .int .i64 q.b, .int .i64 q.c, .int .i64 q.d]) (by simp [results, Tryd.results35, go_sem, y0, y1, y2, y3]) rfl ⟨by rw [HQ.out], B6.out⟩
end Go.Proofs.YtabihdhgonnihaaDoor

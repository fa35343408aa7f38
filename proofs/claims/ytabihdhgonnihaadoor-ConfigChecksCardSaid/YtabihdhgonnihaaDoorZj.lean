/- Put of the document. -/
import Derived.Test.YtabihdhgonnihaaDoorZd
import Derived.Test.YtabihdhgonnihaaDoorV
namespace Go.Proofs.YtabihdhgonnihaaDoor
open Go.ChangeShapes Go.WideShapes Go.ChangeAt Go.RowKit
set_option linter.unusedVariables false
set_option linter.unusedSimpArgs false

structure RpB (w : World) (g : Nat) (f : Cf) (l : List Int) (v : Value) (wr : World) : Prop where
  out : OutI wr w.heap.size v l
  below : Below w.heap.size w wr
  fs : wr.heap[g]? = some (.cells #[.int .i64 f.a, .int .i64 f.b, .int .i64 f.c, .int .i64 f.d] 2 (0, 0))
  ne : v.ownBlock ≠ some g
theorem RpB.next {w : World} {g : Nat} {f : Cf} {l : List Int} {v v' : Value} {wr w' : World} {y : Int} (h : RpB w g f l v wr) (h1 : OutI w' w.heap.size v' (l ++ [y])) (h2 : Touch (fun b => v.ownBlock = some b) wr w') (h3 : Below w.heap.size wr w')
    (h4 : ∀ k, v'.ownBlock = some k → v.ownBlock = some k ∨ wr.heap.size ≤ k) : RpB w g f (l ++ [y]) v' w' :=
  ⟨h1, h.below.trans h3, h2.keep h.fs h.ne, fun e => (h4 g e).elim h.ne (fun hh => by have := lt_of_block h.fs; omega)⟩
set_option maxRecDepth 100000 in
set_option maxHeartbeats 8000000 in
theorem rput_ok (f : Cf) (hf : f.ok) (hk : wrong f < 0) (w : World) : Calls Tryd.prog 32 #[.agg #[.int .i64 f.a, .int .i64 f.b, .int .i64 f.c, .int .i64 f.d]] w fun e w' => ∃ v, e = .returned (.tuple #[v, .int .i64 0]) ∧ OutI w' w.heap.size v (putB f 4) ∧ Below w.heap.size w w' := by
  obtain ⟨i5, hi, hz0, hz1, hz2⟩ := info_parts info5
  have N := Lib.hid (new25 w f)
  have X := Lib.hid (block_new w (.cells #[.int .i64 f.a, .int .i64 f.b, .int .i64 f.c, .int .i64 f.d] 25))
  have P1 : Hid (Calls Tryd.prog 33 #[.agg #[.int .i64 f.a, .int .i64 f.b, .int .i64 f.c, .int .i64 f.d]] (w.alloc (.cells #[.int .i64 f.a, .int .i64 f.b, .int .i64 f.c, .int .i64 f.d] 25)) fun e w' => e = .returned (.int .i64 0) ∧ Below (w.alloc (.cells #[.int .i64 f.a, .int .i64 f.b, .int .i64 f.c, .int .i64 f.d] 25)).heap.size (w.alloc (.cells #[.int .i64 f.a, .int .i64 f.b, .int .i64 f.c, .int .i64 f.d] 25)) w') := Lib.hid (by
    have := rcheck f hf (w.alloc (.cells #[.int .i64 f.a, .int .i64 f.b, .int .i64 f.c, .int .i64 f.d] 25))
    unfold chk at this
    rwa [if_pos hk] at this)
  have HF := Lib.hid hf
  clear hk hf
  go_enter Tryd.func32, Tryd.ntmps32
  go_wp2_with fail
  refine (P1.out).mono ?_; rintro e w1 ⟨rfl, hb1⟩
  have B1 := Lib.hid (N.out.trans (hb1.mono N.out.size))
  have hx := (hb1.block _ (lt_of_block X.out)).trans X.out
  have x0 : w1.cell? ⟨w.heap.size, 0, none⟩ = some (.int .i64 f.a) := cell_of hx 0
  have x1 : w1.cell? ⟨w.heap.size, 1, none⟩ = some (.int .i64 f.b) := cell_of hx 1
  have x2 : w1.cell? ⟨w.heap.size, 2, none⟩ = some (.int .i64 f.c) := cell_of hx 2
  have x3 : w1.cell? ⟨w.heap.size, 3, none⟩ = some (.int .i64 f.d) := cell_of hx 3
  have P2 := Lib.hid (rfields f w1)
  clear hb1 P1 N X hx
  go_wp2_with fail
  refine (P2.out).mono ?_; rintro e w2 ⟨rfl, hw2⟩
  have P0 : Hid (RpB w (w1.heap.size + 1) f (putB f 0) (.slice none 0 0) w2) := Lib.hid (by
    subst hw2
    refine ⟨(show OutI _ _ (.slice none 0 0) [] from ⟨⟨rfl, Or.inl ⟨rfl, rfl⟩⟩, fun g hg => by cases hg⟩), ?_, ?_, by simp [Value.ownBlock]⟩
    · exact ((B1.out.alloc B1.out.size _).alloc (by have := B1.out.size; simp; omega) _)
    · have := block_new (w1.alloc (.cells #[.int .i64 f.a, .int .i64 f.b, .int .i64 f.c, .int .i64 f.d] 25)) (.cells #[.int .i64 f.a, .int .i64 f.b, .int .i64 f.c, .int .i64 f.d] 2)
      rwa [show (w1.alloc (.cells #[.int .i64 f.a, .int .i64 f.b, .int .i64 f.c, .int .i64 f.d] 25)).heap.size = w1.heap.size + 1 by simp] at this)
  clear hw2 x0 x1 x2 x3 P2
  go_wp2_with fail
  go_loopw [4, 6] (fun v4 v6 wr => ∃ (i : Nat) (y : Int), i ≤ 4 ∧ v6 = .int .i64 y ∧ y = (i : Int) ∧ RpB w (w1.heap.size + 1) f (putB f i) v4 wr) (fun _ v6 _ => 4 - (intOf v6).toNat)
  case atStart => exact ⟨0, 0, by omega, rfl, rfl, P0.out⟩
  case round =>
    obtain ⟨i, y, hi4, rfl, hy, hb⟩ := hrel
    have HB := Lib.hid hb
    clear hb P0
    have h5 : i = 0 ∨ i = 1 ∨ i = 2 ∨ i = 3 ∨ i = 4 := by omega
    clear hi4
    rcases h5 with rfl | rfl | rfl | rfl | rfl
    · obtain rfl : y = 0 := by omega
      clear hy
      have P1 : Hid (RpB w (w1.heap.size + 1) f (putB f 0 ++ bys f.a 0) u4 wr) := Lib.hid (by have := HB.out; simpa [bys] using this)
      have HE1 : Hid (putB f (0 + 1) = putB f 0 ++ bys f.a 8) := Lib.hid rfl
      have HL : Hid ((putB f 0).length = 8 * 0) := Lib.hid (putB_len f 0)
      have HA : Hid (-9223372036854775808 ≤ f.a ∧ f.a ≤ 9223372036854775807) := Lib.hid ⟨HF.out.a0, HF.out.a1⟩
      clear HB
      generalize putB f 0 = l0 at *
      go_wp2_with fail
      go_loopw [4, 7] (fun v4 v7 wr => ∃ (j : Nat) (z : Int), j ≤ 8 ∧ v7 = .int .i64 z ∧ z = 7 - (j : Int) ∧ RpB w (w1.heap.size + 1) f (l0 ++ bys f.a j) v4 wr) (fun _ v7 _ => (intOf v7 + 1).toNat)
      case atStart => exact ⟨0, 7, by omega, rfl, rfl, P1.out⟩
      case round =>
        obtain ⟨j, z, hj8, rfl, hz, hc⟩ := hrel
        have HC := Lib.hid hc
        clear hc P1
        have h9 : j = 0 ∨ j = 1 ∨ j = 2 ∨ j = 3 ∨ j = 4 ∨ j = 5 ∨ j = 6 ∨ j = 7 ∨ j = 8 := by omega
        clear hj8
        rcases h9 with rfl | rfl | rfl | rfl | rfl | rfl | rfl | rfl | rfl
        · obtain rfl : z = 7 := by omega
          clear hz
          have c0 : wr.cell? ⟨w1.heap.size + 1, 0, none⟩ = some (.int .i64 f.a) := cell_of HC.out.fs 0
          obtain ⟨c, cap, rfl⟩ := own_shape HC.out.out.row
          go_wp2_with (at_builtin; refine wpList_app rfl (.tmp 23) (.tmp 32) 41 rfl 5 i5 .u8 1 Tryd.underlying41 hi hz0 hz1 hz2 (by decide) rfl HC.out.out HC.out.below.size (f.a / 72057594037927936 % 256) rfl (by have := HL.out; rw [List.length_append, bys_len]; omega) ?_)
          intro v6 w6 h1 h2 h3 h4
          have HN : Hid (RpB w (w1.heap.size + 1) f (l0 ++ bys f.a 1) v6 w6) := Lib.hid (by
            rw [bys_step, ← List.append_assoc, show by8 f.a 0 = f.a / 72057594037927936 % 256 from by simp [by8, pw8]]
            rw [← List.append_assoc] at h1
            exact HC.out.next h1 (by rw [List.length_append]; exact h2) h3 (by rw [List.length_append]; exact h4))
          clear h1 h2 h3 h4 HC c0
          go_wp2_with fail
          go_roundw
          case rel => exact ⟨1, _, by omega, rfl, by omega, HN.out⟩
          case measure => simp [intOf]
        · obtain rfl : z = 6 := by omega
          clear hz
          have c0 : wr.cell? ⟨w1.heap.size + 1, 0, none⟩ = some (.int .i64 f.a) := cell_of HC.out.fs 0
          obtain ⟨c, cap, rfl⟩ := own_shape HC.out.out.row
          go_wp2_with (at_builtin; refine wpList_app rfl (.tmp 23) (.tmp 32) 41 rfl 5 i5 .u8 1 Tryd.underlying41 hi hz0 hz1 hz2 (by decide) rfl HC.out.out HC.out.below.size (f.a / 281474976710656 % 256) rfl (by have := HL.out; rw [List.length_append, bys_len]; omega) ?_)
          intro v6 w6 h1 h2 h3 h4
          have HN : Hid (RpB w (w1.heap.size + 1) f (l0 ++ bys f.a 2) v6 w6) := Lib.hid (by
            rw [bys_step, ← List.append_assoc, show by8 f.a 1 = f.a / 281474976710656 % 256 from by simp [by8, pw8]]
            rw [← List.append_assoc] at h1
            exact HC.out.next h1 (by rw [List.length_append]; exact h2) h3 (by rw [List.length_append]; exact h4))
          clear h1 h2 h3 h4 HC c0
          go_wp2_with fail
          go_roundw
          case rel => exact ⟨2, _, by omega, rfl, by omega, HN.out⟩
          case measure => simp [intOf]
        · obtain rfl : z = 5 := by omega
          clear hz
          have c0 : wr.cell? ⟨w1.heap.size + 1, 0, none⟩ = some (.int .i64 f.a) := cell_of HC.out.fs 0
          obtain ⟨c, cap, rfl⟩ := own_shape HC.out.out.row
          go_wp2_with (at_builtin; refine wpList_app rfl (.tmp 23) (.tmp 32) 41 rfl 5 i5 .u8 1 Tryd.underlying41 hi hz0 hz1 hz2 (by decide) rfl HC.out.out HC.out.below.size (f.a / 1099511627776 % 256) rfl (by have := HL.out; rw [List.length_append, bys_len]; omega) ?_)
          intro v6 w6 h1 h2 h3 h4
          have HN : Hid (RpB w (w1.heap.size + 1) f (l0 ++ bys f.a 3) v6 w6) := Lib.hid (by
            rw [bys_step, ← List.append_assoc, show by8 f.a 2 = f.a / 1099511627776 % 256 from by simp [by8, pw8]]
            rw [← List.append_assoc] at h1
            exact HC.out.next h1 (by rw [List.length_append]; exact h2) h3 (by rw [List.length_append]; exact h4))
          clear h1 h2 h3 h4 HC c0
          go_wp2_with fail
          go_roundw
          case rel => exact ⟨3, _, by omega, rfl, by omega, HN.out⟩
          case measure => simp [intOf]
        · obtain rfl : z = 4 := by omega
          clear hz
          have c0 : wr.cell? ⟨w1.heap.size + 1, 0, none⟩ = some (.int .i64 f.a) := cell_of HC.out.fs 0
          obtain ⟨c, cap, rfl⟩ := own_shape HC.out.out.row
          go_wp2_with (at_builtin; refine wpList_app rfl (.tmp 23) (.tmp 32) 41 rfl 5 i5 .u8 1 Tryd.underlying41 hi hz0 hz1 hz2 (by decide) rfl HC.out.out HC.out.below.size (f.a / 4294967296 % 256) rfl (by have := HL.out; rw [List.length_append, bys_len]; omega) ?_)
          intro v6 w6 h1 h2 h3 h4
          have HN : Hid (RpB w (w1.heap.size + 1) f (l0 ++ bys f.a 4) v6 w6) := Lib.hid (by
            rw [bys_step, ← List.append_assoc, show by8 f.a 3 = f.a / 4294967296 % 256 from by simp [by8, pw8]]
            rw [← List.append_assoc] at h1
            exact HC.out.next h1 (by rw [List.length_append]; exact h2) h3 (by rw [List.length_append]; exact h4))
          clear h1 h2 h3 h4 HC c0
          go_wp2_with fail
          go_roundw
          case rel => exact ⟨4, _, by omega, rfl, by omega, HN.out⟩
          case measure => simp [intOf]
        · obtain rfl : z = 3 := by omega
          clear hz
          have c0 : wr.cell? ⟨w1.heap.size + 1, 0, none⟩ = some (.int .i64 f.a) := cell_of HC.out.fs 0
          obtain ⟨c, cap, rfl⟩ := own_shape HC.out.out.row
          go_wp2_with (at_builtin; refine wpList_app rfl (.tmp 23) (.tmp 32) 41 rfl 5 i5 .u8 1 Tryd.underlying41 hi hz0 hz1 hz2 (by decide) rfl HC.out.out HC.out.below.size (f.a / 16777216 % 256) rfl (by have := HL.out; rw [List.length_append, bys_len]; omega) ?_)
          intro v6 w6 h1 h2 h3 h4
          have HN : Hid (RpB w (w1.heap.size + 1) f (l0 ++ bys f.a 5) v6 w6) := Lib.hid (by
            rw [bys_step, ← List.append_assoc, show by8 f.a 4 = f.a / 16777216 % 256 from by simp [by8, pw8]]
            rw [← List.append_assoc] at h1
            exact HC.out.next h1 (by rw [List.length_append]; exact h2) h3 (by rw [List.length_append]; exact h4))
          clear h1 h2 h3 h4 HC c0
          go_wp2_with fail
          go_roundw
          case rel => exact ⟨5, _, by omega, rfl, by omega, HN.out⟩
          case measure => simp [intOf]
        · obtain rfl : z = 2 := by omega
          clear hz
          have c0 : wr.cell? ⟨w1.heap.size + 1, 0, none⟩ = some (.int .i64 f.a) := cell_of HC.out.fs 0
          obtain ⟨c, cap, rfl⟩ := own_shape HC.out.out.row
          go_wp2_with (at_builtin; refine wpList_app rfl (.tmp 23) (.tmp 32) 41 rfl 5 i5 .u8 1 Tryd.underlying41 hi hz0 hz1 hz2 (by decide) rfl HC.out.out HC.out.below.size (f.a / 65536 % 256) rfl (by have := HL.out; rw [List.length_append, bys_len]; omega) ?_)
          intro v6 w6 h1 h2 h3 h4
          have HN : Hid (RpB w (w1.heap.size + 1) f (l0 ++ bys f.a 6) v6 w6) := Lib.hid (by
            rw [bys_step, ← List.append_assoc, show by8 f.a 5 = f.a / 65536 % 256 from by simp [by8, pw8]]
            rw [← List.append_assoc] at h1
            exact HC.out.next h1 (by rw [List.length_append]; exact h2) h3 (by rw [List.length_append]; exact h4))
          clear h1 h2 h3 h4 HC c0
          go_wp2_with fail
          go_roundw
          case rel => exact ⟨6, _, by omega, rfl, by omega, HN.out⟩
          case measure => simp [intOf]
        · obtain rfl : z = 1 := by omega
          clear hz
          have c0 : wr.cell? ⟨w1.heap.size + 1, 0, none⟩ = some (.int .i64 f.a) := cell_of HC.out.fs 0
          obtain ⟨c, cap, rfl⟩ := own_shape HC.out.out.row
          go_wp2_with (at_builtin; refine wpList_app rfl (.tmp 23) (.tmp 32) 41 rfl 5 i5 .u8 1 Tryd.underlying41 hi hz0 hz1 hz2 (by decide) rfl HC.out.out HC.out.below.size (f.a / 256 % 256) rfl (by have := HL.out; rw [List.length_append, bys_len]; omega) ?_)
          intro v6 w6 h1 h2 h3 h4
          have HN : Hid (RpB w (w1.heap.size + 1) f (l0 ++ bys f.a 7) v6 w6) := Lib.hid (by
            rw [bys_step, ← List.append_assoc, show by8 f.a 6 = f.a / 256 % 256 from by simp [by8, pw8]]
            rw [← List.append_assoc] at h1
            exact HC.out.next h1 (by rw [List.length_append]; exact h2) h3 (by rw [List.length_append]; exact h4))
          clear h1 h2 h3 h4 HC c0
          go_wp2_with fail
          go_roundw
          case rel => exact ⟨7, _, by omega, rfl, by omega, HN.out⟩
          case measure => simp [intOf]
        · obtain rfl : z = 0 := by omega
          clear hz
          have c0 : wr.cell? ⟨w1.heap.size + 1, 0, none⟩ = some (.int .i64 f.a) := cell_of HC.out.fs 0
          obtain ⟨c, cap, rfl⟩ := own_shape HC.out.out.row
          go_wp2_with (at_builtin; refine wpList_app rfl (.tmp 23) (.tmp 32) 41 rfl 5 i5 .u8 1 Tryd.underlying41 hi hz0 hz1 hz2 (by decide) rfl HC.out.out HC.out.below.size (f.a % 256) rfl (by have := HL.out; rw [List.length_append, bys_len]; omega) ?_)
          intro v6 w6 h1 h2 h3 h4
          have HN : Hid (RpB w (w1.heap.size + 1) f (l0 ++ bys f.a 8) v6 w6) := Lib.hid (by
            rw [bys_step, ← List.append_assoc, show by8 f.a 7 = f.a % 256 from by simp [by8, pw8]]
            rw [← List.append_assoc] at h1
            exact HC.out.next h1 (by rw [List.length_append]; exact h2) h3 (by rw [List.length_append]; exact h4))
          clear h1 h2 h3 h4 HC c0
          go_wp2_with fail
          go_roundw
          case rel => exact ⟨8, _, by omega, rfl, by omega, HN.out⟩
          case measure => simp [intOf]
        · obtain rfl : z = -1 := by omega
          clear hz
          go_wp2_with fail
          go_roundw
          case rel => exact ⟨0 + 1, _, by omega, rfl, by omega, by rw [HE1.out]; exact HC.out⟩
          case measure => simp [intOf]
    · obtain rfl : y = 1 := by omega
      clear hy
      have P1 : Hid (RpB w (w1.heap.size + 1) f (putB f 1 ++ bys f.b 0) u4 wr) := Lib.hid (by have := HB.out; simpa [bys] using this)
      have HE1 : Hid (putB f (1 + 1) = putB f 1 ++ bys f.b 8) := Lib.hid rfl
      have HL : Hid ((putB f 1).length = 8 * 1) := Lib.hid (putB_len f 1)
      have HA : Hid (-9223372036854775808 ≤ f.b ∧ f.b ≤ 9223372036854775807) := Lib.hid ⟨HF.out.b0, HF.out.b1⟩
      clear HB
      generalize putB f 1 = l0 at *
      go_wp2_with fail
      go_loopw [4, 7] (fun v4 v7 wr => ∃ (j : Nat) (z : Int), j ≤ 8 ∧ v7 = .int .i64 z ∧ z = 7 - (j : Int) ∧ RpB w (w1.heap.size + 1) f (l0 ++ bys f.b j) v4 wr) (fun _ v7 _ => (intOf v7 + 1).toNat)
      case atStart => exact ⟨0, 7, by omega, rfl, rfl, P1.out⟩
      case round =>
        obtain ⟨j, z, hj8, rfl, hz, hc⟩ := hrel
        have HC := Lib.hid hc
        clear hc P1
        have h9 : j = 0 ∨ j = 1 ∨ j = 2 ∨ j = 3 ∨ j = 4 ∨ j = 5 ∨ j = 6 ∨ j = 7 ∨ j = 8 := by omega
        clear hj8
        rcases h9 with rfl | rfl | rfl | rfl | rfl | rfl | rfl | rfl | rfl
        · obtain rfl : z = 7 := by omega
          clear hz
          have c0 : wr.cell? ⟨w1.heap.size + 1, 1, none⟩ = some (.int .i64 f.b) := cell_of HC.out.fs 1
          obtain ⟨c, cap, rfl⟩ := own_shape HC.out.out.row
          go_wp2_with (at_builtin; refine wpList_app rfl (.tmp 23) (.tmp 32) 41 rfl 5 i5 .u8 1 Tryd.underlying41 hi hz0 hz1 hz2 (by decide) rfl HC.out.out HC.out.below.size (f.b / 72057594037927936 % 256) rfl (by have := HL.out; rw [List.length_append, bys_len]; omega) ?_)
          intro v6 w6 h1 h2 h3 h4
          have HN : Hid (RpB w (w1.heap.size + 1) f (l0 ++ bys f.b 1) v6 w6) := Lib.hid (by
            rw [bys_step, ← List.append_assoc, show by8 f.b 0 = f.b / 72057594037927936 % 256 from by simp [by8, pw8]]
            rw [← List.append_assoc] at h1
            exact HC.out.next h1 (by rw [List.length_append]; exact h2) h3 (by rw [List.length_append]; exact h4))
          clear h1 h2 h3 h4 HC c0
          go_wp2_with fail
          go_roundw
          case rel => exact ⟨1, _, by omega, rfl, by omega, HN.out⟩
          case measure => simp [intOf]
        · obtain rfl : z = 6 := by omega
          clear hz
          have c0 : wr.cell? ⟨w1.heap.size + 1, 1, none⟩ = some (.int .i64 f.b) := cell_of HC.out.fs 1
          obtain ⟨c, cap, rfl⟩ := own_shape HC.out.out.row
          go_wp2_with (at_builtin; refine wpList_app rfl (.tmp 23) (.tmp 32) 41 rfl 5 i5 .u8 1 Tryd.underlying41 hi hz0 hz1 hz2 (by decide) rfl HC.out.out HC.out.below.size (f.b / 281474976710656 % 256) rfl (by have := HL.out; rw [List.length_append, bys_len]; omega) ?_)
          intro v6 w6 h1 h2 h3 h4
          have HN : Hid (RpB w (w1.heap.size + 1) f (l0 ++ bys f.b 2) v6 w6) := Lib.hid (by
            rw [bys_step, ← List.append_assoc, show by8 f.b 1 = f.b / 281474976710656 % 256 from by simp [by8, pw8]]
            rw [← List.append_assoc] at h1
            exact HC.out.next h1 (by rw [List.length_append]; exact h2) h3 (by rw [List.length_append]; exact h4))
          clear h1 h2 h3 h4 HC c0
          go_wp2_with fail
          go_roundw
          case rel => exact ⟨2, _, by omega, rfl, by omega, HN.out⟩
          case measure => simp [intOf]
        · obtain rfl : z = 5 := by omega
          clear hz
          have c0 : wr.cell? ⟨w1.heap.size + 1, 1, none⟩ = some (.int .i64 f.b) := cell_of HC.out.fs 1
          obtain ⟨c, cap, rfl⟩ := own_shape HC.out.out.row
          go_wp2_with (at_builtin; refine wpList_app rfl (.tmp 23) (.tmp 32) 41 rfl 5 i5 .u8 1 Tryd.underlying41 hi hz0 hz1 hz2 (by decide) rfl HC.out.out HC.out.below.size (f.b / 1099511627776 % 256) rfl (by have := HL.out; rw [List.length_append, bys_len]; omega) ?_)
          intro v6 w6 h1 h2 h3 h4
          have HN : Hid (RpB w (w1.heap.size + 1) f (l0 ++ bys f.b 3) v6 w6) := Lib.hid (by
            rw [bys_step, ← List.append_assoc, show by8 f.b 2 = f.b / 1099511627776 % 256 from by simp [by8, pw8]]
            rw [← List.append_assoc] at h1
            exact HC.out.next h1 (by rw [List.length_append]; exact h2) h3 (by rw [List.length_append]; exact h4))
          clear h1 h2 h3 h4 HC c0
          go_wp2_with fail
          go_roundw
          case rel => exact ⟨3, _, by omega, rfl, by omega, HN.out⟩
          case measure => simp [intOf]
        · obtain rfl : z = 4 := by omega
          clear hz
          have c0 : wr.cell? ⟨w1.heap.size + 1, 1, none⟩ = some (.int .i64 f.b) := cell_of HC.out.fs 1
          obtain ⟨c, cap, rfl⟩ := own_shape HC.out.out.row
          go_wp2_with (at_builtin; refine wpList_app rfl (.tmp 23) (.tmp 32) 41 rfl 5 i5 .u8 1 Tryd.underlying41 hi hz0 hz1 hz2 (by decide) rfl HC.out.out HC.out.below.size (f.b / 4294967296 % 256) rfl (by have := HL.out; rw [List.length_append, bys_len]; omega) ?_)
          intro v6 w6 h1 h2 h3 h4
          have HN : Hid (RpB w (w1.heap.size + 1) f (l0 ++ bys f.b 4) v6 w6) := Lib.hid (by
            rw [bys_step, ← List.append_assoc, show by8 f.b 3 = f.b / 4294967296 % 256 from by simp [by8, pw8]]
            rw [← List.append_assoc] at h1
            exact HC.out.next h1 (by rw [List.length_append]; exact h2) h3 (by rw [List.length_append]; exact h4))
          clear h1 h2 h3 h4 HC c0
          go_wp2_with fail
          go_roundw
          case rel => exact ⟨4, _, by omega, rfl, by omega, HN.out⟩
          case measure => simp [intOf]
        · obtain rfl : z = 3 := by omega
          clear hz
          have c0 : wr.cell? ⟨w1.heap.size + 1, 1, none⟩ = some (.int .i64 f.b) := cell_of HC.out.fs 1
          obtain ⟨c, cap, rfl⟩ := own_shape HC.out.out.row
          go_wp2_with (at_builtin; refine wpList_app rfl (.tmp 23) (.tmp 32) 41 rfl 5 i5 .u8 1 Tryd.underlying41 hi hz0 hz1 hz2 (by decide) rfl HC.out.out HC.out.below.size (f.b / 16777216 % 256) rfl (by have := HL.out; rw [List.length_append, bys_len]; omega) ?_)
          intro v6 w6 h1 h2 h3 h4
          have HN : Hid (RpB w (w1.heap.size + 1) f (l0 ++ bys f.b 5) v6 w6) := Lib.hid (by
            rw [bys_step, ← List.append_assoc, show by8 f.b 4 = f.b / 16777216 % 256 from by simp [by8, pw8]]
            rw [← List.append_assoc] at h1
            exact HC.out.next h1 (by rw [List.length_append]; exact h2) h3 (by rw [List.length_append]; exact h4))
          clear h1 h2 h3 h4 HC c0
          go_wp2_with fail
          go_roundw
          case rel => exact ⟨5, _, by omega, rfl, by omega, HN.out⟩
          case measure => simp [intOf]
        · obtain rfl : z = 2 := by omega
          clear hz
          have c0 : wr.cell? ⟨w1.heap.size + 1, 1, none⟩ = some (.int .i64 f.b) := cell_of HC.out.fs 1
          obtain ⟨c, cap, rfl⟩ := own_shape HC.out.out.row
          go_wp2_with (at_builtin; refine wpList_app rfl (.tmp 23) (.tmp 32) 41 rfl 5 i5 .u8 1 Tryd.underlying41 hi hz0 hz1 hz2 (by decide) rfl HC.out.out HC.out.below.size (f.b / 65536 % 256) rfl (by have := HL.out; rw [List.length_append, bys_len]; omega) ?_)
          intro v6 w6 h1 h2 h3 h4
          have HN : Hid (RpB w (w1.heap.size + 1) f (l0 ++ bys f.b 6) v6 w6) := Lib.hid (by
            rw [bys_step, ← List.append_assoc, show by8 f.b 5 = f.b / 65536 % 256 from by simp [by8, pw8]]
            rw [← List.append_assoc] at h1
            exact HC.out.next h1 (by rw [List.length_append]; exact h2) h3 (by rw [List.length_append]; exact h4))
          clear h1 h2 h3 h4 HC c0
          go_wp2_with fail
          go_roundw
          case rel => exact ⟨6, _, by omega, rfl, by omega, HN.out⟩
          case measure => simp [intOf]
        · obtain rfl : z = 1 := by omega
          clear hz
          have c0 : wr.cell? ⟨w1.heap.size + 1, 1, none⟩ = some (.int .i64 f.b) := cell_of HC.out.fs 1
          obtain ⟨c, cap, rfl⟩ := own_shape HC.out.out.row
          go_wp2_with (at_builtin; refine wpList_app rfl (.tmp 23) (.tmp 32) 41 rfl 5 i5 .u8 1 Tryd.underlying41 hi hz0 hz1 hz2 (by decide) rfl HC.out.out HC.out.below.size (f.b / 256 % 256) rfl (by have := HL.out; rw [List.length_append, bys_len]; omega) ?_)
          intro v6 w6 h1 h2 h3 h4
          have HN : Hid (RpB w (w1.heap.size + 1) f (l0 ++ bys f.b 7) v6 w6) := Lib.hid (by
            rw [bys_step, ← List.append_assoc, show by8 f.b 6 = f.b / 256 % 256 from by simp [by8, pw8]]
            rw [← List.append_assoc] at h1
            exact HC.out.next h1 (by rw [List.length_append]; exact h2) h3 (by rw [List.length_append]; exact h4))
          clear h1 h2 h3 h4 HC c0
          go_wp2_with fail
          go_roundw
          case rel => exact ⟨7, _, by omega, rfl, by omega, HN.out⟩
          case measure => simp [intOf]
        · obtain rfl : z = 0 := by omega
          clear hz
          have c0 : wr.cell? ⟨w1.heap.size + 1, 1, none⟩ = some (.int .i64 f.b) := cell_of HC.out.fs 1
          obtain ⟨c, cap, rfl⟩ := own_shape HC.out.out.row
          go_wp2_with (at_builtin; refine wpList_app rfl (.tmp 23) (.tmp 32) 41 rfl 5 i5 .u8 1 Tryd.underlying41 hi hz0 hz1 hz2 (by decide) rfl HC.out.out HC.out.below.size (f.b % 256) rfl (by have := HL.out; rw [List.length_append, bys_len]; omega) ?_)
          intro v6 w6 h1 h2 h3 h4
          have HN : Hid (RpB w (w1.heap.size + 1) f (l0 ++ bys f.b 8) v6 w6) := Lib.hid (by
            rw [bys_step, ← List.append_assoc, show by8 f.b 7 = f.b % 256 from by simp [by8, pw8]]
            rw [← List.append_assoc] at h1
            exact HC.out.next h1 (by rw [List.length_append]; exact h2) h3 (by rw [List.length_append]; exact h4))
          clear h1 h2 h3 h4 HC c0
          go_wp2_with fail
          go_roundw
          case rel => exact ⟨8, _, by omega, rfl, by omega, HN.out⟩
          case measure => simp [intOf]
        · obtain rfl : z = -1 := by omega
          clear hz
          go_wp2_with fail
          go_roundw
          case rel => exact ⟨1 + 1, _, by omega, rfl, by omega, by rw [HE1.out]; exact HC.out⟩
          case measure => simp [intOf]
    · obtain rfl : y = 2 := by omega
      clear hy
      have P1 : Hid (RpB w (w1.heap.size + 1) f (putB f 2 ++ bys f.c 0) u4 wr) := Lib.hid (by have := HB.out; simpa [bys] using this)
      have HE1 : Hid (putB f (2 + 1) = putB f 2 ++ bys f.c 8) := Lib.hid rfl
      have HL : Hid ((putB f 2).length = 8 * 2) := Lib.hid (putB_len f 2)
      have HA : Hid (-9223372036854775808 ≤ f.c ∧ f.c ≤ 9223372036854775807) := Lib.hid ⟨HF.out.c0, HF.out.c1⟩
      clear HB
      generalize putB f 2 = l0 at *
      go_wp2_with fail
      go_loopw [4, 7] (fun v4 v7 wr => ∃ (j : Nat) (z : Int), j ≤ 8 ∧ v7 = .int .i64 z ∧ z = 7 - (j : Int) ∧ RpB w (w1.heap.size + 1) f (l0 ++ bys f.c j) v4 wr) (fun _ v7 _ => (intOf v7 + 1).toNat)
      case atStart => exact ⟨0, 7, by omega, rfl, rfl, P1.out⟩
      case round =>
        obtain ⟨j, z, hj8, rfl, hz, hc⟩ := hrel
        have HC := Lib.hid hc
        clear hc P1
        have h9 : j = 0 ∨ j = 1 ∨ j = 2 ∨ j = 3 ∨ j = 4 ∨ j = 5 ∨ j = 6 ∨ j = 7 ∨ j = 8 := by omega
        clear hj8
        rcases h9 with rfl | rfl | rfl | rfl | rfl | rfl | rfl | rfl | rfl
        · obtain rfl : z = 7 := by omega
          clear hz
          have c0 : wr.cell? ⟨w1.heap.size + 1, 2, none⟩ = some (.int .i64 f.c) := cell_of HC.out.fs 2
          obtain ⟨c, cap, rfl⟩ := own_shape HC.out.out.row
          go_wp2_with (at_builtin; refine wpList_app rfl (.tmp 23) (.tmp 32) 41 rfl 5 i5 .u8 1 Tryd.underlying41 hi hz0 hz1 hz2 (by decide) rfl HC.out.out HC.out.below.size (f.c / 72057594037927936 % 256) rfl (by have := HL.out; rw [List.length_append, bys_len]; omega) ?_)
          intro v6 w6 h1 h2 h3 h4
          have HN : Hid (RpB w (w1.heap.size + 1) f (l0 ++ bys f.c 1) v6 w6) := Lib.hid (by
            rw [bys_step, ← List.append_assoc, show by8 f.c 0 = f.c / 72057594037927936 % 256 from by simp [by8, pw8]]
            rw [← List.append_assoc] at h1
            exact HC.out.next h1 (by rw [List.length_append]; exact h2) h3 (by rw [List.length_append]; exact h4))
          clear h1 h2 h3 h4 HC c0
          go_wp2_with fail
          go_roundw
          case rel => exact ⟨1, _, by omega, rfl, by omega, HN.out⟩
          case measure => simp [intOf]
        · obtain rfl : z = 6 := by omega
          clear hz
          have c0 : wr.cell? ⟨w1.heap.size + 1, 2, none⟩ = some (.int .i64 f.c) := cell_of HC.out.fs 2
          obtain ⟨c, cap, rfl⟩ := own_shape HC.out.out.row
          go_wp2_with (at_builtin; refine wpList_app rfl (.tmp 23) (.tmp 32) 41 rfl 5 i5 .u8 1 Tryd.underlying41 hi hz0 hz1 hz2 (by decide) rfl HC.out.out HC.out.below.size (f.c / 281474976710656 % 256) rfl (by have := HL.out; rw [List.length_append, bys_len]; omega) ?_)
          intro v6 w6 h1 h2 h3 h4
          have HN : Hid (RpB w (w1.heap.size + 1) f (l0 ++ bys f.c 2) v6 w6) := Lib.hid (by
            rw [bys_step, ← List.append_assoc, show by8 f.c 1 = f.c / 281474976710656 % 256 from by simp [by8, pw8]]
            rw [← List.append_assoc] at h1
            exact HC.out.next h1 (by rw [List.length_append]; exact h2) h3 (by rw [List.length_append]; exact h4))
          clear h1 h2 h3 h4 HC c0
          go_wp2_with fail
          go_roundw
          case rel => exact ⟨2, _, by omega, rfl, by omega, HN.out⟩
          case measure => simp [intOf]
        · obtain rfl : z = 5 := by omega
          clear hz
          have c0 : wr.cell? ⟨w1.heap.size + 1, 2, none⟩ = some (.int .i64 f.c) := cell_of HC.out.fs 2
          obtain ⟨c, cap, rfl⟩ := own_shape HC.out.out.row
          go_wp2_with (at_builtin; refine wpList_app rfl (.tmp 23) (.tmp 32) 41 rfl 5 i5 .u8 1 Tryd.underlying41 hi hz0 hz1 hz2 (by decide) rfl HC.out.out HC.out.below.size (f.c / 1099511627776 % 256) rfl (by have := HL.out; rw [List.length_append, bys_len]; omega) ?_)
          intro v6 w6 h1 h2 h3 h4
          have HN : Hid (RpB w (w1.heap.size + 1) f (l0 ++ bys f.c 3) v6 w6) := Lib.hid (by
            rw [bys_step, ← List.append_assoc, show by8 f.c 2 = f.c / 1099511627776 % 256 from by simp [by8, pw8]]
            rw [← List.append_assoc] at h1
            exact HC.out.next h1 (by rw [List.length_append]; exact h2) h3 (by rw [List.length_append]; exact h4))
          clear h1 h2 h3 h4 HC c0
          go_wp2_with fail
          go_roundw
          case rel => exact ⟨3, _, by omega, rfl, by omega, HN.out⟩
          case measure => simp [intOf]
        · obtain rfl : z = 4 := by omega
          clear hz
          have c0 : wr.cell? ⟨w1.heap.size + 1, 2, none⟩ = some (.int .i64 f.c) := cell_of HC.out.fs 2
          obtain ⟨c, cap, rfl⟩ := own_shape HC.out.out.row
          go_wp2_with (at_builtin; refine wpList_app rfl (.tmp 23) (.tmp 32) 41 rfl 5 i5 .u8 1 Tryd.underlying41 hi hz0 hz1 hz2 (by decide) rfl HC.out.out HC.out.below.size (f.c / 4294967296 % 256) rfl (by have := HL.out; rw [List.length_append, bys_len]; omega) ?_)
          intro v6 w6 h1 h2 h3 h4
          have HN : Hid (RpB w (w1.heap.size + 1) f (l0 ++ bys f.c 4) v6 w6) := Lib.hid (by
            rw [bys_step, ← List.append_assoc, show by8 f.c 3 = f.c / 4294967296 % 256 from by simp [by8, pw8]]
            rw [← List.append_assoc] at h1
            exact HC.out.next h1 (by rw [List.length_append]; exact h2) h3 (by rw [List.length_append]; exact h4))
          clear h1 h2 h3 h4 HC c0
          go_wp2_with fail
          go_roundw
          case rel => exact ⟨4, _, by omega, rfl, by omega, HN.out⟩
          case measure => simp [intOf]
        · obtain rfl : z = 3 := by omega
          clear hz
          have c0 : wr.cell? ⟨w1.heap.size + 1, 2, none⟩ = some (.int .i64 f.c) := cell_of HC.out.fs 2
          obtain ⟨c, cap, rfl⟩ := own_shape HC.out.out.row
          go_wp2_with (at_builtin; refine wpList_app rfl (.tmp 23) (.tmp 32) 41 rfl 5 i5 .u8 1 Tryd.underlying41 hi hz0 hz1 hz2 (by decide) rfl HC.out.out HC.out.below.size (f.c / 16777216 % 256) rfl (by have := HL.out; rw [List.length_append, bys_len]; omega) ?_)
          intro v6 w6 h1 h2 h3 h4
          have HN : Hid (RpB w (w1.heap.size + 1) f (l0 ++ bys f.c 5) v6 w6) := Lib.hid (by
            rw [bys_step, ← List.append_assoc, show by8 f.c 4 = f.c / 16777216 % 256 from by simp [by8, pw8]]
            rw [← List.append_assoc] at h1
            exact HC.out.next h1 (by rw [List.length_append]; exact h2) h3 (by rw [List.length_append]; exact h4))
          clear h1 h2 h3 h4 HC c0
          go_wp2_with fail
          go_roundw
          case rel => exact ⟨5, _, by omega, rfl, by omega, HN.out⟩
          case measure => simp [intOf]
        · obtain rfl : z = 2 := by omega
          clear hz
          have c0 : wr.cell? ⟨w1.heap.size + 1, 2, none⟩ = some (.int .i64 f.c) := cell_of HC.out.fs 2
          obtain ⟨c, cap, rfl⟩ := own_shape HC.out.out.row
          go_wp2_with (at_builtin; refine wpList_app rfl (.tmp 23) (.tmp 32) 41 rfl 5 i5 .u8 1 Tryd.underlying41 hi hz0 hz1 hz2 (by decide) rfl HC.out.out HC.out.below.size (f.c / 65536 % 256) rfl (by have := HL.out; rw [List.length_append, bys_len]; omega) ?_)
          intro v6 w6 h1 h2 h3 h4
          have HN : Hid (RpB w (w1.heap.size + 1) f (l0 ++ bys f.c 6) v6 w6) := Lib.hid (by
            rw [bys_step, ← List.append_assoc, show by8 f.c 5 = f.c / 65536 % 256 from by simp [by8, pw8]]
            rw [← List.append_assoc] at h1
            exact HC.out.next h1 (by rw [List.length_append]; exact h2) h3 (by rw [List.length_append]; exact h4))
          clear h1 h2 h3 h4 HC c0
          go_wp2_with fail
          go_roundw
          case rel => exact ⟨6, _, by omega, rfl, by omega, HN.out⟩
          case measure => simp [intOf]
        · obtain rfl : z = 1 := by omega
          clear hz
          have c0 : wr.cell? ⟨w1.heap.size + 1, 2, none⟩ = some (.int .i64 f.c) := cell_of HC.out.fs 2
          obtain ⟨c, cap, rfl⟩ := own_shape HC.out.out.row
          go_wp2_with (at_builtin; refine wpList_app rfl (.tmp 23) (.tmp 32) 41 rfl 5 i5 .u8 1 Tryd.underlying41 hi hz0 hz1 hz2 (by decide) rfl HC.out.out HC.out.below.size (f.c / 256 % 256) rfl (by have := HL.out; rw [List.length_append, bys_len]; omega) ?_)
          intro v6 w6 h1 h2 h3 h4
          have HN : Hid (RpB w (w1.heap.size + 1) f (l0 ++ bys f.c 7) v6 w6) := Lib.hid (by
            rw [bys_step, ← List.append_assoc, show by8 f.c 6 = f.c / 256 % 256 from by simp [by8, pw8]]
            rw [← List.append_assoc] at h1
            exact HC.out.next h1 (by rw [List.length_append]; exact h2) h3 (by rw [List.length_append]; exact h4))
          clear h1 h2 h3 h4 HC c0
          go_wp2_with fail
          go_roundw
          case rel => exact ⟨7, _, by omega, rfl, by omega, HN.out⟩
          case measure => simp [intOf]
        · obtain rfl : z = 0 := by omega
          clear hz
          have c0 : wr.cell? ⟨w1.heap.size + 1, 2, none⟩ = some (.int .i64 f.c) := cell_of HC.out.fs 2
          obtain ⟨c, cap, rfl⟩ := own_shape HC.out.out.row
          go_wp2_with (at_builtin; refine wpList_app rfl (.tmp 23) (.tmp 32) 41 rfl 5 i5 .u8 1 Tryd.underlying41 hi hz0 hz1 hz2 (by decide) rfl HC.out.out HC.out.below.size (f.c % 256) rfl (by have := HL.out; rw [List.length_append, bys_len]; omega) ?_)
          intro v6 w6 h1 h2 h3 h4
          have HN : Hid (RpB w (w1.heap.size + 1) f (l0 ++ bys f.c 8) v6 w6) := Lib.hid (by
            rw [bys_step, ← List.append_assoc, show by8 f.c 7 = f.c % 256 from by simp [by8, pw8]]
            rw [← List.append_assoc] at h1
            exact HC.out.next h1 (by rw [List.length_append]; exact h2) h3 (by rw [List.length_append]; exact h4))
          clear h1 h2 h3 h4 HC c0
          go_wp2_with fail
          go_roundw
          case rel => exact ⟨8, _, by omega, rfl, by omega, HN.out⟩
          case measure => simp [intOf]
        · obtain rfl : z = -1 := by omega
          clear hz
          go_wp2_with fail
          go_roundw
          case rel => exact ⟨2 + 1, _, by omega, rfl, by omega, by rw [HE1.out]; exact HC.out⟩
          case measure => simp [intOf]
    · obtain rfl : y = 3 := by omega
      clear hy
      have P1 : Hid (RpB w (w1.heap.size + 1) f (putB f 3 ++ bys f.d 0) u4 wr) := Lib.hid (by have := HB.out; simpa [bys] using this)
      have HE1 : Hid (putB f (3 + 1) = putB f 3 ++ bys f.d 8) := Lib.hid rfl
      have HL : Hid ((putB f 3).length = 8 * 3) := Lib.hid (putB_len f 3)
      have HA : Hid (-9223372036854775808 ≤ f.d ∧ f.d ≤ 9223372036854775807) := Lib.hid ⟨HF.out.d0, HF.out.d1⟩
      clear HB
      generalize putB f 3 = l0 at *
      go_wp2_with fail
      go_loopw [4, 7] (fun v4 v7 wr => ∃ (j : Nat) (z : Int), j ≤ 8 ∧ v7 = .int .i64 z ∧ z = 7 - (j : Int) ∧ RpB w (w1.heap.size + 1) f (l0 ++ bys f.d j) v4 wr) (fun _ v7 _ => (intOf v7 + 1).toNat)
      case atStart => exact ⟨0, 7, by omega, rfl, rfl, P1.out⟩
      case round =>
        obtain ⟨j, z, hj8, rfl, hz, hc⟩ := hrel
        have HC := Lib.hid hc
        clear hc P1
        have h9 : j = 0 ∨ j = 1 ∨ j = 2 ∨ j = 3 ∨ j = 4 ∨ j = 5 ∨ j = 6 ∨ j = 7 ∨ j = 8 := by omega
        clear hj8
        rcases h9 with rfl | rfl | rfl | rfl | rfl | rfl | rfl | rfl | rfl
        · obtain rfl : z = 7 := by omega
          clear hz
          have c0 : wr.cell? ⟨w1.heap.size + 1, 3, none⟩ = some (.int .i64 f.d) := cell_of HC.out.fs 3
          obtain ⟨c, cap, rfl⟩ := own_shape HC.out.out.row
          go_wp2_with (at_builtin; refine wpList_app rfl (.tmp 23) (.tmp 32) 41 rfl 5 i5 .u8 1 Tryd.underlying41 hi hz0 hz1 hz2 (by decide) rfl HC.out.out HC.out.below.size (f.d / 72057594037927936 % 256) rfl (by have := HL.out; rw [List.length_append, bys_len]; omega) ?_)
          intro v6 w6 h1 h2 h3 h4
          have HN : Hid (RpB w (w1.heap.size + 1) f (l0 ++ bys f.d 1) v6 w6) := Lib.hid (by
            rw [bys_step, ← List.append_assoc, show by8 f.d 0 = f.d / 72057594037927936 % 256 from by simp [by8, pw8]]
            rw [← List.append_assoc] at h1
            exact HC.out.next h1 (by rw [List.length_append]; exact h2) h3 (by rw [List.length_append]; exact h4))
          clear h1 h2 h3 h4 HC c0
          go_wp2_with fail
          go_roundw
          case rel => exact ⟨1, _, by omega, rfl, by omega, HN.out⟩
          case measure => simp [intOf]
        · obtain rfl : z = 6 := by omega
          clear hz
          have c0 : wr.cell? ⟨w1.heap.size + 1, 3, none⟩ = some (.int .i64 f.d) := cell_of HC.out.fs 3
          obtain ⟨c, cap, rfl⟩ := own_shape HC.out.out.row
          go_wp2_with (at_builtin; refine wpList_app rfl (.tmp 23) (.tmp 32) 41 rfl 5 i5 .u8 1 Tryd.underlying41 hi hz0 hz1 hz2 (by decide) rfl HC.out.out HC.out.below.size (f.d / 281474976710656 % 256) rfl (by have := HL.out; rw [List.length_append, bys_len]; omega) ?_)
          intro v6 w6 h1 h2 h3 h4
          have HN : Hid (RpB w (w1.heap.size + 1) f (l0 ++ bys f.d 2) v6 w6) := Lib.hid (by
            rw [bys_step, ← List.append_assoc, show by8 f.d 1 = f.d / 281474976710656 % 256 from by simp [by8, pw8]]
            rw [← List.append_assoc] at h1
            exact HC.out.next h1 (by rw [List.length_append]; exact h2) h3 (by rw [List.length_append]; exact h4))
          clear h1 h2 h3 h4 HC c0
          go_wp2_with fail
          go_roundw
          case rel => exact ⟨2, _, by omega, rfl, by omega, HN.out⟩
          case measure => simp [intOf]
        · obtain rfl : z = 5 := by omega
          clear hz
          have c0 : wr.cell? ⟨w1.heap.size + 1, 3, none⟩ = some (.int .i64 f.d) := cell_of HC.out.fs 3
          obtain ⟨c, cap, rfl⟩ := own_shape HC.out.out.row
          go_wp2_with (at_builtin; refine wpList_app rfl (.tmp 23) (.tmp 32) 41 rfl 5 i5 .u8 1 Tryd.underlying41 hi hz0 hz1 hz2 (by decide) rfl HC.out.out HC.out.below.size (f.d / 1099511627776 % 256) rfl (by have := HL.out; rw [List.length_append, bys_len]; omega) ?_)
          intro v6 w6 h1 h2 h3 h4
          have HN : Hid (RpB w (w1.heap.size + 1) f (l0 ++ bys f.d 3) v6 w6) := Lib.hid (by
            rw [bys_step, ← List.append_assoc, show by8 f.d 2 = f.d / 1099511627776 % 256 from by simp [by8, pw8]]
            rw [← List.append_assoc] at h1
            exact HC.out.next h1 (by rw [List.length_append]; exact h2) h3 (by rw [List.length_append]; exact h4))
          clear h1 h2 h3 h4 HC c0
          go_wp2_with fail
          go_roundw
          case rel => exact ⟨3, _, by omega, rfl, by omega, HN.out⟩
          case measure => simp [intOf]
        · obtain rfl : z = 4 := by omega
          clear hz
          have c0 : wr.cell? ⟨w1.heap.size + 1, 3, none⟩ = some (.int .i64 f.d) := cell_of HC.out.fs 3
          obtain ⟨c, cap, rfl⟩ := own_shape HC.out.out.row
          go_wp2_with (at_builtin; refine wpList_app rfl (.tmp 23) (.tmp 32) 41 rfl 5 i5 .u8 1 Tryd.underlying41 hi hz0 hz1 hz2 (by decide) rfl HC.out.out HC.out.below.size (f.d / 4294967296 % 256) rfl (by have := HL.out; rw [List.length_append, bys_len]; omega) ?_)
          intro v6 w6 h1 h2 h3 h4
          have HN : Hid (RpB w (w1.heap.size + 1) f (l0 ++ bys f.d 4) v6 w6) := Lib.hid (by
            rw [bys_step, ← List.append_assoc, show by8 f.d 3 = f.d / 4294967296 % 256 from by simp [by8, pw8]]
            rw [← List.append_assoc] at h1
            exact HC.out.next h1 (by rw [List.length_append]; exact h2) h3 (by rw [List.length_append]; exact h4))
          clear h1 h2 h3 h4 HC c0
          go_wp2_with fail
          go_roundw
          case rel => exact ⟨4, _, by omega, rfl, by omega, HN.out⟩
          case measure => simp [intOf]
        · obtain rfl : z = 3 := by omega
          clear hz
          have c0 : wr.cell? ⟨w1.heap.size + 1, 3, none⟩ = some (.int .i64 f.d) := cell_of HC.out.fs 3
          obtain ⟨c, cap, rfl⟩ := own_shape HC.out.out.row
          go_wp2_with (at_builtin; refine wpList_app rfl (.tmp 23) (.tmp 32) 41 rfl 5 i5 .u8 1 Tryd.underlying41 hi hz0 hz1 hz2 (by decide) rfl HC.out.out HC.out.below.size (f.d / 16777216 % 256) rfl (by have := HL.out; rw [List.length_append, bys_len]; omega) ?_)
          intro v6 w6 h1 h2 h3 h4
          have HN : Hid (RpB w (w1.heap.size + 1) f (l0 ++ bys f.d 5) v6 w6) := Lib.hid (by
            rw [bys_step, ← List.append_assoc, show by8 f.d 4 = f.d / 16777216 % 256 from by simp [by8, pw8]]
            rw [← List.append_assoc] at h1
            exact HC.out.next h1 (by rw [List.length_append]; exact h2) h3 (by rw [List.length_append]; exact h4))
          clear h1 h2 h3 h4 HC c0
          go_wp2_with fail
          go_roundw
          case rel => exact ⟨5, _, by omega, rfl, by omega, HN.out⟩
          case measure => simp [intOf]
        · obtain rfl : z = 2 := by omega
          clear hz
          have c0 : wr.cell? ⟨w1.heap.size + 1, 3, none⟩ = some (.int .i64 f.d) := cell_of HC.out.fs 3
          obtain ⟨c, cap, rfl⟩ := own_shape HC.out.out.row
          go_wp2_with (at_builtin; refine wpList_app rfl (.tmp 23) (.tmp 32) 41 rfl 5 i5 .u8 1 Tryd.underlying41 hi hz0 hz1 hz2 (by decide) rfl HC.out.out HC.out.below.size (f.d / 65536 % 256) rfl (by have := HL.out; rw [List.length_append, bys_len]; omega) ?_)
          intro v6 w6 h1 h2 h3 h4
          have HN : Hid (RpB w (w1.heap.size + 1) f (l0 ++ bys f.d 6) v6 w6) := Lib.hid (by
            rw [bys_step, ← List.append_assoc, show by8 f.d 5 = f.d / 65536 % 256 from by simp [by8, pw8]]
            rw [← List.append_assoc] at h1
            exact HC.out.next h1 (by rw [List.length_append]; exact h2) h3 (by rw [List.length_append]; exact h4))
          clear h1 h2 h3 h4 HC c0
          go_wp2_with fail
          go_roundw
          case rel => exact ⟨6, _, by omega, rfl, by omega, HN.out⟩
          case measure => simp [intOf]
        · obtain rfl : z = 1 := by omega
          clear hz
          have c0 : wr.cell? ⟨w1.heap.size + 1, 3, none⟩ = some (.int .i64 f.d) := cell_of HC.out.fs 3
          obtain ⟨c, cap, rfl⟩ := own_shape HC.out.out.row
          go_wp2_with (at_builtin; refine wpList_app rfl (.tmp 23) (.tmp 32) 41 rfl 5 i5 .u8 1 Tryd.underlying41 hi hz0 hz1 hz2 (by decide) rfl HC.out.out HC.out.below.size (f.d / 256 % 256) rfl (by have := HL.out; rw [List.length_append, bys_len]; omega) ?_)
          intro v6 w6 h1 h2 h3 h4
          have HN : Hid (RpB w (w1.heap.size + 1) f (l0 ++ bys f.d 7) v6 w6) := Lib.hid (by
            rw [bys_step, ← List.append_assoc, show by8 f.d 6 = f.d / 256 % 256 from by simp [by8, pw8]]
            rw [← List.append_assoc] at h1
            exact HC.out.next h1 (by rw [List.length_append]; exact h2) h3 (by rw [List.length_append]; exact h4))
          clear h1 h2 h3 h4 HC c0
          go_wp2_with fail
          go_roundw
          case rel => exact ⟨7, _, by omega, rfl, by omega, HN.out⟩
          case measure => simp [intOf]
        · obtain rfl : z = 0 := by omega
          clear hz
          have c0 : wr.cell? ⟨w1.heap.size + 1, 3, none⟩ = some (.int .i64 f.d) := cell_of HC.out.fs 3
          obtain ⟨c, cap, rfl⟩ := own_shape HC.out.out.row
          go_wp2_with (at_builtin; refine wpList_app rfl (.tmp 23) (.tmp 32) 41 rfl 5 i5 .u8 1 Tryd.underlying41 hi hz0 hz1 hz2 (by decide) rfl HC.out.out HC.out.below.size (f.d % 256) rfl (by have := HL.out; rw [List.length_append, bys_len]; omega) ?_)
          intro v6 w6 h1 h2 h3 h4
          have HN : Hid (RpB w (w1.heap.size + 1) f (l0 ++ bys f.d 8) v6 w6) := Lib.hid (by
            rw [bys_step, ← List.append_assoc, show by8 f.d 7 = f.d % 256 from by simp [by8, pw8]]
            rw [← List.append_assoc] at h1
            exact HC.out.next h1 (by rw [List.length_append]; exact h2) h3 (by rw [List.length_append]; exact h4))
          clear h1 h2 h3 h4 HC c0
          go_wp2_with fail
          go_roundw
          case rel => exact ⟨8, _, by omega, rfl, by omega, HN.out⟩
          case measure => simp [intOf]
        · obtain rfl : z = -1 := by omega
          clear hz
          go_wp2_with fail
          go_roundw
          case rel => exact ⟨3 + 1, _, by omega, rfl, by omega, by rw [HE1.out]; exact HC.out⟩
          case measure => simp [intOf]
    · obtain rfl : y = 4 := by omega
      clear hy
      go_wp2_with fail
      exact bodyPost_ret (v := .tuple #[u4, .int .i64 0]) (by simp [results, Tryd.results32, go_sem]) rfl ⟨_, rfl, HB.out.out, HB.out.below⟩
end Go.Proofs.YtabihdhgonnihaaDoor

/- Put of the program. -/
import Derived.Test.YtabihdhgonnihaaDoorP
namespace Go.Proofs.YtabihdhgonnihaaDoor
open Go.ChangeShapes Go.WideShapes Go.ChangeAt Go.RowKit
set_option linter.unusedVariables false
set_option linter.unusedSimpArgs false

/-- The j-th byte of a number, the greatest first. -/
def pw8 : Nat → Int
  | 0 => 72057594037927936
  | 1 => 281474976710656
  | 2 => 1099511627776
  | 3 => 4294967296
  | 4 => 16777216
  | 5 => 65536
  | 6 => 256
  | _ => 1
def by8 (x : Int) (j : Nat) : Int := (x / pw8 j) % 256
def bys (x : Int) (k : Nat) : List Int := (List.range k).map (by8 x)
/-- The bytes of the first i fields, and the first k of the next one. -/
def putB (f : Cf) : Nat → List Int
  | 0 => []
  | i + 1 => putB f i ++ bys (f.at i) 8
theorem bys_step (x : Int) (k : Nat) : bys x (k + 1) = bys x k ++ [by8 x k] := by unfold bys; rw [List.range_succ]; simp
theorem bys_len (x : Int) (k : Nat) : (bys x k).length = k := by simp [bys]
theorem putB_len (f : Cf) : ∀ i, (putB f i).length = 8 * i
  | 0 => rfl
  | i + 1 => by unfold putB; rw [List.length_append, putB_len f i, bys_len]; omega
set_option maxRecDepth 100000 in
theorem make32 : ∀ w, (Instr.makeSlice 41 (.int .i64 0) (.int .i64 32)).run Tryd.prog w = .ok (.slice (some ⟨w.heap.size, 0, none⟩) 0 32) (w.alloc (.cells (madeCells #[Value.int .u8 0] 32) 5)) := fun w => by
  obtain ⟨i0, hi, hz0, hz1, hz2⟩ := info_parts info5
  have hr := run_make (P := Tryd.prog) w 41 5 i0 (.int .u8 0) Tryd.underlying41 hi hz0 .i64 .i64 0 32 (by omega) (by omega) (by rw [hz2]; omega) (by omega)
  rw [hz1] at hr
  simpa [Value.cells] using hr
set_option maxRecDepth 100000 in
theorem at60 (f : Cf) {i : Nat} (hi : i < 4) : ∀ w, (Instr.index 60 (.agg #[.int .i64 f.a, .int .i64 f.b, .int .i64 f.c, .int .i64 f.d]) (.int .i64 (i : Int))).run Tryd.prog w = .ok (.int .i64 (f.at i)) w := by
  have h4 : i = 0 ∨ i = 1 ∨ i = 2 ∨ i = 3 := by omega
  intro w
  rcases h4 with rfl | rfl | rfl | rfl <;> kernel_rfl
theorem at_in {f : Cf} (h : f.ok) {i : Nat} (hi : i < 4) : -9223372036854775808 ≤ f.at i ∧ f.at i ≤ 9223372036854775807 := by
  obtain ⟨h1, h2, h3, h4, h5, h6, h7, h8⟩ := h
  have h4 : i = 0 ∨ i = 1 ∨ i = 2 ∨ i = 3 := by omega
  rcases h4 with rfl | rfl | rfl | rfl <;> simp only [Cf.at] <;> omega
abbrev OutI (w : World) (B : Nat) (v : Value) (l : List Int) : Prop := OutR 1 (encK .u8) 5 w B v l
structure PuB (w : World) (i : Nat) (l : List Int) (v : Value) (wr : World) : Prop where
  out : OutI wr w.heap.size v l
  below : Below w.heap.size w wr
def PuRel (w : World) (f : Cf) (v5 v16 : Value) (wr : World) : Prop := ∃ i : Nat, i ≤ 4 ∧ v16 = .int .i64 (i : Int) ∧ PuB w i (putB f i) v5 wr
def PuIn (w : World) (f : Cf) (i : Nat) (v5 v8 : Value) (wr : World) : Prop := ∃ j : Nat, j ≤ 8 ∧ v8 = .int .i64 (56 - 8 * (j : Int)) ∧ PuB w i (putB f i ++ bys (f.at i) j) v5 wr
def puM (v : Value) : Nat := (intOf v + 8).toNat
set_option maxRecDepth 100000 in
set_option maxHeartbeats 4000000 in
theorem pput_ok {w : World} (h : Env w) (f : Cf) (hf : f.ok) (hk : wrong f < 0) : Calls Tryd.prog 30 #[.agg #[.int .i64 f.a, .int .i64 f.b, .int .i64 f.c, .int .i64 f.d]] w fun e w' => ∃ v, e = .returned (.tuple #[v, .int .i64 0]) ∧ OutI w' w.heap.size v (putB f 4) ∧ Below w.heap.size w w' := by
  obtain ⟨i5, hi, hz0, hz1, hz2⟩ := info_parts info5
  have N := Lib.hid (new25 w f)
  have P1 := Lib.hid (psplit f.a f.b f.c f.d (w.alloc (.cells #[.int .i64 f.a, .int .i64 f.b, .int .i64 f.c, .int .i64 f.d] 25)))
  have P2 := Lib.hid (fun w' (hb : Below w.heap.size w w') => pwrong (h.below hb) f hf)
  have e1 : decide (0 ≤ wrong f) = false := by simp; omega
  have HF := Lib.hid hf
  generalize wrong f = k at *
  clear hk h hf
  go_enter Tryd.func30, Tryd.ntmps30
  go_wp2_with fail
  refine (P1.out).mono ?_; rintro e w1 ⟨rfl, hb1⟩
  have B1 := Lib.hid (N.out.trans (hb1.mono N.out.size))
  have A1 := Lib.hid (B1.out.alloc B1.out.size (.cells #[.int .i64 f.a, .int .i64 f.b, .int .i64 f.c, .int .i64 f.d] 60))
  have P3 := Lib.hid (P2.out _ A1.out)
  have X1 := Lib.hid (block_new w1 (.cells #[.int .i64 f.a, .int .i64 f.b, .int .i64 f.c, .int .i64 f.d] 60))
  clear hb1 P1 P2
  go_wp2_with fail
  refine (P3.out).mono ?_; rintro e w2 ⟨rfl, hb2⟩
  have B2 := Lib.hid (A1.out.trans (hb2.mono A1.out.size))
  have hx := (hb2.block _ (lt_of_block X1.out)).trans X1.out
  have hlx := lt_of_block hx
  have A2 := Lib.hid (B2.out.alloc B2.out.size (.cells (madeCells #[Value.int .u8 0] 32) 5))
  have O2 : Hid (OutI (w2.alloc (.cells (madeCells #[Value.int .u8 0] 32) 5)) w.heap.size (.slice (some ⟨w2.heap.size, 0, none⟩) 0 32) []) := Lib.hid ⟨⟨rfl, Or.inr ⟨w2.heap.size, 32, _, rfl, Nat.zero_le _, block_new _ _, Nat.zero_le _, by unfold maxLen; omega, (by decide +kernel), rfl⟩⟩, fun g hg => by cases hg; exact B2.out.size⟩
  have x0 : w2.cell? ⟨w1.heap.size, 0, none⟩ = some (.int .i64 f.a) := cell_of hx 0
  have x1 : w2.cell? ⟨w1.heap.size, 1, none⟩ = some (.int .i64 f.b) := cell_of hx 1
  have x2 : w2.cell? ⟨w1.heap.size, 2, none⟩ = some (.int .i64 f.c) := cell_of hx 2
  have x3 : w2.cell? ⟨w1.heap.size, 3, none⟩ = some (.int .i64 f.d) := cell_of hx 3
  clear hb2 P3 hx
  have hmk := make32
  have P0 : Hid (PuB w 0 (putB f 0) (.slice (some ⟨w2.heap.size, 0, none⟩) 0 32) (w2.alloc (.cells (madeCells #[Value.int .u8 0] 32) 5))) := Lib.hid ⟨O2.out, A2.out⟩
  go_wp2_with fail
  clear hmk
  go_loopw [5, 16] (fun v5 v16 wr => PuRel w f v5 v16 wr) (fun _ v16 _ => 4 - (intOf v16).toNat)
  case atStart => exact ⟨0, by omega, rfl, P0.out⟩
  case round =>
    obtain ⟨i, hi4, rfl, hb⟩ := hrel
    have HB := Lib.hid hb
    clear hb P0 O2 A2 x0 x1 x2 x3
    by_cases h4 : i = 4
    · subst h4
      clear hi4
      have HH := HB.out
      go_wp2_with fail
      exact bodyPost_ret (v := .tuple #[u5, .int .i64 0]) (by simp [results, Tryd.results30, go_sem]) rfl ⟨_, rfl, HB.out.out, HB.out.below⟩
    · have hi3 : i < 4 := by omega
      have HI3 := Lib.hid hi3
      have hix := at60 f hi3
      have e4 : decide ((i : Int) < 4) = true := by simp; omega
      have HA : Hid (-9223372036854775808 ≤ f.at i ∧ f.at i ≤ 9223372036854775807) := Lib.hid (at_in HF.out hi3)
      have P1 : Hid (PuB w i (putB f i ++ bys (f.at i) 0) u5 wr) := Lib.hid (by have := HB.out; simpa [bys] using this)
      have HE1 : Hid (putB f (i + 1) = putB f i ++ bys (f.at i) 8) := Lib.hid rfl
      have HL : Hid ((putB f i).length = 8 * i) := Lib.hid (putB_len f i)
      clear h4 hi4 HB
      unfold PuIn at *
      generalize f.at i = x at *
      generalize putB f i = l0 at *
      go_wp2_with fail
      clear hix e4
      go_loopw [5, 8] (fun v5 v8 wr => ∃ (j : Nat) (z : Int), j ≤ 8 ∧ v8 = .int .i64 z ∧ z = 56 - 8 * (j : Int) ∧ PuB w i (l0 ++ bys x j) v5 wr) (fun _ v8 _ => puM v8)
      case atStart => exact ⟨0, 56, by omega, rfl, rfl, P1.out⟩
      case round =>
        obtain ⟨j, z, hj8, rfl, hz, hc⟩ := hrel
        have HC := Lib.hid hc
        clear hc P1
        have h9 : j = 0 ∨ j = 1 ∨ j = 2 ∨ j = 3 ∨ j = 4 ∨ j = 5 ∨ j = 6 ∨ j = 7 ∨ j = 8 := by omega
        clear hj8
        rcases h9 with rfl | rfl | rfl | rfl | rfl | rfl | rfl | rfl | rfl
        · obtain rfl : z = 56 := by omega
          clear hz
          obtain ⟨c, cap, rfl⟩ := own_shape HC.out.out.row
          go_wp2_with (at_builtin; refine wpList_app rfl (.tmp 23) (.tmp 28) 41 rfl 5 i5 .u8 1 Tryd.underlying41 hi hz0 hz1 hz2 (by decide) rfl HC.out.out HC.out.below.size (x / 72057594037927936 % 256) rfl (by have := HL.out; have := HI3.out; rw [List.length_append, bys_len]; omega) ?_)
          intro v6 w6 h1 h2 h3 h4
          have HN : Hid (PuB w i (l0 ++ bys x 1) v6 w6) := Lib.hid ⟨by rw [bys_step, show by8 x 0 = x / 72057594037927936 % 256 from by simp [by8, pw8]]; exact h1, HC.out.below.trans h3⟩
          clear h1 h2 h3 h4 HC
          go_wp2_with fail
          go_roundw
          case rel => exact ⟨1, _, by omega, rfl, by omega, HN.out⟩
          case measure => simp [puM, intOf]
        · obtain rfl : z = 48 := by omega
          clear hz
          obtain ⟨c, cap, rfl⟩ := own_shape HC.out.out.row
          go_wp2_with (at_builtin; refine wpList_app rfl (.tmp 23) (.tmp 28) 41 rfl 5 i5 .u8 1 Tryd.underlying41 hi hz0 hz1 hz2 (by decide) rfl HC.out.out HC.out.below.size (x / 281474976710656 % 256) rfl (by have := HL.out; have := HI3.out; rw [List.length_append, bys_len]; omega) ?_)
          intro v6 w6 h1 h2 h3 h4
          have HN : Hid (PuB w i (l0 ++ bys x 2) v6 w6) := Lib.hid ⟨by rw [bys_step, show by8 x 1 = x / 281474976710656 % 256 from by simp [by8, pw8]]; exact h1, HC.out.below.trans h3⟩
          clear h1 h2 h3 h4 HC
          go_wp2_with fail
          go_roundw
          case rel => exact ⟨2, _, by omega, rfl, by omega, HN.out⟩
          case measure => simp [puM, intOf]
        · obtain rfl : z = 40 := by omega
          clear hz
          obtain ⟨c, cap, rfl⟩ := own_shape HC.out.out.row
          go_wp2_with (at_builtin; refine wpList_app rfl (.tmp 23) (.tmp 28) 41 rfl 5 i5 .u8 1 Tryd.underlying41 hi hz0 hz1 hz2 (by decide) rfl HC.out.out HC.out.below.size (x / 1099511627776 % 256) rfl (by have := HL.out; have := HI3.out; rw [List.length_append, bys_len]; omega) ?_)
          intro v6 w6 h1 h2 h3 h4
          have HN : Hid (PuB w i (l0 ++ bys x 3) v6 w6) := Lib.hid ⟨by rw [bys_step, show by8 x 2 = x / 1099511627776 % 256 from by simp [by8, pw8]]; exact h1, HC.out.below.trans h3⟩
          clear h1 h2 h3 h4 HC
          go_wp2_with fail
          go_roundw
          case rel => exact ⟨3, _, by omega, rfl, by omega, HN.out⟩
          case measure => simp [puM, intOf]
        · obtain rfl : z = 32 := by omega
          clear hz
          obtain ⟨c, cap, rfl⟩ := own_shape HC.out.out.row
          go_wp2_with (at_builtin; refine wpList_app rfl (.tmp 23) (.tmp 28) 41 rfl 5 i5 .u8 1 Tryd.underlying41 hi hz0 hz1 hz2 (by decide) rfl HC.out.out HC.out.below.size (x / 4294967296 % 256) rfl (by have := HL.out; have := HI3.out; rw [List.length_append, bys_len]; omega) ?_)
          intro v6 w6 h1 h2 h3 h4
          have HN : Hid (PuB w i (l0 ++ bys x 4) v6 w6) := Lib.hid ⟨by rw [bys_step, show by8 x 3 = x / 4294967296 % 256 from by simp [by8, pw8]]; exact h1, HC.out.below.trans h3⟩
          clear h1 h2 h3 h4 HC
          go_wp2_with fail
          go_roundw
          case rel => exact ⟨4, _, by omega, rfl, by omega, HN.out⟩
          case measure => simp [puM, intOf]
        · obtain rfl : z = 24 := by omega
          clear hz
          obtain ⟨c, cap, rfl⟩ := own_shape HC.out.out.row
          go_wp2_with (at_builtin; refine wpList_app rfl (.tmp 23) (.tmp 28) 41 rfl 5 i5 .u8 1 Tryd.underlying41 hi hz0 hz1 hz2 (by decide) rfl HC.out.out HC.out.below.size (x / 16777216 % 256) rfl (by have := HL.out; have := HI3.out; rw [List.length_append, bys_len]; omega) ?_)
          intro v6 w6 h1 h2 h3 h4
          have HN : Hid (PuB w i (l0 ++ bys x 5) v6 w6) := Lib.hid ⟨by rw [bys_step, show by8 x 4 = x / 16777216 % 256 from by simp [by8, pw8]]; exact h1, HC.out.below.trans h3⟩
          clear h1 h2 h3 h4 HC
          go_wp2_with fail
          go_roundw
          case rel => exact ⟨5, _, by omega, rfl, by omega, HN.out⟩
          case measure => simp [puM, intOf]
        · obtain rfl : z = 16 := by omega
          clear hz
          obtain ⟨c, cap, rfl⟩ := own_shape HC.out.out.row
          go_wp2_with (at_builtin; refine wpList_app rfl (.tmp 23) (.tmp 28) 41 rfl 5 i5 .u8 1 Tryd.underlying41 hi hz0 hz1 hz2 (by decide) rfl HC.out.out HC.out.below.size (x / 65536 % 256) rfl (by have := HL.out; have := HI3.out; rw [List.length_append, bys_len]; omega) ?_)
          intro v6 w6 h1 h2 h3 h4
          have HN : Hid (PuB w i (l0 ++ bys x 6) v6 w6) := Lib.hid ⟨by rw [bys_step, show by8 x 5 = x / 65536 % 256 from by simp [by8, pw8]]; exact h1, HC.out.below.trans h3⟩
          clear h1 h2 h3 h4 HC
          go_wp2_with fail
          go_roundw
          case rel => exact ⟨6, _, by omega, rfl, by omega, HN.out⟩
          case measure => simp [puM, intOf]
        · obtain rfl : z = 8 := by omega
          clear hz
          obtain ⟨c, cap, rfl⟩ := own_shape HC.out.out.row
          go_wp2_with (at_builtin; refine wpList_app rfl (.tmp 23) (.tmp 28) 41 rfl 5 i5 .u8 1 Tryd.underlying41 hi hz0 hz1 hz2 (by decide) rfl HC.out.out HC.out.below.size (x / 256 % 256) rfl (by have := HL.out; have := HI3.out; rw [List.length_append, bys_len]; omega) ?_)
          intro v6 w6 h1 h2 h3 h4
          have HN : Hid (PuB w i (l0 ++ bys x 7) v6 w6) := Lib.hid ⟨by rw [bys_step, show by8 x 6 = x / 256 % 256 from by simp [by8, pw8]]; exact h1, HC.out.below.trans h3⟩
          clear h1 h2 h3 h4 HC
          go_wp2_with fail
          go_roundw
          case rel => exact ⟨7, _, by omega, rfl, by omega, HN.out⟩
          case measure => simp [puM, intOf]
        · obtain rfl : z = 0 := by omega
          clear hz
          obtain ⟨c, cap, rfl⟩ := own_shape HC.out.out.row
          go_wp2_with (at_builtin; refine wpList_app rfl (.tmp 23) (.tmp 28) 41 rfl 5 i5 .u8 1 Tryd.underlying41 hi hz0 hz1 hz2 (by decide) rfl HC.out.out HC.out.below.size (x % 256) rfl (by have := HL.out; have := HI3.out; rw [List.length_append, bys_len]; omega) ?_)
          intro v6 w6 h1 h2 h3 h4
          have HN : Hid (PuB w i (l0 ++ bys x 8) v6 w6) := Lib.hid ⟨by rw [bys_step, show by8 x 7 = x % 256 from by simp [by8, pw8]]; exact h1, HC.out.below.trans h3⟩
          clear h1 h2 h3 h4 HC
          go_wp2_with fail
          go_roundw
          case rel => exact ⟨8, _, by omega, rfl, by omega, HN.out⟩
          case measure => simp [puM, intOf]
        · obtain rfl : z = -8 := by omega
          clear hz
          go_wp2_with fail
          go_roundw
          case rel => exact ⟨i + 1, HI3.out, by go_num, by rw [HE1.out]; exact ⟨HC.out.out, HC.out.below⟩⟩
          case measure => simp [intOf]; have := HI3.out; omega
end Go.Proofs.YtabihdhgonnihaaDoor

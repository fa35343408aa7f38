/- Numbers are written, by the program. -/
import Derived.Test.YtlmdkcpiimpniaaDoorPj
import Derived.Test.YtlmdkcpiimpniaaDoorM
import Derived.Laws.BitsAllLaws
import Derived.Lib.Zigzag
namespace Go.Proofs.YtlmdkcpiimpniaaDoor
open Go.ChangeShapes Go.WideShapes Go.ChangeAt Go.RowKit
set_option linter.unusedVariables false
set_option linter.unusedSimpArgs false

def vf (x : Int) : List Nat := vi (fold x)
theorem vi_len {x : Nat} (h : x < 18446744073709551616) : (vi x).length ≤ 10 := (gu_le (vi_byte x) (by have := gu_vi h []; rwa [List.append_nil] at this)).2.2
/-- Bytes. -/
def By (b : List Nat) : Prop := ∀ c ∈ b, c < 256
theorem By.drop {b : List Nat} (h : By b) (n : Nat) : By (b.drop n) := fun c hc => h c (List.mem_of_mem_drop hc)
theorem By.take {b : List Nat} (h : By b) (n : Nat) : By (b.take n) := fun c hc => h c (List.mem_of_mem_take hc)
theorem By.app {a b : List Nat} (h : By a) (k : By b) : By (a ++ b) := fun c hc => (List.mem_append.1 hc).elim (h c) (k c)
theorem size5 : (Tryd.prog.info? 5).map (·.size) = some 1 := by kernel_rfl
theorem ns_cat (p q : List Nat) : ns (p ++ q) = ns p ++ ns q := by simp [ns]
/-- Behind appends to v: the new slice v', of bytes zs. -/
structure ApW (B : Nat) (v : Value) (w : World) (v' : Value) (zs : List Nat) (w' : World) : Prop where
  out : OutR 1 (encK .u8) 5 w' B v' (ns zs)
  touch : Touch (fun b => v.ownBlock = some b) w w'
  below : Below B w w'
  blk : ∀ g, v'.ownBlock = some g → v.ownBlock = some g ∨ w.heap.size ≤ g
theorem ApW.refl {B : Nat} {v : Value} {zs : List Nat} {w : World} (h : OutR 1 (encK .u8) 5 w B v (ns zs)) : ApW B v w v zs w := ⟨h, Touch.refl _ _, Below.refl _ _, fun _ h => Or.inl h⟩
theorem ApW.trans {B : Nat} {v v1 v2 : Value} {zs z1 : List Nat} {w w1 w2 : World} (h : ApW B v w v1 zs w1) (k : ApW B v1 w1 v2 z1 w2) : ApW B v w v2 z1 w2 :=
  ⟨k.out, h.touch.trans' k.touch (fun i hi e => (h.blk i e).elim id (fun h => by omega)), h.below.trans k.below, fun g hg => (k.blk g hg).elim (h.blk g) (fun e => Or.inr (Nat.le_trans h.touch.size e))⟩
def ApR (B : Nat) (v : Value) (w : World) (zs : List Nat) (e : Ending) (w' : World) : Prop := ∃ v', e = .returned v' ∧ ApW B v w v' zs w'
def AuRel (B : Nat) (v : Value) (w : World) (res : List Nat) (v' vx : Value) (wr : World) : Prop :=
  ∃ (y : Nat) (zs : List Nat), vx = .int .u64 y ∧ y < 18446744073709551616 ∧ zs ++ vi y = res ∧ ApW B v w v' zs wr
def natOf (v : Value) : Nat := (intOf v).toNat
theorem or128 : ∀ m : Fin 256, bits BinOp.or IntKind.u8 ((m.1 : Nat) : Int) 128 = ((m.1 % 128 + 128 : Nat) : Int) := by decide +kernel
theorem or_128 (y : Nat) : ∃ c : Nat, bits BinOp.or IntKind.u8 ((y : Int) % 256) 128 = (c : Int) ∧ c = y % 128 + 128 := by
  have := or128 ⟨y % 256, Nat.mod_lt _ (by decide)⟩
  refine ⟨y % 128 + 128, ?_, rfl⟩
  rw [show (y : Int) % 256 = ((y % 256 : Nat) : Int) by omega, this]
  simp only []
  omega
set_option maxRecDepth 100000 in
set_option maxHeartbeats 2000000 in
theorem pau {B : Nat} {w : World} {v : Value} {zs : List Nat} {x : Nat} (hO : OutR 1 (encK .u8) 5 w B v (ns zs)) (hB : B ≤ w.heap.size) (hx : x < 18446744073709551616) (hl : zs.length ≤ 10000000) :
    Calls Tryd.prog 59 #[v, .int .u64 (x : Int)] w (ApR B v w (zs ++ vi x)) := by
  obtain ⟨i0, hi, hz0, hz1, hz2⟩ := info_parts info5
  have O := Lib.hid hO; have HX := Lib.hid hx
  have hrl : (zs ++ vi x).length ≤ 10000010 := by rw [List.length_append]; have := vi_len hx; omega
  clear hO
  have HR := Lib.hid (rfl : zs ++ vi x = zs ++ vi x)
  obtain ⟨res, hres⟩ : ∃ r, r = zs ++ vi x := ⟨_, rfl⟩
  rw [← hres] at hrl ⊢
  have HRES := Lib.hid hres
  clear hres HR
  go_enter Tryd.func59, Tryd.ntmps59
  go_wp2_with fail
  go_loopw [0, 1] (fun v' vx wr => AuRel B v w res v' vx wr) (fun _ vx _ => natOf vx)
  case atStart => exact ⟨x, zs, rfl, HX.out, HRES.out.symm, ApW.refl O.out⟩
  case round =>
    clear O hl
    obtain ⟨y, zs, rfl, hy, hzs, hap⟩ := hrel
    have AP := Lib.hid hap; have HZ := Lib.hid hzs
    clear hap hzs
    have hzl : zs.length ≤ 10000010 := by have := congrArg List.length HZ.out; rw [List.length_append] at this; omega
    have hBr : B ≤ wr.heap.size := Nat.le_trans hB AP.out.touch.size
    by_cases hlt : 128 ≤ y
    · obtain ⟨c, cap, rfl⟩ := own_shape AP.out.out.row
      obtain ⟨cb, hcb, hcv⟩ := or_128 y
      have HCV := Lib.hid hcv
      clear hcv
      have hq : (y : Int) / 128 = ((y / 128 : Nat) : Int) := by omega
      have HQ : Hid (y / 128 < y ∧ y / 128 < 18446744073709551616) := Lib.hid (by omega)
      have HZ2 : Hid (zs ++ (cb :: vi (y / 128)) = res) := Lib.hid (by rw [← HZ.out, vi_ge hlt, HCV.out])
      generalize y / 128 = q at *
      go_wp2_with (at_builtin; refine wpList_app rfl (.tmp 9) (.tmp 13) 31 rfl 5 i0 .u8 1 Tryd.underlying31 hi hz0 hz1 hz2 (by decide) rfl AP.out.out hBr cb rfl (by rw [ns_len]; omega) ?_)
      intro v5 w5 h1 h2 h3 h4
      have AP2 : Hid (ApW B v w v5 (zs ++ [cb]) w5) := Lib.hid (AP.out.trans ⟨by rw [← ns_app]; exact h1, h2, h3, h4⟩)
      clear h1 h2 h3 h4
      go_wp2_with fail
      go_roundw
      case rel => exact ⟨q, zs ++ [cb], by simp, HQ.out.2, by rw [← HZ2.out]; simp, AP2.out⟩
      case measure => simp [natOf, intOf]; exact HQ.out.1
    · go_wp2_with (at_builtin; refine wpList_app rfl (.tmp 15) (.tmp 18) 31 rfl 5 i0 .u8 1 Tryd.underlying31 hi hz0 hz1 hz2 (by decide) rfl AP.out.out hBr y rfl (by rw [ns_len]; omega) ?_)
      intro v5 w5 h1 h2 h3 h4
      go_wp2_with fail
      go_ret
      exact ⟨v5, rfl, AP.out.trans ⟨by rw [← HZ.out, vi_lt (by omega), ← ns_app]; exact h1, h2, h3, h4⟩⟩
theorem make_y (n m : Nat) (hn : n ≤ m) (hm : m ≤ 16777216) : ∀ w, (Instr.makeSlice 31 (.int .i64 (n : Int)) (.int .i64 (m : Int))).run Tryd.prog w = .ok (.slice (some ⟨w.heap.size, 0, none⟩) n m) (w.alloc (.cells (madeCells #[Value.int .u8 0] m) 5)) := fun w => by
  obtain ⟨i0, hi, hz0, hz1, hz2⟩ := info_parts info5
  have hr := run_make (P := Tryd.prog) w 31 5 i0 (.int .u8 0) Tryd.underlying31 hi hz0 .i64 .i64 n m (by omega) (by omega) (by rw [hz2]; omega) (by omega)
  rw [hz1] at hr
  simpa [Value.cells] using hr
theorem Blk.short {k : IntKind} {e : TypeId} {w : World} {g cap : Nat} {a b : List Int} (h : Blk k e w g cap (a ++ b)) : Blk k e w g cap a := by
  obtain ⟨r, h1, h2, h3⟩ := h
  refine ⟨vs k b ++ r, ?_, h2, ?_⟩
  · simp [vs_len] at h1 ⊢; omega
  · rw [h3]; simp [vs]
theorem IsK.u8 {w : World} {a : Option Addr} {n c : Nat} {zs : List Nat} (h : IsK .u8 w a n c (ns zs)) : n = zs.length := by rw [h.hlen, ns_len]
/-- A slice of its own behind a call. -/
def NwR (w : World) (zs : List Nat) (e : Ending) (w' : World) : Prop := ∃ v', e = .returned v' ∧ OutR 1 (encK .u8) 5 w' w.heap.size v' (ns zs) ∧ Below w.heap.size w w'
set_option maxRecDepth 100000 in
set_option maxHeartbeats 2000000 in
theorem ppu {w : World} {a : Option Addr} {n c : Nat} {zs : List Nat} {x : Nat} (h : IsK .u8 w a n c (ns zs)) (hx : x < 18446744073709551616) (hl : zs.length ≤ 1000000) :
    Calls Tryd.prog 30 #[.slice a n c, .int .u64 (x : Int)] w (NwR w (zs ++ vi x)) := by
  have H := Lib.hid h
  have hn := h.u8; have hle := h.hle; have hmx := h.hmax
  unfold maxLen at hmx
  obtain ⟨CI, hCI⟩ : ∃ C, C = madeCells #[Value.int .u8 0] (n + 10) := ⟨_, rfl⟩
  have m1 : ∀ w, (Instr.makeSlice 31 (.int .i64 (n : Int)) (.int .i64 ((n : Int) + 10))).run Tryd.prog w = .ok (.slice (some ⟨w.heap.size, 0, none⟩) n (n + 10)) (w.alloc (.cells (madeCells #[Value.int .u8 0] (n + 10)) 5)) := make_y n (n + 10) (by omega) (by omega)
  rw [← hCI] at m1
  have A1 : Hid (Below w.heap.size w (w.alloc (.cells CI 5))) := Lib.hid (Below.alloc (Below.refl _ _) (Nat.le_refl _) _)
  have K1 : Hid (Blk .u8 5 (w.alloc (.cells CI 5)) w.heap.size (n + 10) (List.replicate n 0)) := Lib.hid (by
    rw [hCI]
    have := Blk.new (k := .u8) (e := 5) w (n + 10) (by unfold maxLen; omega)
    rw [← List.replicate_append_replicate] at this
    exact this.short)
  have H1 := Lib.hid (h.below A1.out)
  clear h hCI
  have HN := Lib.hid hn
  have hn2 : n ≤ 1000000 := by omega
  clear hn
  go_enter Tryd.func30, Tryd.ntmps30
  go_wp2_with (with_reducible refine wpList_copyB rfl (.tmp 12) (.tmp 13) 31 rfl 5 Tryd.underlying31 size5 rfl rfl K1.out (by simp) H1.out w.heap.size w A1.out (Nat.le_refl _) ?_)
  intro w3 c3 hk3 hb3
  have hn := HN.out
  have e3 : (ns zs).take n ++ List.replicate (n - (ns zs).length) (0 : Int) = ns zs := by
    rw [List.take_of_length_le (by rw [ns_len]; omega), ns_len, hn, Nat.sub_self]; simp
  rw [e3] at hk3
  have O3 : Hid (OutR 1 (encK .u8) 5 w3 w.heap.size (.slice (some ⟨w.heap.size, 0, none⟩) n (n + 10)) (ns zs)) := Lib.hid (by
    have := OutR.of_blk hk3 (Nat.le_refl w.heap.size)
    rw [ns_len, ← hn] at this; exact this)
  have B3 := Lib.hid hb3
  clear hk3 e3 hn
  go_wp2_with fail
  refine (pau O3.out hb3.size hx (by omega)).mono ?_; rintro e w4 ⟨v4, rfl, hap⟩
  have AP := Lib.hid hap
  clear hap hb3
  go_wp2_with fail
  go_ret
  exact ⟨v4, rfl, AP.out.out, B3.out.trans AP.out.below⟩
/-- An empty slice of its own, that is not nil. -/
theorem own_empty (w : World) (e : TypeId) : OutR 1 (encK .u8) e (w.alloc (.cells #[] e)) w.heap.size (.slice (some ⟨w.heap.size, 0, none⟩) 0 0) (ns []) :=
  ⟨⟨rfl, Or.inr ⟨w.heap.size, 0, #[], rfl, Nat.zero_le _, block_new _ _, Nat.le_refl _, Nat.zero_le _, rfl, rfl⟩⟩, fun g hg => by cases hg; exact Nat.le_refl _⟩
theorem fold_zig (x : Int) : fold x = Lib.zigzag x := by
  unfold fold Lib.zigzag
  split <;> split <;> omega
theorem pfold {x : Int} (hx : -9223372036854775808 ≤ x ∧ x ≤ 9223372036854775807) (w : World) : Calls Tryd.prog 60 #[.int .i64 x] w fun e w' => e = .returned (.int .u64 (fold x : Nat)) ∧ w = w' := by
  rw [fold_zig]
  by_cases h : x < 0
  · have e := Lib.hid (Lib.zigzag_neg hx.1 h)
    go_enter Tryd.func60, Tryd.ntmps60
    go_wp2_with fail
    go_ret
    exact ⟨ret_int e.out, rfl⟩
  · have e := Lib.hid (Lib.zigzag_nonneg (x := x) (by omega))
    go_enter Tryd.func60, Tryd.ntmps60
    go_wp2_with fail
    go_ret
    exact ⟨ret_int e.out.symm, rfl⟩
theorem ppi {w : World} {a : Option Addr} {n c : Nat} {zs : List Nat} {x : Int} (h : IsK .u8 w a n c (ns zs)) (hx : -9223372036854775808 ≤ x ∧ x ≤ 9223372036854775807) (hl : zs.length ≤ 1000000) :
    Calls Tryd.prog 32 #[.slice a n c, .int .i64 x] w (NwR w (zs ++ vf x)) := by
  have P1 := Lib.hid (pfold hx w)
  have P2 := Lib.hid (ppu h (fold_lt hx) hl)
  unfold vf
  generalize vi (fold x) = vx at *
  generalize fold x = f at *
  clear h hl
  go_enter Tryd.func32, Tryd.ntmps32
  go_wp2_with fail
  refine (P1.out).mono ?_; rintro e w1 ⟨rfl, rfl⟩
  go_wp2_with fail
  refine (P2.out).mono ?_; rintro e w2 ⟨v2, rfl, ho, hb⟩
  have O := Lib.hid ho; have B := Lib.hid hb
  clear ho hb
  go_wp2_with fail
  go_ret
  exact ⟨v2, rfl, O.out, B.out⟩
end Go.Proofs.YtlmdkcpiimpniaaDoor
/- Numbers are read, by the program. -/
namespace Go.Proofs.YtlmdkcpiimpniaaDoor
open Go.ChangeShapes Go.WideShapes Go.ChangeAt Go.RowKit
set_option linter.unusedVariables false
set_option linter.unusedSimpArgs false

/-- What a reading of an unsigned number returns. -/
def guV : Option (Nat × Nat) → Value
  | none => .tuple #[.int .u64 0, .int .i64 0, .int .i64 15]
  | some (x, n) => .tuple #[.int .u64 x, .int .i64 n, .int .i64 0]
def giV : Option (Nat × Nat) → Value
  | none => .tuple #[.int .i64 0, .int .i64 0, .int .i64 15]
  | some (x, n) => .tuple #[.int .i64 (unf x), .int .i64 n, .int .i64 0]
def GuRel (b : List Nat) (m : Nat) (r : Option (Nat × Nat)) (vx vi : Value) : Prop :=
  ∃ i x : Nat, i ≤ m ∧ vi = .int .i64 i ∧ vx = .int .u64 x ∧ guF i x (b.drop i) = r ∧ x < 128 ^ i
theorem min_10 (n : Nat) : ∃ m, m = min n 10 ∧ m ≤ n ∧ m ≤ 10 ∧ (m = n ∨ m = 10) := ⟨min n 10, rfl, by omega, by omega, by omega⟩
theorem and_127 {c : Nat} (h : c < 256) : bits BinOp.and IntKind.u8 (c : Int) 127 = ((c % 128 : Nat) : Int) := by
  have := u8_and_nat c 127 h (by decide)
  rw [nat_mask7] at this
  exact this
theorem pow_7 (i : Nat) : 2 ^ (7 * i) = 128 ^ i := by rw [Nat.pow_mul]
theorem limb {i c : Nat} (hi : i ≤ 9) (h9 : i = 9 → c ≤ 1) : c % 128 * 128 ^ i < 18446744073709551616 := by
  have h4 : c % 128 * 128 ^ i ≤ 127 * 128 ^ i := Nat.mul_le_mul_right _ (by omega)
  rcases Nat.lt_or_ge i 9 with h | h
  · have h5 := p128_9 (i := i) (by omega)
    omega
  · obtain rfl : i = 9 := by omega
    have := h9 rfl
    rw [q128]; omega
theorem join_7 {i c x : Nat} (hi : i ≤ 9) (h9 : i = 9 → c ≤ 1) (hx : x < 128 ^ i) : bits BinOp.or IntKind.u64 (x : Int) ((c % 128 * 128 ^ i : Nat) : Int) = ((x + c % 128 * 128 ^ i : Nat) : Int) := by
  have hl := limb hi h9
  have hxl : x < 18446744073709551616 := by
    rcases Nat.lt_or_ge i 9 with h | h
    · have h5 := p128_9 (i := i) (by omega)
      omega
    · obtain rfl : i = 9 := by omega
      rw [q128] at hx; omega
  rw [u64_or_nat _ _ hxl hl, Nat.or_comm, nat_join (7 * i) _ _ (by rw [pow_7]; exact Nat.mul_mod_left _ _) (by rw [pow_7]; exact hx), Nat.add_comm]
theorem next_lt {i c x : Nat} (hx : x < 128 ^ i) : x + c % 128 * 128 ^ i < 128 ^ (i + 1) := by
  have h4 : c % 128 * 128 ^ i ≤ 127 * 128 ^ i := Nat.mul_le_mul_right _ (by omega)
  rw [Nat.pow_succ]; omega
set_option maxRecDepth 100000 in
set_option maxHeartbeats 4000000 in
theorem pgu {w : World} {a : Option Addr} {n c : Nat} {b : List Nat} (h : IsK .u8 w a n c (ns b)) (hb : By b) :
    Calls Tryd.prog 42 #[.slice a n c] w fun e w' => e = .returned (guV (gu b)) ∧ w = w' := by
  have hn := h.u8; have hle := h.hle; have hmx := h.hmax
  unfold maxLen at hmx
  have H := Lib.hid h; have HB := Lib.hid hb; have HN := Lib.hid hn
  obtain ⟨m, hm, hm1, hm2, hm3⟩ := min_10 n
  have HM3 := Lib.hid hm3
  have hmi : (if (n : Int) < 10 then (n : Int) else 10) = (m : Int) := by rw [hm]; split <;> omega
  have hmi2 : (if (10 : Int) < (n : Int) then (10 : Int) else (n : Int)) = (m : Int) := by rw [hm]; split <;> omega
  obtain ⟨R, hR⟩ : ∃ R, R = gu b := ⟨_, rfl⟩
  rw [← hR]
  have HR := Lib.hid hR
  clear h hb hn hm hm3 hR
  go_enter Tryd.func42, Tryd.ntmps42
  go_wp2_with fail
  go_loop [5, 6, 7, 14] (fun vx _ _ vi => GuRel b m R vx vi) (fun _ _ _ vi => m - (intOf vi).toNat)
  case atStart => exact ⟨0, 0, Nat.zero_le _, rfl, rfl, by rw [HR.out]; rfl, by simp⟩
  case round =>
    obtain ⟨i, x, hi, rfl, rfl, hg, hx⟩ := hrel
    have HG := Lib.hid hg; have HX := Lib.hid hx
    clear hg hx
    by_cases hlt : i < m
    · have hil : i < b.length := by have := HN.out; omega
      obtain ⟨bb, off, rfl, _, _⟩ := H.out.at_ (by intro h; have h1 := ns_len b; rw [h, List.length_nil] at h1; omega)
      have x0 := H.out.cellK (i := i) (by rw [ns_len]; exact hil)
      rw [ns_get] at x0
      have hd : b.drop i = b.getD i 0 :: b.drop (i + 1) := by rw [List.drop_eq_getElem_cons hil]; simp [hil]
      have hcb : b.getD i 0 < 256 := HB.out _ (by simp [hil])
      have hg2 := HG.out
      rw [hd, guF] at hg2
      generalize b.getD i 0 = cc at *
      have hi9 : i ≤ 9 := by omega
      have hX2 := next_lt (c := cc) HX.out
      by_cases hA : i = 9 ∧ 1 < cc
      · rw [if_pos (Or.inr hA)] at hg2
        have HG2 := Lib.hid hg2
        have e9 : ((i : Int) == 9) = true := by simp; omega
        have e1 : decide (1 < (cc : Int)) = true := by simp; omega
        have e1' : decide (1 < cc) = true := by simp; omega
        obtain ⟨-, hc1⟩ := hA
        clear hg2 hd hX2
        go_wp2_with fail
        go_ret3
        exact ⟨by rw [← HG2.out]; rfl, rfl⟩
      · rw [if_neg (by omega)] at hg2
        have hl := limb (c := cc) hi9 (by omega)
        have hj := join_7 (c := cc) hi9 (by omega) HX.out
        have ha := and_127 hcb
        have hp : ((cc % 128 : Nat) : Int) * 2 ^ (7 * i) = ((cc % 128 * 128 ^ i : Nat) : Int) := by
          rw [← pow_7]; push_cast; rfl
        have hw : IntKind.u64.wrap (((cc % 128 : Nat) : Int) * 2 ^ (7 * i)) = ((cc % 128 * 128 ^ i : Nat) : Int) := by
          rw [hp]; exact IntWalk.u64_in _ (by omega)
        have hr : cc % 128 < 128 := Nat.mod_lt _ (by decide)
        clear hp
        have HS : Hid (i = 0 → cc % 128 * 128 ^ i = cc % 128) := Lib.hid (by intro e; subst e; simp)
        generalize x + cc % 128 * 128 ^ i = X at *
        generalize cc % 128 * 128 ^ i = s at *
        generalize cc % 128 = r at *
        have HX2 := Lib.hid hX2
        clear hX2
        by_cases h128 : 128 ≤ cc
        · rw [if_pos h128] at hg2
          have HG2 := Lib.hid hg2
          have e9 : ((i : Int) == 9) = false := by simp; omega
          clear hg2 hd hA
          go_wp2_with fail
          go_round
          case rel => exact ⟨i + 1, X, by omega, by go_num, rfl, HG2.out, HX2.out⟩
          case measure => simp [intOf]; omega
        · rw [if_neg h128] at hg2
          have hc128 : cc < 128 := by omega
          by_cases hC : cc = 0 ∧ 0 < i
          · rw [if_pos hC] at hg2
            have HG2 := Lib.hid hg2
            clear hg2 hd hA
            obtain ⟨hc0, hi0⟩ := hC
            have e0 : ((cc : Int) == 0) = true := by simp; omega
            have e1 : decide (1 < (cc : Int)) = false := by simp; omega
            have e1' : decide (1 < cc) = false := by simp; omega
            have hc1 : cc ≤ 1 := by omega
            clear hc0
            by_cases h9 : i = 9
            · have e9 : ((i : Int) == 9) = true := by simp; omega
              clear h9
              go_wp2_with fail
              go_ret3
              exact ⟨by rw [← HG2.out]; rfl, rfl⟩
            · have e9 : ((i : Int) == 9) = false := by simp; omega
              go_wp2_with fail
              go_ret3
              exact ⟨by rw [← HG2.out]; rfl, rfl⟩
          · rw [if_neg hC] at hg2
            have HG2 := Lib.hid hg2
            clear hg2 hd
            by_cases h9 : i = 9
            · have hc1 : cc ≤ 1 := by omega
              have e9 : ((i : Int) == 9) = true := by simp; omega
              have e0 : ((cc : Int) == 0) = false := by simp; omega
              have e1 : decide (1 < (cc : Int)) = false := by simp; omega
              have e1' : decide (1 < cc) = false := by simp; omega
              clear h9 hA hC
              go_wp2_with fail
              go_ret3
              exact ⟨by rw [← HG2.out]; rfl, rfl⟩
            · have e9 : ((i : Int) == 9) = false := by simp; omega
              clear hA
              by_cases hc0 : cc = 0
              · have hi0 : i = 0 := by omega
                subst hi0
                have hs := HS.out rfl
                subst hs
                have x0' : w.cell? ⟨bb, off, none⟩ = some (.int .u8 (cc : Int)) := x0
                clear x0
                have e0 : ((cc : Int) == 0) = true := by simp; omega
                clear hc0 hC h9
                go_wp2_with fail
                go_ret3
                exact ⟨by rw [← HG2.out]; rfl, rfl⟩
              · have e0 : ((cc : Int) == 0) = false := by simp; omega
                clear hC
                go_wp2_with fail
                go_ret3
                exact ⟨by rw [← HG2.out]; rfl, rfl⟩
    · have HE : Hid (none = R) := Lib.hid (by
        rw [← HG.out]
        have hm := HM3.out; have hn := HN.out
        cases hd : b.drop i with
        | nil => rfl
        | cons y r =>
          have h1 := congrArg List.length hd
          rw [List.length_drop, List.length_cons] at h1
          rw [guF, if_pos (by omega)])
      go_wp2_with fail
      go_ret3
      exact ⟨by rw [← HE.out]; rfl, rfl⟩
theorem giV_some (y k : Nat) : giV (some (y, k)) = .tuple #[.int .i64 (unf y), .int .i64 k, .int .i64 0] := rfl
theorem unf_1 {y : Nat} (h : y % 2 = 1) : unf y = -((y / 2 : Nat) : Int) - 1 := by unfold unf; rw [if_pos h]
theorem unf_0 {y : Nat} (h : ¬ y % 2 = 1) : unf y = ((y / 2 : Nat) : Int) := by unfold unf; rw [if_neg h]
theorem and_1 {y : Nat} (h : y < 18446744073709551616) : bits BinOp.and IntKind.u64 (y : Int) 1 = ((y % 2 : Nat) : Int) := by
  have := u64_and_nat y 1 h (by decide)
  rw [nat_mask1] at this
  exact this
set_option maxRecDepth 100000 in
set_option maxHeartbeats 2000000 in
theorem pgi {w : World} {a : Option Addr} {n c : Nat} {b : List Nat} (h : IsK .u8 w a n c (ns b)) (hb : By b) :
    Calls Tryd.prog 44 #[.slice a n c] w fun e w' => e = .returned (giV (gu b)) ∧ w = w' := by
  have P := Lib.hid (pgu h hb)
  have hs := fun x k (hq : gu b = some (x, k)) => (gu_some hb hq).1
  clear h hb
  cases hq : gu b with
  | none =>
    rw [hq] at P
    clear hs
    go_enter Tryd.func44, Tryd.ntmps44
    go_wp2_with fail
    refine (P.out).mono ?_; rintro e w1 ⟨rfl, rfl⟩
    unfold guV
    go_wp2_with fail
    go_ret3
    exact ⟨rfl, rfl⟩
  | some q =>
    obtain ⟨y, k⟩ := q
    have hy := hs y k hq
    rw [hq] at P
    clear hs hq
    have ha := and_1 hy
    have hd : (y : Int) / 2 = ((y / 2 : Nat) : Int) := by omega
    have hdl : y / 2 < 9223372036854775808 := by omega
    have hx := Lib.i64_not (y / 2) hdl
    rw [giV_some]
    by_cases hm : y % 2 = 1
    · rw [unf_1 hm]
      rw [hm] at ha
      clear hm
      generalize y / 2 = z at *
      go_enter Tryd.func44, Tryd.ntmps44
      go_wp2_with fail
      refine (P.out).mono ?_; rintro e w1 ⟨rfl, rfl⟩
      unfold guV
      go_wp2_with fail
      go_ret3
      exact ⟨rfl, rfl⟩
    · rw [unf_0 hm]
      rw [show y % 2 = 0 by omega] at ha
      clear hm
      generalize y / 2 = z at *
      go_enter Tryd.func44, Tryd.ntmps44
      go_wp2_with fail
      refine (P.out).mono ?_; rintro e w1 ⟨rfl, rfl⟩
      unfold guV
      go_wp2_with fail
      go_ret3
      exact ⟨rfl, rfl⟩
end Go.Proofs.YtlmdkcpiimpniaaDoor

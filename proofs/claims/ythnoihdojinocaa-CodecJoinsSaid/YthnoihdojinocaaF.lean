/- Numbers are written, by both. -/
import Derived.Test.YthnoihdojinocaaE
import Derived.Test.YthnoihdojinocaaD
import Derived.Laws.BitsAllLaws
namespace Go.Proofs.Ythnoihdojinocaa
open Go.ChangeShapes Go.WideShapes Go.ChangeAt Go.RowKit
set_option linter.unusedVariables false
set_option linter.unusedSimpArgs false

theorem info5 : (Try.prog.info? 5).map (fun i => (i.zero, i.size, i.bytes)) = some (some (.int .u8 0), 1, 1) := by kernel_rfl
theorem size5 : (Try.prog.info? 5).map (·.size) = some 1 := by kernel_rfl
theorem ns_cat (p q : List Nat) : ns (p ++ q) = ns p ++ ns q := by simp [ns]
/-- Behind appends to v: the new slice v', of bytes zs. -/
structure ApW (B : Nat) (v : Value) (w : World) (v' : Value) (zs : List Nat) (w' : World) : Prop where
  out : OutR 1 (encK .u8) 5 w' B v' (ns zs)
  touch : Touch (fun b => v.ownBlock = some b) w w'
  below : Below B w w'
  blk : ∀ g, v'.ownBlock = some g → v.ownBlock = some g ∨ w.heap.size ≤ g
theorem ApW.refl {B : Nat} {v : Value} {zs : List Nat} {w : World} (h : OutR 1 (encK .u8) 5 w B v (ns zs)) : ApW B v w v zs w := ⟨h, Touch.refl _ _, Below.refl _ _, fun _ h => Or.inl h⟩
theorem ApW.trans {B : Nat} {v v1 v2 : Value} {zs z1 : List Nat} {w w1 w2 : World} (h : ApW B v w v1 zs w1) (k : ApW B v1 w1 v2 z1 w2) : ApW B v w v2 z1 w2 :=
  ⟨k.out, h.touch.trans' k.touch (fun i hi e => (h.blk i e).elim id (fun h => by omega)), h.below.trans k.below, fun g hg => (k.blk g hg).elim (h.blk g) (fun e => Or.inr (Nat.le_trans h.touch.size e))⟩
def ApR (B : Nat) (v : Value) (w : World) (zs : List Nat) (e : Ending) (w' : World) : Prop := ∃ v', e = .returned v' ∧ ApW B v w v' zs w'
def AuRel (B : Nat) (v : Value) (w : World) (res : List Nat) (v' vx : Value) (wr : World) : Prop :=
  ∃ (y : Nat) (zs : List Nat), vx = .int .u64 y ∧ y < 18446744073709551616 ∧ zs ++ vi y = res ∧ ApW B v w v' zs wr
def natOf (v : Value) : Nat := (intOf v).toNat
theorem or128 : ∀ m : Fin 256, bits BinOp.or IntKind.u8 ((m.1 : Nat) : Int) 128 = ((m.1 % 128 + 128 : Nat) : Int) := by decide +kernel
theorem or_128 (y : Nat) : ∃ c : Nat, bits BinOp.or IntKind.u8 ((y : Int) % 256) 128 = (c : Int) ∧ c = y % 128 + 128 := by
  have := or128 ⟨y % 256, Nat.mod_lt _ (by decide)⟩
  refine ⟨y % 128 + 128, ?_, rfl⟩
  rw [show (y : Int) % 256 = ((y % 256 : Nat) : Int) by omega, this]
  simp only []
  omega
set_option maxRecDepth 100000 in
set_option maxHeartbeats 2000000 in
theorem pau {B : Nat} {w : World} {v : Value} {zs : List Nat} {x : Nat} (hO : OutR 1 (encK .u8) 5 w B v (ns zs)) (hB : B ≤ w.heap.size) (hx : x < 18446744073709551616) (hl : zs.length ≤ 10000000) :
    Calls Try.prog 45 #[v, .int .u64 (x : Int)] w (ApR B v w (zs ++ vi x)) := by
  obtain ⟨i0, hi, hz0, hz1, hz2⟩ := info_parts info5
  have O := Lib.hid hO; have HX := Lib.hid hx
  have hrl : (zs ++ vi x).length ≤ 10000010 := by rw [List.length_append]; have := vi_len hx; omega
  clear hO
  have HR := Lib.hid (rfl : zs ++ vi x = zs ++ vi x)
  obtain ⟨res, hres⟩ : ∃ r, r = zs ++ vi x := ⟨_, rfl⟩
  rw [← hres] at hrl ⊢
  have HRES := Lib.hid hres
  clear hres HR
  go_enter Try.func45, Try.ntmps45
  go_wp2_with fail
  go_loopw [0, 1] (fun v' vx wr => AuRel B v w res v' vx wr) (fun _ vx _ => natOf vx)
  case atStart => exact ⟨x, zs, rfl, HX.out, HRES.out.symm, ApW.refl O.out⟩
  case round =>
    clear O hl
    obtain ⟨y, zs, rfl, hy, hzs, hap⟩ := hrel
    have AP := Lib.hid hap; have HZ := Lib.hid hzs
    clear hap hzs
    have hzl : zs.length ≤ 10000010 := by have := congrArg List.length HZ.out; rw [List.length_append] at this; omega
    have hBr : B ≤ wr.heap.size := Nat.le_trans hB AP.out.touch.size
    by_cases hlt : 128 ≤ y
    · obtain ⟨c, cap, rfl⟩ := own_shape AP.out.out.row
      obtain ⟨cb, hcb, hcv⟩ := or_128 y
      have HCV := Lib.hid hcv
      clear hcv
      have hq : (y : Int) / 128 = ((y / 128 : Nat) : Int) := by omega
      have HQ : Hid (y / 128 < y ∧ y / 128 < 18446744073709551616) := Lib.hid (by omega)
      have HZ2 : Hid (zs ++ (cb :: vi (y / 128)) = res) := Lib.hid (by rw [← HZ.out, vi_ge hlt, HCV.out])
      generalize y / 128 = q at *
      go_wp2_with (at_builtin; refine wpList_app rfl (.tmp 9) (.tmp 13) 29 rfl 5 i0 .u8 1 Try.underlying29 hi hz0 hz1 hz2 (by decide) rfl AP.out.out hBr cb rfl (by rw [ns_len]; omega) ?_)
      intro v5 w5 h1 h2 h3 h4
      have AP2 : Hid (ApW B v w v5 (zs ++ [cb]) w5) := Lib.hid (AP.out.trans ⟨by rw [← ns_app]; exact h1, h2, h3, h4⟩)
      clear h1 h2 h3 h4
      go_wp2_with fail
      go_roundw
      case rel => exact ⟨q, zs ++ [cb], by simp, HQ.out.2, by rw [← HZ2.out]; simp, AP2.out⟩
      case measure => simp [natOf, intOf]; exact HQ.out.1
    · go_wp2_with (at_builtin; refine wpList_app rfl (.tmp 15) (.tmp 18) 29 rfl 5 i0 .u8 1 Try.underlying29 hi hz0 hz1 hz2 (by decide) rfl AP.out.out hBr y rfl (by rw [ns_len]; omega) ?_)
      intro v5 w5 h1 h2 h3 h4
      go_wp2_with fail
      go_ret
      exact ⟨v5, rfl, AP.out.trans ⟨by rw [← HZ.out, vi_lt (by omega), ← ns_app]; exact h1, h2, h3, h4⟩⟩
theorem make_y (n m : Nat) (hn : n ≤ m) (hm : m ≤ 16777216) : ∀ w, (Instr.makeSlice 29 (.int .i64 (n : Int)) (.int .i64 (m : Int))).run Try.prog w = .ok (.slice (some ⟨w.heap.size, 0, none⟩) n m) (w.alloc (.cells (madeCells #[Value.int .u8 0] m) 5)) := fun w => by
  obtain ⟨i0, hi, hz0, hz1, hz2⟩ := info_parts info5
  have hr := run_make (P := Try.prog) w 29 5 i0 (.int .u8 0) Try.underlying29 hi hz0 .i64 .i64 n m (by omega) (by omega) (by rw [hz2]; omega) (by omega)
  rw [hz1] at hr
  simpa [Value.cells] using hr
theorem Blk.short {k : IntKind} {e : TypeId} {w : World} {g cap : Nat} {a b : List Int} (h : Blk k e w g cap (a ++ b)) : Blk k e w g cap a := by
  obtain ⟨r, h1, h2, h3⟩ := h
  refine ⟨vs k b ++ r, ?_, h2, ?_⟩
  · simp [vs_len] at h1 ⊢; omega
  · rw [h3]; simp [vs]
theorem IsK.u8 {w : World} {a : Option Addr} {n c : Nat} {zs : List Nat} (h : IsK .u8 w a n c (ns zs)) : n = zs.length := by rw [h.hlen, ns_len]
/-- A slice of its own behind a call. -/
def NwR (w : World) (zs : List Nat) (e : Ending) (w' : World) : Prop := ∃ v', e = .returned v' ∧ OutR 1 (encK .u8) 5 w' w.heap.size v' (ns zs) ∧ Below w.heap.size w w'
set_option maxRecDepth 100000 in
set_option maxHeartbeats 2000000 in
theorem ppu {w : World} {a : Option Addr} {n c : Nat} {zs : List Nat} {x : Nat} (h : IsK .u8 w a n c (ns zs)) (hx : x < 18446744073709551616) (hl : zs.length ≤ 1000000) :
    Calls Try.prog 28 #[.slice a n c, .int .u64 (x : Int)] w (NwR w (zs ++ vi x)) := by
  have H := Lib.hid h
  have hn := h.u8; have hle := h.hle; have hmx := h.hmax
  unfold maxLen at hmx
  obtain ⟨CI, hCI⟩ : ∃ C, C = madeCells #[Value.int .u8 0] (n + 10) := ⟨_, rfl⟩
  have m1 : ∀ w, (Instr.makeSlice 29 (.int .i64 (n : Int)) (.int .i64 ((n : Int) + 10))).run Try.prog w = .ok (.slice (some ⟨w.heap.size, 0, none⟩) n (n + 10)) (w.alloc (.cells (madeCells #[Value.int .u8 0] (n + 10)) 5)) := make_y n (n + 10) (by omega) (by omega)
  rw [← hCI] at m1
  have A1 : Hid (Below w.heap.size w (w.alloc (.cells CI 5))) := Lib.hid (Below.alloc (Below.refl _ _) (Nat.le_refl _) _)
  have K1 : Hid (Blk .u8 5 (w.alloc (.cells CI 5)) w.heap.size (n + 10) (List.replicate n 0)) := Lib.hid (by
    rw [hCI]
    have := Blk.new (k := .u8) (e := 5) w (n + 10) (by unfold maxLen; omega)
    rw [← List.replicate_append_replicate] at this
    exact this.short)
  have H1 := Lib.hid (h.below A1.out)
  clear h hCI
  have HN := Lib.hid hn
  have hn2 : n ≤ 1000000 := by omega
  clear hn
  go_enter Try.func28, Try.ntmps28
  go_wp2_with (with_reducible refine wpList_copyB rfl (.tmp 12) (.tmp 13) 29 rfl 5 Try.underlying29 size5 rfl rfl K1.out (by simp) H1.out w.heap.size w A1.out (Nat.le_refl _) ?_)
  intro w3 c3 hk3 hb3
  have hn := HN.out
  have e3 : (ns zs).take n ++ List.replicate (n - (ns zs).length) (0 : Int) = ns zs := by
    rw [List.take_of_length_le (by rw [ns_len]; omega), ns_len, hn, Nat.sub_self]; simp
  rw [e3] at hk3
  have O3 : Hid (OutR 1 (encK .u8) 5 w3 w.heap.size (.slice (some ⟨w.heap.size, 0, none⟩) n (n + 10)) (ns zs)) := Lib.hid (by
    have := OutR.of_blk hk3 (Nat.le_refl w.heap.size)
    rw [ns_len, ← hn] at this; exact this)
  have B3 := Lib.hid hb3
  clear hk3 e3 hn
  go_wp2_with fail
  refine (pau O3.out hb3.size hx (by omega)).mono ?_; rintro e w4 ⟨v4, rfl, hap⟩
  have AP := Lib.hid hap
  clear hap hb3
  go_wp2_with fail
  go_ret
  exact ⟨v4, rfl, AP.out.out, B3.out.trans AP.out.below⟩
end Go.Proofs.Ythnoihdojinocaa

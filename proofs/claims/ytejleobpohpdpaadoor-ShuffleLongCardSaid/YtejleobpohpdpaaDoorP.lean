/- The chapter's examples. -/
import Derived.Test.YtejleobpohpdpaaDoorO
namespace Go.Proofs.YtejleobpohpdpaaDoor
open Go.ChangeShapes Go.WideShapes Go.ChangeAt Go.RowKit

/-- A slice of slices. -/
structure IsCys (w : World) (a : Option Addr) (len cap : Nat) (l : List (List Nat)) : Prop where
  vals : ∃ vs : List Value, IsSl 1 encV w a len cap vs ∧ vs.length = l.length ∧ ∀ i, i < l.length → ∃ ai ci, vs.getD i undef = .slice ai (l.getD i []).length ci ∧ IsK .i64 w ai (l.getD i []).length ci (ns (l.getD i []))
theorem IsCys.below {w w' : World} {a : Option Addr} {len cap : Nat} {l : List (List Nat)} (h : IsCys w a len cap l) (hb : Below w.heap.size w w') : IsCys w' a len cap l := by
  obtain ⟨vs, h1, h2, h3⟩ := h.vals
  refine ⟨vs, h1.below hb, h2, fun i hi => ?_⟩
  obtain ⟨ai, ci, e, hk⟩ := h3 i hi
  exact ⟨ai, ci, e, hk.below hb⟩
theorem IsCys.bd {w : World} {a : Option Addr} {len cap : Nat} {l : List (List Nat)} (h : IsCys w a len cap l) : len = l.length ∧ len ≤ cap ∧ cap ≤ maxLen := by
  obtain ⟨vs, h1, h2, _⟩ := h.vals
  exact ⟨by rw [h1.hlen, h2], h1.hle, h1.hmax⟩
theorem IsCys.adr {w : World} {a : Option Addr} {len cap : Nat} {l : List (List Nat)} (h : IsCys w a len cap l) (hne : l ≠ []) : ∃ b off, a = some ⟨b, off, none⟩ := by
  obtain ⟨vs, h1, h2, _⟩ := h.vals
  obtain ⟨b, off, e, _⟩ := h1.at_ (fun e => hne (by rw [e] at h2; exact List.eq_nil_of_length_eq_zero (by simpa using h2.symm)))
  exact ⟨b, off, e⟩
theorem IsCys.at_ {w : World} {b off len cap : Nat} {l : List (List Nat)} (h : IsCys w (some ⟨b, off, none⟩) len cap l) {i : Nat} (hi : i < l.length) :
    ∃ ai ci, w.cell? ⟨b, off + i, none⟩ = some (.slice ai (l.getD i []).length ci) ∧ IsK .i64 w ai (l.getD i []).length ci (ns (l.getD i [])) := by
  obtain ⟨vs, h1, h2, h3⟩ := h.vals
  obtain ⟨ai, ci, e, hk⟩ := h3 i hi
  refine ⟨ai, ci, ?_, hk⟩
  obtain ⟨b', off', e', _, hc⟩ := h1.at_ (fun e => by rw [e] at h2; simp at h2; omega)
  cases e'
  have := hc i (by omega) 0 (by decide)
  rw [show off + i * 1 + 0 = off + i by omega] at this
  rw [this, ← e]; simp [encV, show i < vs.length by omega]
theorem cys_of {w : World} {B : Nat} {vo : Value} {vals : List Value} {l : List (List Nat)} (ho : OutR 1 encV 24 w B vo vals) (ha : AllR w B vo vals l) : ∃ a cap, vo = .slice a l.length cap ∧ IsCys w a l.length cap l := by
  obtain ⟨a, cap, rfl⟩ := own_shape ho.row
  have hs := IsSl.of_own encV_len ho.row rfl
  refine ⟨a, cap, by rw [← ha.len], ⟨vals, by rw [← ha.len]; exact hs, ha.len, fun i hi => ?_⟩⟩
  obtain ⟨ai, ci, e, hk⟩ := (ha.row i hi).sl
  rw [ns_len] at e hk
  exact ⟨ai, ci, e, hk⟩
theorem lit_sl (k : IntKind) (e : TypeId) (w : World) (cs : Array Value) (zs : List Int) (h : cs.toList = vs k zs) {n : Nat} (hn : n = zs.length) (hm : n ≤ 1000000) : IsK k (w.alloc (.cells cs e)) (some ⟨w.heap.size, 0, none⟩) n n zs :=
  IsSl.of_block (encK_len k) (block_new _ _) (by rw [h, flat_K]) hn (by unfold maxLen; omega)
theorem ow_sl {k : IntKind} {e : TypeId} {w : World} {B : Nat} {v : Value} {p : List Nat} {n : Nat} (h : OutR 1 (encK k) e w B v (ns p)) (hn : p.length = n) : ∃ a cap, v = .slice a n cap ∧ IsK k w a n cap (ns p) := by
  obtain ⟨a, cap, e, hs⟩ := h.sl
  rw [ns_len, hn] at e hs
  exact ⟨a, cap, e, hs⟩
theorem cys_ex : cycs [2, 3, 1, 0, 4] = [[0, 2, 1, 3], [4]] := by decide
theorem d1_ex : drw 4 (nat [2, 2, 1]) (4 - 1) = [2, 3, 1, 0] := by decide
theorem d2_ex : drs [2, 3, 1, 0] (4 - 1) = [2, 2, 1] := by decide
theorem r1_ex : rk [2, 0, 1] = 4 := by decide
theorem u1_ex : unr 3 (List.range 3) 5 = [2, 1, 0] := by decide
theorem p4 : IsP [2, 3, 1, 0] := ⟨by decide, by decide⟩
theorem p3 : IsP [2, 0, 1] := ⟨by decide, by decide⟩
theorem p5 : IsP [2, 3, 1, 0, 4] := ⟨by decide, by decide⟩
/-- The five examples, in the words of the call. -/
theorem ex_draw {w : World} {a : Option Addr} {c : Nat} (h : IsK .u64 w a 3 c [2, 2, 1]) : Calls Tryd.prog 15 #[.int .i64 4, .slice a 3 c] w fun e w' => ∃ a' c', e = .returned (.tuple #[.slice a' 4 c', .int .i64 0]) ∧ IsK .i64 w' a' 4 c' [2, 3, 1, 0] ∧ Below w.heap.size w w' := by
  have := pdraw (n := 4) (by decide) (ds := [2, 2, 1]) ⟨h, by decide⟩ (by decide)
  rw [d1_ex] at this
  refine this.mono ?_
  rintro e w' ⟨g, hg, rfl, hb, hbl⟩
  exact ⟨_, _, rfl, hb.sl rfl, hbl⟩
theorem ex_draws {w : World} {a : Option Addr} {c : Nat} (h : IsK .i64 w a 4 c [2, 3, 1, 0]) : Calls Tryd.prog 22 #[.slice a 4 c] w fun e w' => ∃ a' c', e = .returned (.tuple #[.slice a' 3 c', .int .i64 0]) ∧ IsK .u64 w' a' 3 c' [2, 2, 1] ∧ Below w.heap.size w w' := by
  have := pdrs_ok p4 (by decide) (la := 4) (ca := c) (aa := a) (w := w) h
  rw [show ([2, 3, 1, 0] : List Nat).length - 1 = 4 - 1 from rfl, d2_ex] at this
  refine this.mono ?_
  rintro e w' ⟨v, rfl, hb, hbl⟩
  obtain ⟨a', c', rfl, hs⟩ := ow_sl hb rfl
  exact ⟨_, _, rfl, hs, hbl⟩
theorem ex_rank {w : World} (ht : Tab w) {a : Option Addr} {c : Nat} (h : IsK .i64 w a 3 c [2, 0, 1]) : Calls Tryd.prog 23 #[.slice a 3 c] w fun e w' => e = .returned (.tuple #[.int .u64 4, .int .i64 0]) ∧ Below w.heap.size w w' := by
  have := prank_ok p3 (by decide) ht (la := 3) (ca := c) (aa := a) (w := w) h
  rw [r1_ex] at this
  exact this
theorem ex_unrank {w : World} (ht : Tab w) : Calls Tryd.prog 18 #[.int .i64 3, .int .u64 5] w fun e w' => ∃ a' c', e = .returned (.tuple #[.slice a' 3 c', .int .i64 0]) ∧ IsK .i64 w' a' 3 c' [2, 1, 0] ∧ Below w.heap.size w w' := by
  have := punr_ok (n := 3) (r := 5) (by decide) (by decide) ht
  rw [u1_ex] at this
  refine this.mono ?_
  rintro e w' ⟨v, rfl, hb, hbl⟩
  obtain ⟨a', c', rfl, hs⟩ := ow_sl hb rfl
  exact ⟨_, _, rfl, hs, hbl⟩
theorem ex_cycles {w : World} {a : Option Addr} {c : Nat} (h : IsK .i64 w a 5 c [2, 3, 1, 0, 4]) : Calls Tryd.prog 24 #[.slice a 5 c] w fun e w' => ∃ a' c', e = .returned (.tuple #[.slice a' 2 c', .int .i64 0]) ∧ IsCys w' a' 2 c' [[0, 2, 1, 3], [4]] ∧ Below w.heap.size w w' := by
  have := pcyc_ok p5 (by decide) (la := 5) (ca := c) (aa := a) (w := w) h
  rw [cys_ex] at this
  refine this.mono ?_
  rintro e w' ⟨vo, vals, rfl, ho, ha, hbl⟩
  obtain ⟨a', c', rfl, hs⟩ := cys_of ho ha
  exact ⟨_, _, rfl, hs, hbl⟩
theorem ex_short {w : World} : Calls Tryd.prog 15 #[.int .i64 2, .slice none 0 0] w fun e w' => e = .returned (.tuple #[.slice none 0 0, .int .i64 14]) ∧ w = w' := draw_err2 (n := 2) (by decide) (by decide) w
set_option maxRecDepth 100000 in
set_option maxHeartbeats 8000000 in
theorem works_any {w : World} (ht : Tab w) : Calls Tryd.prog 14 #[] w fun e w' => e = .returned (.bool true) ∧ Below w.heap.size w w' := by
  have HT := Lib.hid ht
  clear ht
  go_enter Tryd.func14, Tryd.ntmps14
  go_wp2_with fail
  have A1 := Lib.hid (Below.alloc (Below.refl w.heap.size w) (Nat.le_refl _) (.cells #[.int .u64 2, .int .u64 2, .int .u64 1] 30))
  have L1 := Lib.hid (lit_sl .u64 30 w #[.int .u64 2, .int .u64 2, .int .u64 1] [2, 2, 1] rfl (n := 3) rfl (by decide))
  refine (ex_draw L1.out).mono ?_; rintro e w1 ⟨a1, c1, rfl, hs, hb⟩
  have P1 := Lib.hid hs; have B1 := Lib.hid (A1.out.trans (hb.mono A1.out.size))
  clear hs hb A1 L1
  go_wp2_with fail
  have A1 := Lib.hid (Below.alloc (Below.refl w1.heap.size w1) (Nat.le_refl _) (.cells #[.int .i64 2, .int .i64 3, .int .i64 1, .int .i64 0] 3))
  have L1 := Lib.hid (lit_sl .i64 3 w1 #[.int .i64 2, .int .i64 3, .int .i64 1, .int .i64 0] [2, 3, 1, 0] rfl (n := 4) rfl (by decide))
  refine (ex_draws L1.out).mono ?_; rintro e w2 ⟨a2, c2, rfl, hs, hb⟩
  have K2 := Lib.hid (A1.out.trans (hb.mono A1.out.size))
  have P12 := Lib.hid (P1.out.below K2.out); have P2 := Lib.hid hs; have B2 := Lib.hid (B1.out.trans (K2.out.mono B1.out.size))
  clear hs hb A1 L1 K2
  go_wp2_with fail
  have A1 := Lib.hid (Below.alloc (Below.refl w2.heap.size w2) (Nat.le_refl _) (.cells #[.int .i64 2, .int .i64 0, .int .i64 1] 3))
  have L1 := Lib.hid (lit_sl .i64 3 w2 #[.int .i64 2, .int .i64 0, .int .i64 1] [2, 0, 1] rfl (n := 3) rfl (by decide))
  refine (ex_rank (HT.out.below (B2.out.trans (A1.out.mono B2.out.size))) L1.out).mono ?_; rintro e w3 ⟨rfl, hb⟩
  have K2 := Lib.hid (A1.out.trans (hb.mono A1.out.size))
  have P13 := Lib.hid (P12.out.below K2.out); have P23 := Lib.hid (P2.out.below K2.out); have B3 := Lib.hid (B2.out.trans (K2.out.mono B2.out.size))
  clear hb A1 L1 K2
  go_wp2_with fail
  refine (ex_unrank (HT.out.below B3.out)).mono ?_; rintro e w4 ⟨a4, c4, rfl, hs, hb⟩
  have P14 := Lib.hid (P13.out.below hb); have P24 := Lib.hid (P23.out.below hb); have P4 := Lib.hid hs; have B4 := Lib.hid (B3.out.trans (hb.mono B3.out.size))
  clear hs hb
  go_wp2_with fail
  have A1 := Lib.hid (Below.alloc (Below.refl w4.heap.size w4) (Nat.le_refl _) (.cells #[.int .i64 2, .int .i64 3, .int .i64 1, .int .i64 0, .int .i64 4] 3))
  have L1 := Lib.hid (lit_sl .i64 3 w4 #[.int .i64 2, .int .i64 3, .int .i64 1, .int .i64 0, .int .i64 4] [2, 3, 1, 0, 4] rfl (n := 5) rfl (by decide))
  refine (ex_cycles L1.out).mono ?_; rintro e w5 ⟨a5, c5, rfl, hs, hb⟩
  have K2 := Lib.hid (A1.out.trans (hb.mono A1.out.size))
  have P15 := Lib.hid (P14.out.below K2.out); have P25 := Lib.hid (P24.out.below K2.out); have P45 := Lib.hid (P4.out.below K2.out); have P5 := Lib.hid hs; have B5 := Lib.hid (B4.out.trans (K2.out.mono B4.out.size))
  clear hs hb A1 L1 K2
  go_wp2_with fail
  refine (ex_short).mono ?_; rintro e w6 ⟨rfl, rfl⟩
  have hq5 := P5.out.bd
  obtain ⟨-, hq1, hq2⟩ := hq5
  unfold maxLen at hq2
  obtain ⟨b5, o5, rfl⟩ := P5.out.adr (by simp)
  go_wp2_with fail
  have A1 := Lib.hid (Below.alloc (Below.refl w5.heap.size w5) (Nat.le_refl _) (.cells #[.int .i64 2, .int .i64 3, .int .i64 1, .int .i64 0] 3))
  have L1 := Lib.hid (lit_sl .i64 3 w5 #[.int .i64 2, .int .i64 3, .int .i64 1, .int .i64 0] [2, 3, 1, 0] rfl (n := 4) rfl (by decide))
  refine (same_yes (P15.out.below A1.out) L1.out).mono ?_; rintro e w6 ⟨rfl, hb⟩
  have K2 := Lib.hid (A1.out.trans (hb.mono A1.out.size))
  have P26 := Lib.hid (P25.out.below K2.out); have P46 := Lib.hid (P45.out.below K2.out); have P6 := Lib.hid (P5.out.below K2.out); have B6 := Lib.hid (B5.out.trans (K2.out.mono B5.out.size))
  clear hb A1 L1 K2
  go_wp2_with fail
  have A1 := Lib.hid (Below.alloc (Below.refl w6.heap.size w6) (Nat.le_refl _) (.cells #[.int .u64 2, .int .u64 2, .int .u64 1] 30))
  have L1 := Lib.hid (lit_sl .u64 30 w6 #[.int .u64 2, .int .u64 2, .int .u64 1] [2, 2, 1] rfl (n := 3) rfl (by decide))
  refine (samed_yes (P26.out.below A1.out) L1.out).mono ?_; rintro e w7 ⟨rfl, hb⟩
  have K2 := Lib.hid (A1.out.trans (hb.mono A1.out.size))
  have P47 := Lib.hid (P46.out.below K2.out); have P7 := Lib.hid (P6.out.below K2.out); have B7 := Lib.hid (B6.out.trans (K2.out.mono B6.out.size))
  clear hb A1 L1 K2
  go_wp2_with fail
  have A1 := Lib.hid (Below.alloc (Below.refl w7.heap.size w7) (Nat.le_refl _) (.cells #[.int .i64 2, .int .i64 1, .int .i64 0] 3))
  have L1 := Lib.hid (lit_sl .i64 3 w7 #[.int .i64 2, .int .i64 1, .int .i64 0] [2, 1, 0] rfl (n := 3) rfl (by decide))
  refine (same_yes (P47.out.below A1.out) L1.out).mono ?_; rintro e w8 ⟨rfl, hb⟩
  have K2 := Lib.hid (A1.out.trans (hb.mono A1.out.size))
  have P8 := Lib.hid (P7.out.below K2.out); have B8 := Lib.hid (B7.out.trans (K2.out.mono B7.out.size))
  clear hb A1 L1 K2
  obtain ⟨a8, c8, x0, y0⟩ := P8.out.at_ (i := 0) (by decide)
  have Y0 := Lib.hid (show IsK .i64 w8 a8 4 c8 [0, 2, 1, 3] from y0)
  have x0' : w8.cell? ⟨b5, o5, none⟩ = some (.slice a8 4 c8) := x0
  clear x0 y0
  go_wp2_with fail
  have A1 := Lib.hid (Below.alloc (Below.refl w8.heap.size w8) (Nat.le_refl _) (.cells #[.int .i64 0, .int .i64 2, .int .i64 1, .int .i64 3] 3))
  have L1 := Lib.hid (lit_sl .i64 3 w8 #[.int .i64 0, .int .i64 2, .int .i64 1, .int .i64 3] [0, 2, 1, 3] rfl (n := 4) rfl (by decide))
  refine (same_yes (Y0.out.below A1.out) L1.out).mono ?_; rintro e w9 ⟨rfl, hb⟩
  have K2 := Lib.hid (A1.out.trans (hb.mono A1.out.size))
  have P9 := Lib.hid (P8.out.below K2.out); have B9 := Lib.hid (B8.out.trans (K2.out.mono B8.out.size))
  clear hb A1 L1 K2 x0'
  obtain ⟨a9, c9, x0, y0⟩ := P9.out.at_ (i := 1) (by decide)
  have Y0 := Lib.hid (show IsK .i64 w9 a9 1 c9 [4] from y0)
  have x0' : w9.cell? ⟨b5, o5 + 1, none⟩ = some (.slice a9 1 c9) := x0
  clear x0 y0
  go_wp2_with fail
  have A1 := Lib.hid (Below.alloc (Below.refl w9.heap.size w9) (Nat.le_refl _) (.cells #[.int .i64 4] 3))
  have L1 := Lib.hid (lit_sl .i64 3 w9 #[.int .i64 4] [4] rfl (n := 1) rfl (by decide))
  refine (same_yes (Y0.out.below A1.out) L1.out).mono ?_; rintro e w10 ⟨rfl, hb⟩
  have B10 := Lib.hid (B9.out.trans ((A1.out.trans (hb.mono A1.out.size)).mono B9.out.size))
  clear hb A1 L1 x0'
  go_wp2_with fail
  go_ret
  exact ⟨rfl, B10.out⟩
end Go.Proofs.YtejleobpohpdpaaDoor

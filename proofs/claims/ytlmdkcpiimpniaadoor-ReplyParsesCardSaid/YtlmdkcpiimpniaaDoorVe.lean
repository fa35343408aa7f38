/- read of the program: a reply without an error. -/
import Derived.Test.YtlmdkcpiimpniaaDoorVd
namespace Go.Proofs.YtlmdkcpiimpniaaDoor
open Go.ChangeShapes Go.WideShapes Go.ChangeAt Go.RowKit
set_option linter.unusedVariables false
set_option linter.unusedSimpArgs false

theorem out_low {sz : Nat} {enc : Int → List Value} {e : TypeId} {w : World} {B B' : Nat} {v : Value} {zs : List Int} (h : OutR sz enc e w B v zs) (hB : B' ≤ B) : OutR sz enc e w B' v zs :=
  ⟨h.row, fun g hg => Nat.le_trans hB (h.blk g hg)⟩
theorem rds_ents {w w' : World} {k : Nat} {y : Bool} {R : Option Rp} {R0 : Option (List Nat × List Int)} (hR : R = R0.map fun q => (⟨k, 0, y, q.1, q.2⟩ : Rp)) (hb : Below w.heap.size w w') {a3 : Option Addr} {n3 c3 : Nat} {a4 : Option Addr} {n4 c4 : Nat} {ok : Bool} {ids : List Nat} {nums : List Int}
    (h3 : OutR 1 (encK .u64) 28 w' w.heap.size (.slice a3 n3 c3) (ns ids)) (h4 : OutR 1 (encK .i64) 2 w' w.heap.size (.slice a4 n4 c4) nums) (k1 : R0 = some (ids, nums) → ok = true) (k2 : R0 = none → ok = false) (k3 : ∀ q, R0 = some q → q = (ids, nums)) :
    RdS w R (.returned (.tuple #[.agg #[.int .i64 (k : Int), .int .i64 0, .bool y, .slice a3 n3 c3, .slice a4 n4 c4], .bool ok])) w' := by
  refine ⟨_, _, _, _, _, _, _, _, _, ok, rfl, hb, fun h => ?_, fun r h => ?_⟩
  · rw [hR] at h
    exact k2 (Option.map_eq_none_iff.1 h)
  · rw [hR] at h
    cases hq : R0 with
    | none => rw [hq] at h; cases h
    | some q =>
      have e := k3 q hq
      rw [hq] at h
      cases h
      subst e
      exact ⟨k1 hq, rfl, rfl, rfl, h3, h4⟩
set_option maxRecDepth 100000 in
set_option maxHeartbeats 8000000 in
theorem pread_o {w : World} (hE : Env w) {wb n c k : Nat} {ws : List Str} {W1 : Str} (hS : IsSl 1 encS w (some ⟨wb, 0, none⟩) n c ws) (hn2 : 2 ≤ n) (hn : n ≤ 1000000) (hws : ∀ s ∈ ws, s.length ≤ 1000000)
    (hk : k < 16) (hk0 : kwS k = ws.getD 0 []) (hw1 : ws.getD 1 [] = W1) (R : Option Rp) (hq1 : W1 = okW) (ha : asksK k = false) (hR : R = (ents k (ws.drop 2)).map fun q => (⟨k, 0, false, q.1, q.2⟩ : Rp)) :
    Calls Tryd.prog 39 #[.slice (some ⟨wb, 0, none⟩) n c] w (RdS w R) := by
  have hnl := hS.hlen
  have A1 := Lib.hid (Below.alloc (Below.refl w.heap.size w) (Nat.le_refl _) (.cells #[.slice (some ⟨wb, 0, none⟩) n c] 30))
  have A2 := Lib.hid (A1.out.alloc (by simp) (.cells #[.int .i64 0, .int .i64 0, .bool false, .slice none 0 0, .slice none 0 0] 27))
  have X1 := Lib.hid (block_old (block_new w (.cells #[.slice (some ⟨wb, 0, none⟩) n c] 30)) (.cells #[.int .i64 0, .int .i64 0, .bool false, .slice none 0 0, .slice none 0 0] 27))
  have X2 : Hid (((w.alloc (.cells #[.slice (some ⟨wb, 0, none⟩) n c] 30)).alloc (.cells #[.int .i64 0, .int .i64 0, .bool false, .slice none 0 0, .slice none 0 0] 27)).heap[w.heap.size + 1]? = some (.cells #[.int .i64 0, .int .i64 0, .bool false, .slice none 0 0, .slice none 0 0] 27 (0, 0))) := Lib.hid (by
    have := block_new (w.alloc (.cells #[.slice (some ⟨wb, 0, none⟩) n c] 30)) (.cells #[.int .i64 0, .int .i64 0, .bool false, .slice none 0 0, .slice none 0 0] 27)
    rwa [show (w.alloc (.cells #[.slice (some ⟨wb, 0, none⟩) n c] 30)).heap.size = w.heap.size + 1 by simp] at this)
  obtain ⟨_, _, e, h0⟩ := sl_str hS (i := 0) (by omega)
  cases e
  obtain ⟨_, _, e, h1⟩ := sl_str hS (i := 1) (by omega)
  cases e
  rw [Nat.zero_add] at h0 h1
  have PI := Lib.hid (pindex (hE.below A2.out) (by omega) (cell_of X1.out 0) (((bcell A2.out).1 wb 0 (lt_of_cell h0)).trans h0))
  rw [idxW_hit hk hk0] at PI
  have HC1 := Lib.hid h1
  have hwl := lt_of_cell h1
  have hmf : ∀ (fn : Fn) (first cap : Array Value) (w : World), (Instr.makeFunc fn first cap).run Tryd.prog w = .ok (.func fn first cap) w := fun _ _ _ _ => rfl
  have hsz : ((w.alloc (.cells #[.slice (some ⟨wb, 0, none⟩) n c] 30)).alloc (.cells #[.int .i64 0, .int .i64 0, .bool false, .slice none 0 0, .slice none 0 0] 27)).heap.size = w.heap.size + 2 := by simp
  have HE := Lib.hid hE
  have HS := Lib.hid hS
  have hsl2 := run_from Tryd.underlying30 size9 (a := some ⟨wb, 0, none⟩) (len := n) (cap := c) (l := 2) (k := 2) rfl (by omega)
  have HS2 := Lib.hid (hS.tail (l := 2) (by omega))
  obtain ⟨o2, ho2⟩ := part_some (wb := wb) (off := 0) (l := 2) (m := c)
  rw [ho2] at hsl2 HS2
  have hnc := hS.hle
  obtain ⟨m, hm⟩ : ∃ m, m = n - 2 := ⟨_, rfl⟩
  obtain ⟨c2, hc2⟩ : ∃ c2, c2 = c - 2 := ⟨_, rfl⟩
  rw [← hm, ← hc2] at hsl2 HS2
  have HM := Lib.hid hm
  have hm1 : m ≤ 1000000 := by omega
  clear hm hc2
  clear ho2
  have HWS := Lib.hid hws
  have HNL := Lib.hid hS.hlen
  have HW1 := Lib.hid hw1
  rw [hw1] at h1
  have HR := Lib.hid hR
  have PE := Lib.hid (fun (W : World) (hW : Below w.heap.size w W) (b : Nat) (hb : w.heap.size ≤ b) (hx : W.heap[b]? = some (boxR k false (.slice none 0 0) (.slice none 0 0))) => pents hE hW hb hk hx HS2.out hm1 (fun s hs => hws s (List.mem_of_mem_drop hs)))
  have PA := Lib.hid (fun W => pasks (k : Int) W)
  rw [asks_eq (by omega), Int.toNat_natCast, ha] at PA
  generalize ents k (ws.drop 2) = R0 at *
  clear hR ha
  subst hq1
  clear hE h0 hS hws hnl hw1 hk0
  unfold okW at h1
  go_enter Tryd.func39, Tryd.ntmps39
  go_wp2_with fail
  refine (PI.out).mono ?_; rintro e w1 ⟨rfl, hb1⟩
  have B1 := Lib.hid (A2.out.trans (hb1.mono A2.out.size))
  have hx1 := (hb1.block _ (lt_of_block X1.out)).trans X1.out
  have hx2 := (hb1.block _ (lt_of_block X2.out)).trans X2.out
  have HX2 := Lib.hid hx2
  have hs1 : w.heap.size + 2 ≤ w1.heap.size := by have := hb1.size; rw [hsz] at this; exact this
  have x0 : w1.cell? ⟨w.heap.size, 0, none⟩ = some (.slice (some ⟨wb, 0, none⟩) n c) := cell_of hx1 0
  have x1 : w1.cell? ⟨wb, 1, none⟩ = some (.string ⟨([111, 107] : Str).toArray⟩) := ((bcell B1.out).1 wb 1 hwl).trans h1
  have hw01 : wb < w1.heap.size := by omega
  have hlt0 : w.heap.size < w1.heap.size := by omega
  have hlt1 : w.heap.size + 1 < w1.heap.size := by omega
  have d1 : decide ((k : Int) < 0) = false := by simp
  have d2 : decide ((n : Int) < 2) = false := by simp; omega
  have R3 := Lib.hid (block_new w1 (boxR k false (.slice none 0 0) (.slice none 0 0)))
  have B3 := Lib.hid (B1.out.alloc (by omega) (boxR k false (.slice none 0 0) (.slice none 0 0)))
  have HX3 := Lib.hid (block_old HX2.out (boxR k false (.slice none 0 0) (.slice none 0 0)))
  clear PI hb1 hx1 hx2 hsz X1 X2
  have y0 : w1.cell? ⟨w.heap.size + 1, 0, none⟩ = some (.int .i64 0) := cell_of HX2.out 0
  have y1 : w1.cell? ⟨w.heap.size + 1, 1, none⟩ = some (.int .i64 0) := cell_of HX2.out 1
  have y2 : w1.cell? ⟨w.heap.size + 1, 2, none⟩ = some (.bool false) := cell_of HX2.out 2
  have y3 : w1.cell? ⟨w.heap.size + 1, 3, none⟩ = some (.slice none 0 0) := cell_of HX2.out 3
  have y4 : w1.cell? ⟨w.heap.size + 1, 4, none⟩ = some (.slice none 0 0) := cell_of HX2.out 4
  have qf : ∀ i, w1.frozen? ⟨w.heap.size + 1, i, none⟩ = false := fun i => free_of HX2.out i
  have PT := Lib.hid (PE.out _ B3.out w1.heap.size (by omega) R3.out)
  clear PE
  go_wp2_with (go_at_call 34; refine (PA.out _).mono ?_; rintro e w' ⟨rfl, rfl⟩)
  refine (PT.out).mono ?_
  rintro e w4 ⟨ok, v3, v4, ids, nums, rfl, hbx, ht, o3, o4, f1, f2, f3⟩
  have HR4 := Lib.hid hbx
  have HX4 := Lib.hid (ht.keep HX3.out (show ¬ (w.heap.size + 1 = w1.heap.size) by omega))
  have hb4 := Lib.hid (B3.out.trans (ht.below B3.out.size (fun j hj e => by omega)))
  have hge : w.heap.size + 2 ≤ (w1.alloc (boxR k false (.slice none 0 0) (.slice none 0 0))).heap.size := by have := HX3.out; simp; omega
  have O3 := Lib.hid o3
  have O4 := Lib.hid o4
  obtain ⟨a3, c3, e3⟩ := own_shape o3.row
  obtain ⟨a4, c4, e4⟩ := own_shape o4.row
  subst e3 e4
  generalize (ns ids).length = n3 at *
  generalize nums.length = n4 at *
  have FF := Lib.hid (And.intro f1 (And.intro f2 f3))
  have gl4 := lt_of_block hbx
  clear hbx ht o3 o4 f1 f2 f3 y0 y1 y2 y3 y4 qf x0 x1 PT
  have y0 : w4.cell? ⟨w.heap.size + 1, 0, none⟩ = some (.int .i64 0) := cell_of HX4.out 0
  have y1 : w4.cell? ⟨w.heap.size + 1, 1, none⟩ = some (.int .i64 0) := cell_of HX4.out 1
  have y2 : w4.cell? ⟨w.heap.size + 1, 2, none⟩ = some (.bool false) := cell_of HX4.out 2
  have y3 : w4.cell? ⟨w.heap.size + 1, 3, none⟩ = some (.slice none 0 0) := cell_of HX4.out 3
  have y4 : w4.cell? ⟨w.heap.size + 1, 4, none⟩ = some (.slice none 0 0) := cell_of HX4.out 4
  have qf : ∀ i, w4.frozen? ⟨w.heap.size + 1, i, none⟩ = false := fun i => free_of HX4.out i
  have z0 : w4.cell? ⟨w1.heap.size, 0, none⟩ = some (.int .i64 (k : Int)) := cell_of HR4.out 0
  have z1 : w4.cell? ⟨w1.heap.size, 1, none⟩ = some (.int .i64 0) := cell_of HR4.out 1
  have z2 : w4.cell? ⟨w1.heap.size, 2, none⟩ = some (.bool false) := cell_of HR4.out 2
  have z3 : w4.cell? ⟨w1.heap.size, 3, none⟩ = some (.slice a3 n3 c3) := cell_of HR4.out 3
  have z4 : w4.cell? ⟨w1.heap.size, 4, none⟩ = some (.slice a4 n4 c4) := cell_of HR4.out 4
  go_wp2_with fail
  have Q3 := Lib.hid (out5 (x := w.heap.size + 1) O3.out (by omega) (.int .i64 (k : Int)) (.int .i64 0) (.bool false) (.slice a3 n3 c3) (.slice a4 n4 c4))
  have Q4 := Lib.hid (out5 (x := w.heap.size + 1) O4.out (by omega) (.int .i64 (k : Int)) (.int .i64 0) (.bool false) (.slice a3 n3 c3) (.slice a4 n4 c4))
  have h7 := set5 HX4.out rfl (.int .i64 (k : Int)) (.int .i64 0) (.bool false) (.slice a3 n3 c3) (.slice a4 n4 c4)
  have B7 := Lib.hid (below5 (x := w.heap.size + 1) hb4.out (by omega) (.int .i64 (k : Int)) (.int .i64 0) (.bool false) (.slice a3 n3 c3) (.slice a4 n4 c4))
  clear y0 y1 y2 y3 y4 qf z0 z1 z2 z3 z4
  generalize hW6 : ((((w4.setCell ⟨w.heap.size + 1, 0, none⟩ (.int .i64 (k : Int))).setCell ⟨w.heap.size + 1, 1, none⟩ (.int .i64 0)).setCell ⟨w.heap.size + 1, 2, none⟩ (.bool false)).setCell ⟨w.heap.size + 1, 3, none⟩ (.slice a3 n3 c3)).setCell ⟨w.heap.size + 1, 4, none⟩ (.slice a4 n4 c4) = W6 at *
  have y0 : W6.cell? ⟨w.heap.size + 1, 0, none⟩ = some (.int .i64 (k : Int)) := cell_of h7 0
  have y1 : W6.cell? ⟨w.heap.size + 1, 1, none⟩ = some (.int .i64 0) := cell_of h7 1
  have y2 : W6.cell? ⟨w.heap.size + 1, 2, none⟩ = some (.bool false) := cell_of h7 2
  have y3 : W6.cell? ⟨w.heap.size + 1, 3, none⟩ = some (.slice a3 n3 c3) := cell_of h7 3
  have y4 : W6.cell? ⟨w.heap.size + 1, 4, none⟩ = some (.slice a4 n4 c4) := cell_of h7 4
  exact bodyPost_ret (v := .tuple #[.agg #[.int .i64 (k : Int), .int .i64 0, .bool false, .slice a3 n3 c3, .slice a4 n4 c4], .bool ok]) (by clear hW6 h7; simp [results, Tryd.results39, go_sem, y0, y1, y2, y3, y4]) rfl (rds_ents HR.out B7.out (out_low Q3.out (by omega)) (out_low Q4.out (by omega)) FF.out.1 FF.out.2.1 FF.out.2.2)
set_option maxRecDepth 100000 in
set_option maxHeartbeats 8000000 in
theorem pread_k0 {w : World} (hE : Env w) {wb n c k : Nat} {ws : List Str} {W1 : Str} (hS : IsSl 1 encS w (some ⟨wb, 0, none⟩) n c ws) (hn2 : 2 ≤ n) (hn : n ≤ 1000000) (hws : ∀ s ∈ ws, s.length ≤ 1000000)
    (hk : k < 16) (hk0 : kwS k = ws.getD 0 []) (hw1 : ws.getD 1 [] = W1) (R : Option Rp) (hq1 : W1 = okW) (ha : asksK k = true) (hn2' : n = 2) (hR : R = none) :
    Calls Tryd.prog 39 #[.slice (some ⟨wb, 0, none⟩) n c] w (RdS w R) := by
  have hnl := hS.hlen
  have A1 := Lib.hid (Below.alloc (Below.refl w.heap.size w) (Nat.le_refl _) (.cells #[.slice (some ⟨wb, 0, none⟩) n c] 30))
  have A2 := Lib.hid (A1.out.alloc (by simp) (.cells #[.int .i64 0, .int .i64 0, .bool false, .slice none 0 0, .slice none 0 0] 27))
  have X1 := Lib.hid (block_old (block_new w (.cells #[.slice (some ⟨wb, 0, none⟩) n c] 30)) (.cells #[.int .i64 0, .int .i64 0, .bool false, .slice none 0 0, .slice none 0 0] 27))
  have X2 : Hid (((w.alloc (.cells #[.slice (some ⟨wb, 0, none⟩) n c] 30)).alloc (.cells #[.int .i64 0, .int .i64 0, .bool false, .slice none 0 0, .slice none 0 0] 27)).heap[w.heap.size + 1]? = some (.cells #[.int .i64 0, .int .i64 0, .bool false, .slice none 0 0, .slice none 0 0] 27 (0, 0))) := Lib.hid (by
    have := block_new (w.alloc (.cells #[.slice (some ⟨wb, 0, none⟩) n c] 30)) (.cells #[.int .i64 0, .int .i64 0, .bool false, .slice none 0 0, .slice none 0 0] 27)
    rwa [show (w.alloc (.cells #[.slice (some ⟨wb, 0, none⟩) n c] 30)).heap.size = w.heap.size + 1 by simp] at this)
  obtain ⟨_, _, e, h0⟩ := sl_str hS (i := 0) (by omega)
  cases e
  obtain ⟨_, _, e, h1⟩ := sl_str hS (i := 1) (by omega)
  cases e
  rw [Nat.zero_add] at h0 h1
  have PI := Lib.hid (pindex (hE.below A2.out) (by omega) (cell_of X1.out 0) (((bcell A2.out).1 wb 0 (lt_of_cell h0)).trans h0))
  rw [idxW_hit hk hk0] at PI
  have HC1 := Lib.hid h1
  have hwl := lt_of_cell h1
  have hmf : ∀ (fn : Fn) (first cap : Array Value) (w : World), (Instr.makeFunc fn first cap).run Tryd.prog w = .ok (.func fn first cap) w := fun _ _ _ _ => rfl
  have hsz : ((w.alloc (.cells #[.slice (some ⟨wb, 0, none⟩) n c] 30)).alloc (.cells #[.int .i64 0, .int .i64 0, .bool false, .slice none 0 0, .slice none 0 0] 27)).heap.size = w.heap.size + 2 := by simp
  have HE := Lib.hid hE
  have HS := Lib.hid hS
  have hsl2 := run_from Tryd.underlying30 size9 (a := some ⟨wb, 0, none⟩) (len := n) (cap := c) (l := 2) (k := 2) rfl (by omega)
  have HS2 := Lib.hid (hS.tail (l := 2) (by omega))
  obtain ⟨o2, ho2⟩ := part_some (wb := wb) (off := 0) (l := 2) (m := c)
  rw [ho2] at hsl2 HS2
  have hnc := hS.hle
  obtain ⟨m, hm⟩ : ∃ m, m = n - 2 := ⟨_, rfl⟩
  obtain ⟨c2, hc2⟩ : ∃ c2, c2 = c - 2 := ⟨_, rfl⟩
  rw [← hm, ← hc2] at hsl2 HS2
  have HM := Lib.hid hm
  have hm1 : m ≤ 1000000 := by omega
  clear hm hc2
  clear ho2
  have HWS := Lib.hid hws
  have HNL := Lib.hid hS.hlen
  have HW1 := Lib.hid hw1
  rw [hw1] at h1
  have HR := Lib.hid hR
  have PA := Lib.hid (fun W => pasks (k : Int) W)
  rw [asks_eq (by omega), Int.toNat_natCast, ha] at PA
  obtain rfl : m = 0 := by have := HM.out; omega
  clear hn2'
  clear hR ha
  subst hq1
  clear hE h0 hS hws hnl hw1 hk0
  unfold okW at h1
  go_enter Tryd.func39, Tryd.ntmps39
  go_wp2_with fail
  refine (PI.out).mono ?_; rintro e w1 ⟨rfl, hb1⟩
  have B1 := Lib.hid (A2.out.trans (hb1.mono A2.out.size))
  have hx1 := (hb1.block _ (lt_of_block X1.out)).trans X1.out
  have hx2 := (hb1.block _ (lt_of_block X2.out)).trans X2.out
  have HX2 := Lib.hid hx2
  have hs1 : w.heap.size + 2 ≤ w1.heap.size := by have := hb1.size; rw [hsz] at this; exact this
  have x0 : w1.cell? ⟨w.heap.size, 0, none⟩ = some (.slice (some ⟨wb, 0, none⟩) n c) := cell_of hx1 0
  have x1 : w1.cell? ⟨wb, 1, none⟩ = some (.string ⟨([111, 107] : Str).toArray⟩) := ((bcell B1.out).1 wb 1 hwl).trans h1
  have hw01 : wb < w1.heap.size := by omega
  have hlt0 : w.heap.size < w1.heap.size := by omega
  have hlt1 : w.heap.size + 1 < w1.heap.size := by omega
  have d1 : decide ((k : Int) < 0) = false := by simp
  have d2 : decide ((n : Int) < 2) = false := by simp; omega
  have R3 := Lib.hid (block_new w1 (boxR k false (.slice none 0 0) (.slice none 0 0)))
  have B3 := Lib.hid (B1.out.alloc (by omega) (boxR k false (.slice none 0 0) (.slice none 0 0)))
  have HX3 := Lib.hid (block_old HX2.out (boxR k false (.slice none 0 0) (.slice none 0 0)))
  clear PI hb1 hx1 hx2 hsz X1 X2
  have y0 : w1.cell? ⟨w.heap.size + 1, 0, none⟩ = some (.int .i64 0) := cell_of HX2.out 0
  have y1 : w1.cell? ⟨w.heap.size + 1, 1, none⟩ = some (.int .i64 0) := cell_of HX2.out 1
  have y2 : w1.cell? ⟨w.heap.size + 1, 2, none⟩ = some (.bool false) := cell_of HX2.out 2
  have y3 : w1.cell? ⟨w.heap.size + 1, 3, none⟩ = some (.slice none 0 0) := cell_of HX2.out 3
  have y4 : w1.cell? ⟨w.heap.size + 1, 4, none⟩ = some (.slice none 0 0) := cell_of HX2.out 4
  have qf : ∀ i, w1.frozen? ⟨w.heap.size + 1, i, none⟩ = false := fun i => free_of HX2.out i
  go_wp2_with (go_at_call 34; refine (PA.out _).mono ?_; rintro e w' ⟨rfl, rfl⟩)
  have h7 := block_old (set5 HX2.out rfl (.int .i64 (k : Int)) (.int .i64 0) (.bool false) (.slice none 0 0) (.slice none 0 0)) (.cells #[.int .i64 (k : Int), .int .i64 0, .bool false, .slice none 0 0, .slice none 0 0] 27)
  have B7 := Lib.hid ((have b := below5 (x := w.heap.size + 1) B1.out (by omega) (.int .i64 (k : Int)) (.int .i64 0) (.bool false) (.slice none 0 0) (.slice none 0 0); b.alloc b.size (.cells #[.int .i64 (k : Int), .int .i64 0, .bool false, .slice none 0 0, .slice none 0 0] 27)))
  clear y0 y1 y2 y3 y4 qf x0 x1
  generalize hW6 : (((((w1.setCell ⟨w.heap.size + 1, 0, none⟩ (.int .i64 (k : Int))).setCell ⟨w.heap.size + 1, 1, none⟩ (.int .i64 0)).setCell ⟨w.heap.size + 1, 2, none⟩ (.bool false)).setCell ⟨w.heap.size + 1, 3, none⟩ (.slice none 0 0)).setCell ⟨w.heap.size + 1, 4, none⟩ (.slice none 0 0)).alloc (.cells #[.int .i64 (k : Int), .int .i64 0, .bool false, .slice none 0 0, .slice none 0 0] 27) = W6 at *
  have y0 : W6.cell? ⟨w.heap.size + 1, 0, none⟩ = some (.int .i64 (k : Int)) := cell_of h7 0
  have y1 : W6.cell? ⟨w.heap.size + 1, 1, none⟩ = some (.int .i64 0) := cell_of h7 1
  have y2 : W6.cell? ⟨w.heap.size + 1, 2, none⟩ = some (.bool false) := cell_of h7 2
  have y3 : W6.cell? ⟨w.heap.size + 1, 3, none⟩ = some (.slice none 0 0) := cell_of h7 3
  have y4 : W6.cell? ⟨w.heap.size + 1, 4, none⟩ = some (.slice none 0 0) := cell_of h7 4
  exact bodyPost_ret (v := .tuple #[.agg #[.int .i64 (k : Int), .int .i64 0, .bool false, .slice none 0 0, .slice none 0 0], .bool false]) (by clear hW6 h7; simp [results, Tryd.results39, go_sem, y0, y1, y2, y3, y4]) rfl (rds_bad HR.out B7.out)
set_option maxRecDepth 100000 in
set_option maxHeartbeats 8000000 in
theorem pread_k1 {w : World} (hE : Env w) {wb n c k : Nat} {ws : List Str} {W1 : Str} (hS : IsSl 1 encS w (some ⟨wb, 0, none⟩) n c ws) (hn2 : 2 ≤ n) (hn : n ≤ 1000000) (hws : ∀ s ∈ ws, s.length ≤ 1000000)
    (hk : k < 16) (hk0 : kwS k = ws.getD 0 []) (hw1 : ws.getD 1 [] = W1) (R : Option Rp) (hq1 : W1 = okW) (ha : asksK k = true) (hn3 : 3 ≤ n) (hy1 : ws.getD 2 [] ≠ yesW) (hy2 : ws.getD 2 [] ≠ noW) (hR : R = none) :
    Calls Tryd.prog 39 #[.slice (some ⟨wb, 0, none⟩) n c] w (RdS w R) := by
  have hnl := hS.hlen
  have A1 := Lib.hid (Below.alloc (Below.refl w.heap.size w) (Nat.le_refl _) (.cells #[.slice (some ⟨wb, 0, none⟩) n c] 30))
  have A2 := Lib.hid (A1.out.alloc (by simp) (.cells #[.int .i64 0, .int .i64 0, .bool false, .slice none 0 0, .slice none 0 0] 27))
  have X1 := Lib.hid (block_old (block_new w (.cells #[.slice (some ⟨wb, 0, none⟩) n c] 30)) (.cells #[.int .i64 0, .int .i64 0, .bool false, .slice none 0 0, .slice none 0 0] 27))
  have X2 : Hid (((w.alloc (.cells #[.slice (some ⟨wb, 0, none⟩) n c] 30)).alloc (.cells #[.int .i64 0, .int .i64 0, .bool false, .slice none 0 0, .slice none 0 0] 27)).heap[w.heap.size + 1]? = some (.cells #[.int .i64 0, .int .i64 0, .bool false, .slice none 0 0, .slice none 0 0] 27 (0, 0))) := Lib.hid (by
    have := block_new (w.alloc (.cells #[.slice (some ⟨wb, 0, none⟩) n c] 30)) (.cells #[.int .i64 0, .int .i64 0, .bool false, .slice none 0 0, .slice none 0 0] 27)
    rwa [show (w.alloc (.cells #[.slice (some ⟨wb, 0, none⟩) n c] 30)).heap.size = w.heap.size + 1 by simp] at this)
  obtain ⟨_, _, e, h0⟩ := sl_str hS (i := 0) (by omega)
  cases e
  obtain ⟨_, _, e, h1⟩ := sl_str hS (i := 1) (by omega)
  cases e
  rw [Nat.zero_add] at h0 h1
  have PI := Lib.hid (pindex (hE.below A2.out) (by omega) (cell_of X1.out 0) (((bcell A2.out).1 wb 0 (lt_of_cell h0)).trans h0))
  rw [idxW_hit hk hk0] at PI
  have HC1 := Lib.hid h1
  have hwl := lt_of_cell h1
  have hmf : ∀ (fn : Fn) (first cap : Array Value) (w : World), (Instr.makeFunc fn first cap).run Tryd.prog w = .ok (.func fn first cap) w := fun _ _ _ _ => rfl
  have hsz : ((w.alloc (.cells #[.slice (some ⟨wb, 0, none⟩) n c] 30)).alloc (.cells #[.int .i64 0, .int .i64 0, .bool false, .slice none 0 0, .slice none 0 0] 27)).heap.size = w.heap.size + 2 := by simp
  have HE := Lib.hid hE
  have HS := Lib.hid hS
  have hsl2 := run_from Tryd.underlying30 size9 (a := some ⟨wb, 0, none⟩) (len := n) (cap := c) (l := 2) (k := 2) rfl (by omega)
  have HS2 := Lib.hid (hS.tail (l := 2) (by omega))
  obtain ⟨o2, ho2⟩ := part_some (wb := wb) (off := 0) (l := 2) (m := c)
  rw [ho2] at hsl2 HS2
  have hnc := hS.hle
  obtain ⟨m, hm⟩ : ∃ m, m = n - 2 := ⟨_, rfl⟩
  obtain ⟨c2, hc2⟩ : ∃ c2, c2 = c - 2 := ⟨_, rfl⟩
  rw [← hm, ← hc2] at hsl2 HS2
  have HM := Lib.hid hm
  have hm1 : m ≤ 1000000 := by omega
  clear hm hc2
  clear ho2
  have HWS := Lib.hid hws
  have HNL := Lib.hid hS.hlen
  have HW1 := Lib.hid hw1
  rw [hw1] at h1
  have HR := Lib.hid hR
  have PA := Lib.hid (fun W => pasks (k : Int) W)
  rw [asks_eq (by omega), Int.toNat_natCast, ha] at PA
  have hm0 : 0 < m := by have := HM.out; omega
  obtain ⟨_, _, e, hw2⟩ := sl_str HS2.out (i := 0) (by have := HS2.out.hlen; omega)
  cases e
  have e2 : (ws.drop 2).getD 0 [] = ws.getD 2 [] := by simp
  rw [e2, Nat.add_zero] at hw2
  clear e2
  generalize ws.getD 2 [] = Y at *
  have d3 : ((m : Int) == 0) = false := by simp; omega
  have d4 : (m == 0) = false := by simp; omega
  have d5 : (Y != ([121, 101, 115] : Str)) = true := bne_iff_ne.2 hy1
  have d6 : (Y != ([110, 111] : Str)) = true := bne_iff_ne.2 hy2
  have d7 : (Y == ([121, 101, 115] : Str)) = false := beq_false_of_ne (b := yesW) hy1
  have d8 : (Y == ([110, 111] : Str)) = false := beq_false_of_ne (b := noW) hy2
  clear hy1 hy2 hn3
  clear hR ha
  subst hq1
  clear hE h0 hS hws hnl hw1 hk0
  unfold okW at h1
  go_enter Tryd.func39, Tryd.ntmps39
  go_wp2_with fail
  refine (PI.out).mono ?_; rintro e w1 ⟨rfl, hb1⟩
  have B1 := Lib.hid (A2.out.trans (hb1.mono A2.out.size))
  have hx1 := (hb1.block _ (lt_of_block X1.out)).trans X1.out
  have hx2 := (hb1.block _ (lt_of_block X2.out)).trans X2.out
  have HX2 := Lib.hid hx2
  have hs1 : w.heap.size + 2 ≤ w1.heap.size := by have := hb1.size; rw [hsz] at this; exact this
  have x0 : w1.cell? ⟨w.heap.size, 0, none⟩ = some (.slice (some ⟨wb, 0, none⟩) n c) := cell_of hx1 0
  have x1 : w1.cell? ⟨wb, 1, none⟩ = some (.string ⟨([111, 107] : Str).toArray⟩) := ((bcell B1.out).1 wb 1 hwl).trans h1
  have hw01 : wb < w1.heap.size := by omega
  have hlt0 : w.heap.size < w1.heap.size := by omega
  have hlt1 : w.heap.size + 1 < w1.heap.size := by omega
  have d1 : decide ((k : Int) < 0) = false := by simp
  have d2 : decide ((n : Int) < 2) = false := by simp; omega
  have R3 := Lib.hid (block_new w1 (boxR k false (.slice none 0 0) (.slice none 0 0)))
  have B3 := Lib.hid (B1.out.alloc (by omega) (boxR k false (.slice none 0 0) (.slice none 0 0)))
  have HX3 := Lib.hid (block_old HX2.out (boxR k false (.slice none 0 0) (.slice none 0 0)))
  clear PI hb1 hx1 hx2 hsz X1 X2
  have y0 : w1.cell? ⟨w.heap.size + 1, 0, none⟩ = some (.int .i64 0) := cell_of HX2.out 0
  have y1 : w1.cell? ⟨w.heap.size + 1, 1, none⟩ = some (.int .i64 0) := cell_of HX2.out 1
  have y2 : w1.cell? ⟨w.heap.size + 1, 2, none⟩ = some (.bool false) := cell_of HX2.out 2
  have y3 : w1.cell? ⟨w.heap.size + 1, 3, none⟩ = some (.slice none 0 0) := cell_of HX2.out 3
  have y4 : w1.cell? ⟨w.heap.size + 1, 4, none⟩ = some (.slice none 0 0) := cell_of HX2.out 4
  have qf : ∀ i, w1.frozen? ⟨w.heap.size + 1, i, none⟩ = false := fun i => free_of HX2.out i
  have x2 : w1.cell? ⟨wb, o2, none⟩ = some (.string ⟨Y.toArray⟩) := ((bcell B1.out).1 wb o2 hwl).trans hw2
  go_wp2_with (go_at_call 34; refine (PA.out _).mono ?_; rintro e w' ⟨rfl, rfl⟩)
  have h7 := block_old (set5 HX2.out rfl (.int .i64 (k : Int)) (.int .i64 0) (.bool false) (.slice none 0 0) (.slice none 0 0)) (.cells #[.int .i64 (k : Int), .int .i64 0, .bool false, .slice none 0 0, .slice none 0 0] 27)
  have B7 := Lib.hid ((have b := below5 (x := w.heap.size + 1) B1.out (by omega) (.int .i64 (k : Int)) (.int .i64 0) (.bool false) (.slice none 0 0) (.slice none 0 0); b.alloc b.size (.cells #[.int .i64 (k : Int), .int .i64 0, .bool false, .slice none 0 0, .slice none 0 0] 27)))
  clear y0 y1 y2 y3 y4 qf x0 x1
  generalize hW6 : (((((w1.setCell ⟨w.heap.size + 1, 0, none⟩ (.int .i64 (k : Int))).setCell ⟨w.heap.size + 1, 1, none⟩ (.int .i64 0)).setCell ⟨w.heap.size + 1, 2, none⟩ (.bool false)).setCell ⟨w.heap.size + 1, 3, none⟩ (.slice none 0 0)).setCell ⟨w.heap.size + 1, 4, none⟩ (.slice none 0 0)).alloc (.cells #[.int .i64 (k : Int), .int .i64 0, .bool false, .slice none 0 0, .slice none 0 0] 27) = W6 at *
  have y0 : W6.cell? ⟨w.heap.size + 1, 0, none⟩ = some (.int .i64 (k : Int)) := cell_of h7 0
  have y1 : W6.cell? ⟨w.heap.size + 1, 1, none⟩ = some (.int .i64 0) := cell_of h7 1
  have y2 : W6.cell? ⟨w.heap.size + 1, 2, none⟩ = some (.bool false) := cell_of h7 2
  have y3 : W6.cell? ⟨w.heap.size + 1, 3, none⟩ = some (.slice none 0 0) := cell_of h7 3
  have y4 : W6.cell? ⟨w.heap.size + 1, 4, none⟩ = some (.slice none 0 0) := cell_of h7 4
  exact bodyPost_ret (v := .tuple #[.agg #[.int .i64 (k : Int), .int .i64 0, .bool false, .slice none 0 0, .slice none 0 0], .bool false]) (by clear hW6 h7; simp [results, Tryd.results39, go_sem, y0, y1, y2, y3, y4]) rfl (rds_bad HR.out B7.out)
set_option maxRecDepth 100000 in
set_option maxHeartbeats 8000000 in
theorem pread_yes {w : World} (hE : Env w) {wb n c k : Nat} {ws : List Str} {W1 : Str} (hS : IsSl 1 encS w (some ⟨wb, 0, none⟩) n c ws) (hn2 : 2 ≤ n) (hn : n ≤ 1000000) (hws : ∀ s ∈ ws, s.length ≤ 1000000)
    (hk : k < 16) (hk0 : kwS k = ws.getD 0 []) (hw1 : ws.getD 1 [] = W1) (R : Option Rp) (hq1 : W1 = okW) (ha : asksK k = true) (hn3 : 3 ≤ n) (hy1 : ws.getD 2 [] = yesW) (hR : R = (ents k (ws.drop 3)).map fun q => (⟨k, 0, true, q.1, q.2⟩ : Rp)) :
    Calls Tryd.prog 39 #[.slice (some ⟨wb, 0, none⟩) n c] w (RdS w R) := by
  have hnl := hS.hlen
  have A1 := Lib.hid (Below.alloc (Below.refl w.heap.size w) (Nat.le_refl _) (.cells #[.slice (some ⟨wb, 0, none⟩) n c] 30))
  have A2 := Lib.hid (A1.out.alloc (by simp) (.cells #[.int .i64 0, .int .i64 0, .bool false, .slice none 0 0, .slice none 0 0] 27))
  have X1 := Lib.hid (block_old (block_new w (.cells #[.slice (some ⟨wb, 0, none⟩) n c] 30)) (.cells #[.int .i64 0, .int .i64 0, .bool false, .slice none 0 0, .slice none 0 0] 27))
  have X2 : Hid (((w.alloc (.cells #[.slice (some ⟨wb, 0, none⟩) n c] 30)).alloc (.cells #[.int .i64 0, .int .i64 0, .bool false, .slice none 0 0, .slice none 0 0] 27)).heap[w.heap.size + 1]? = some (.cells #[.int .i64 0, .int .i64 0, .bool false, .slice none 0 0, .slice none 0 0] 27 (0, 0))) := Lib.hid (by
    have := block_new (w.alloc (.cells #[.slice (some ⟨wb, 0, none⟩) n c] 30)) (.cells #[.int .i64 0, .int .i64 0, .bool false, .slice none 0 0, .slice none 0 0] 27)
    rwa [show (w.alloc (.cells #[.slice (some ⟨wb, 0, none⟩) n c] 30)).heap.size = w.heap.size + 1 by simp] at this)
  obtain ⟨_, _, e, h0⟩ := sl_str hS (i := 0) (by omega)
  cases e
  obtain ⟨_, _, e, h1⟩ := sl_str hS (i := 1) (by omega)
  cases e
  rw [Nat.zero_add] at h0 h1
  have PI := Lib.hid (pindex (hE.below A2.out) (by omega) (cell_of X1.out 0) (((bcell A2.out).1 wb 0 (lt_of_cell h0)).trans h0))
  rw [idxW_hit hk hk0] at PI
  have HC1 := Lib.hid h1
  have hwl := lt_of_cell h1
  have hmf : ∀ (fn : Fn) (first cap : Array Value) (w : World), (Instr.makeFunc fn first cap).run Tryd.prog w = .ok (.func fn first cap) w := fun _ _ _ _ => rfl
  have hsz : ((w.alloc (.cells #[.slice (some ⟨wb, 0, none⟩) n c] 30)).alloc (.cells #[.int .i64 0, .int .i64 0, .bool false, .slice none 0 0, .slice none 0 0] 27)).heap.size = w.heap.size + 2 := by simp
  have HE := Lib.hid hE
  have HS := Lib.hid hS
  have hsl2 := run_from Tryd.underlying30 size9 (a := some ⟨wb, 0, none⟩) (len := n) (cap := c) (l := 2) (k := 2) rfl (by omega)
  have HS2 := Lib.hid (hS.tail (l := 2) (by omega))
  obtain ⟨o2, ho2⟩ := part_some (wb := wb) (off := 0) (l := 2) (m := c)
  rw [ho2] at hsl2 HS2
  have hnc := hS.hle
  obtain ⟨m, hm⟩ : ∃ m, m = n - 2 := ⟨_, rfl⟩
  obtain ⟨c2, hc2⟩ : ∃ c2, c2 = c - 2 := ⟨_, rfl⟩
  rw [← hm, ← hc2] at hsl2 HS2
  have HM := Lib.hid hm
  have hm1 : m ≤ 1000000 := by omega
  clear hm hc2
  clear ho2
  have HWS := Lib.hid hws
  have HNL := Lib.hid hS.hlen
  have HW1 := Lib.hid hw1
  rw [hw1] at h1
  have HR := Lib.hid hR
  have PA := Lib.hid (fun W => pasks (k : Int) W)
  rw [asks_eq (by omega), Int.toNat_natCast, ha] at PA
  have hm0 : 0 < m := by have := HM.out; omega
  obtain ⟨_, _, e, hw2⟩ := sl_str HS2.out (i := 0) (by have := HS2.out.hlen; omega)
  cases e
  have e2 : (ws.drop 2).getD 0 [] = ws.getD 2 [] := by simp
  rw [e2, Nat.add_zero, hy1] at hw2
  clear e2
  have d3 : ((m : Int) == 0) = false := by simp; omega
  have d4 : (m == 0) = false := by simp; omega
  have hsl3 := run_from Tryd.underlying30 size9 (a := some ⟨wb, o2, none⟩) (len := m) (cap := c2) (l := 1) (k := 1) rfl (by omega)
  have HS3 := Lib.hid (HS2.out.tail (l := 1) (by omega))
  obtain ⟨o3, ho3⟩ := part_some (wb := wb) (off := o2) (l := 1) (m := c2)
  rw [ho3] at hsl3 HS3
  rw [List.drop_drop] at HS3
  obtain ⟨m3, hm3⟩ : ∃ m3, m3 = m - 1 := ⟨_, rfl⟩
  obtain ⟨c3', hc3⟩ : ∃ c3', c3' = c2 - 1 := ⟨_, rfl⟩
  rw [← hm3, ← hc3] at hsl3 HS3
  have hm31 : m3 ≤ 1000000 := by omega
  have hmc2 := HS2.out.hle
  clear hm3 hc3 ho3
  have PE := Lib.hid (fun (W : World) (hW : Below w.heap.size w W) (b : Nat) (hb : w.heap.size ≤ b) (hx : W.heap[b]? = some (boxR k true (.slice none 0 0) (.slice none 0 0))) => pents hE hW hb hk hx HS3.out hm31 (fun s hs => hws s (List.mem_of_mem_drop hs)))
  generalize ents k (ws.drop 3) = R0 at *
  unfold yesW at hw2
  clear hR ha hy1 hn3
  subst hq1
  clear hE h0 hS hws hnl hw1 hk0
  unfold okW at h1
  go_enter Tryd.func39, Tryd.ntmps39
  go_wp2_with fail
  refine (PI.out).mono ?_; rintro e w1 ⟨rfl, hb1⟩
  have B1 := Lib.hid (A2.out.trans (hb1.mono A2.out.size))
  have hx1 := (hb1.block _ (lt_of_block X1.out)).trans X1.out
  have hx2 := (hb1.block _ (lt_of_block X2.out)).trans X2.out
  have HX2 := Lib.hid hx2
  have hs1 : w.heap.size + 2 ≤ w1.heap.size := by have := hb1.size; rw [hsz] at this; exact this
  have x0 : w1.cell? ⟨w.heap.size, 0, none⟩ = some (.slice (some ⟨wb, 0, none⟩) n c) := cell_of hx1 0
  have x1 : w1.cell? ⟨wb, 1, none⟩ = some (.string ⟨([111, 107] : Str).toArray⟩) := ((bcell B1.out).1 wb 1 hwl).trans h1
  have hw01 : wb < w1.heap.size := by omega
  have hlt0 : w.heap.size < w1.heap.size := by omega
  have hlt1 : w.heap.size + 1 < w1.heap.size := by omega
  have d1 : decide ((k : Int) < 0) = false := by simp
  have d2 : decide ((n : Int) < 2) = false := by simp; omega
  have R3 := Lib.hid (block_new w1 (boxR k true (.slice none 0 0) (.slice none 0 0)))
  have B3 := Lib.hid (B1.out.alloc (by omega) (boxR k true (.slice none 0 0) (.slice none 0 0)))
  have HX3 := Lib.hid (block_old HX2.out (boxR k true (.slice none 0 0) (.slice none 0 0)))
  clear PI hb1 hx1 hx2 hsz X1 X2
  have y0 : w1.cell? ⟨w.heap.size + 1, 0, none⟩ = some (.int .i64 0) := cell_of HX2.out 0
  have y1 : w1.cell? ⟨w.heap.size + 1, 1, none⟩ = some (.int .i64 0) := cell_of HX2.out 1
  have y2 : w1.cell? ⟨w.heap.size + 1, 2, none⟩ = some (.bool false) := cell_of HX2.out 2
  have y3 : w1.cell? ⟨w.heap.size + 1, 3, none⟩ = some (.slice none 0 0) := cell_of HX2.out 3
  have y4 : w1.cell? ⟨w.heap.size + 1, 4, none⟩ = some (.slice none 0 0) := cell_of HX2.out 4
  have qf : ∀ i, w1.frozen? ⟨w.heap.size + 1, i, none⟩ = false := fun i => free_of HX2.out i
  have x2 : w1.cell? ⟨wb, o2, none⟩ = some (.string ⟨([121, 101, 115] : Str).toArray⟩) := ((bcell B1.out).1 wb o2 hwl).trans hw2
  have PT := Lib.hid (PE.out _ B3.out w1.heap.size (by omega) R3.out)
  clear PE
  go_wp2_with (go_at_call 34; refine (PA.out _).mono ?_; rintro e w' ⟨rfl, rfl⟩)
  refine (PT.out).mono ?_
  rintro e w4 ⟨ok, v3, v4, ids, nums, rfl, hbx, ht, o3, o4, f1, f2, f3⟩
  have HR4 := Lib.hid hbx
  have HX4 := Lib.hid (ht.keep HX3.out (show ¬ (w.heap.size + 1 = w1.heap.size) by omega))
  have hb4 := Lib.hid (B3.out.trans (ht.below B3.out.size (fun j hj e => by omega)))
  have hge : w.heap.size + 2 ≤ (w1.alloc (boxR k true (.slice none 0 0) (.slice none 0 0))).heap.size := by have := HX3.out; simp; omega
  have O3 := Lib.hid o3
  have O4 := Lib.hid o4
  obtain ⟨a3, c3, e3⟩ := own_shape o3.row
  obtain ⟨a4, c4, e4⟩ := own_shape o4.row
  subst e3 e4
  generalize (ns ids).length = n3 at *
  generalize nums.length = n4 at *
  have FF := Lib.hid (And.intro f1 (And.intro f2 f3))
  have gl4 := lt_of_block hbx
  clear hbx ht o3 o4 f1 f2 f3 y0 y1 y2 y3 y4 qf x0 x1 PT
  have y0 : w4.cell? ⟨w.heap.size + 1, 0, none⟩ = some (.int .i64 0) := cell_of HX4.out 0
  have y1 : w4.cell? ⟨w.heap.size + 1, 1, none⟩ = some (.int .i64 0) := cell_of HX4.out 1
  have y2 : w4.cell? ⟨w.heap.size + 1, 2, none⟩ = some (.bool false) := cell_of HX4.out 2
  have y3 : w4.cell? ⟨w.heap.size + 1, 3, none⟩ = some (.slice none 0 0) := cell_of HX4.out 3
  have y4 : w4.cell? ⟨w.heap.size + 1, 4, none⟩ = some (.slice none 0 0) := cell_of HX4.out 4
  have qf : ∀ i, w4.frozen? ⟨w.heap.size + 1, i, none⟩ = false := fun i => free_of HX4.out i
  have z0 : w4.cell? ⟨w1.heap.size, 0, none⟩ = some (.int .i64 (k : Int)) := cell_of HR4.out 0
  have z1 : w4.cell? ⟨w1.heap.size, 1, none⟩ = some (.int .i64 0) := cell_of HR4.out 1
  have z2 : w4.cell? ⟨w1.heap.size, 2, none⟩ = some (.bool true) := cell_of HR4.out 2
  have z3 : w4.cell? ⟨w1.heap.size, 3, none⟩ = some (.slice a3 n3 c3) := cell_of HR4.out 3
  have z4 : w4.cell? ⟨w1.heap.size, 4, none⟩ = some (.slice a4 n4 c4) := cell_of HR4.out 4
  go_wp2_with fail
  have Q3 := Lib.hid (out5 (x := w.heap.size + 1) O3.out (by omega) (.int .i64 (k : Int)) (.int .i64 0) (.bool true) (.slice a3 n3 c3) (.slice a4 n4 c4))
  have Q4 := Lib.hid (out5 (x := w.heap.size + 1) O4.out (by omega) (.int .i64 (k : Int)) (.int .i64 0) (.bool true) (.slice a3 n3 c3) (.slice a4 n4 c4))
  have h7 := set5 HX4.out rfl (.int .i64 (k : Int)) (.int .i64 0) (.bool true) (.slice a3 n3 c3) (.slice a4 n4 c4)
  have B7 := Lib.hid (below5 (x := w.heap.size + 1) hb4.out (by omega) (.int .i64 (k : Int)) (.int .i64 0) (.bool true) (.slice a3 n3 c3) (.slice a4 n4 c4))
  clear y0 y1 y2 y3 y4 qf z0 z1 z2 z3 z4
  generalize hW6 : ((((w4.setCell ⟨w.heap.size + 1, 0, none⟩ (.int .i64 (k : Int))).setCell ⟨w.heap.size + 1, 1, none⟩ (.int .i64 0)).setCell ⟨w.heap.size + 1, 2, none⟩ (.bool true)).setCell ⟨w.heap.size + 1, 3, none⟩ (.slice a3 n3 c3)).setCell ⟨w.heap.size + 1, 4, none⟩ (.slice a4 n4 c4) = W6 at *
  have y0 : W6.cell? ⟨w.heap.size + 1, 0, none⟩ = some (.int .i64 (k : Int)) := cell_of h7 0
  have y1 : W6.cell? ⟨w.heap.size + 1, 1, none⟩ = some (.int .i64 0) := cell_of h7 1
  have y2 : W6.cell? ⟨w.heap.size + 1, 2, none⟩ = some (.bool true) := cell_of h7 2
  have y3 : W6.cell? ⟨w.heap.size + 1, 3, none⟩ = some (.slice a3 n3 c3) := cell_of h7 3
  have y4 : W6.cell? ⟨w.heap.size + 1, 4, none⟩ = some (.slice a4 n4 c4) := cell_of h7 4
  exact bodyPost_ret (v := .tuple #[.agg #[.int .i64 (k : Int), .int .i64 0, .bool true, .slice a3 n3 c3, .slice a4 n4 c4], .bool ok]) (by clear hW6 h7; simp [results, Tryd.results39, go_sem, y0, y1, y2, y3, y4]) rfl (rds_ents HR.out B7.out (out_low Q3.out (by omega)) (out_low Q4.out (by omega)) FF.out.1 FF.out.2.1 FF.out.2.2)
set_option maxRecDepth 100000 in
set_option maxHeartbeats 8000000 in
theorem pread_noo {w : World} (hE : Env w) {wb n c k : Nat} {ws : List Str} {W1 : Str} (hS : IsSl 1 encS w (some ⟨wb, 0, none⟩) n c ws) (hn2 : 2 ≤ n) (hn : n ≤ 1000000) (hws : ∀ s ∈ ws, s.length ≤ 1000000)
    (hk : k < 16) (hk0 : kwS k = ws.getD 0 []) (hw1 : ws.getD 1 [] = W1) (R : Option Rp) (hq1 : W1 = okW) (ha : asksK k = true) (hn3 : 3 ≤ n) (hy1 : ws.getD 2 [] = noW) (hR : R = (ents k (ws.drop 3)).map fun q => (⟨k, 0, false, q.1, q.2⟩ : Rp)) :
    Calls Tryd.prog 39 #[.slice (some ⟨wb, 0, none⟩) n c] w (RdS w R) := by
  have hnl := hS.hlen
  have A1 := Lib.hid (Below.alloc (Below.refl w.heap.size w) (Nat.le_refl _) (.cells #[.slice (some ⟨wb, 0, none⟩) n c] 30))
  have A2 := Lib.hid (A1.out.alloc (by simp) (.cells #[.int .i64 0, .int .i64 0, .bool false, .slice none 0 0, .slice none 0 0] 27))
  have X1 := Lib.hid (block_old (block_new w (.cells #[.slice (some ⟨wb, 0, none⟩) n c] 30)) (.cells #[.int .i64 0, .int .i64 0, .bool false, .slice none 0 0, .slice none 0 0] 27))
  have X2 : Hid (((w.alloc (.cells #[.slice (some ⟨wb, 0, none⟩) n c] 30)).alloc (.cells #[.int .i64 0, .int .i64 0, .bool false, .slice none 0 0, .slice none 0 0] 27)).heap[w.heap.size + 1]? = some (.cells #[.int .i64 0, .int .i64 0, .bool false, .slice none 0 0, .slice none 0 0] 27 (0, 0))) := Lib.hid (by
    have := block_new (w.alloc (.cells #[.slice (some ⟨wb, 0, none⟩) n c] 30)) (.cells #[.int .i64 0, .int .i64 0, .bool false, .slice none 0 0, .slice none 0 0] 27)
    rwa [show (w.alloc (.cells #[.slice (some ⟨wb, 0, none⟩) n c] 30)).heap.size = w.heap.size + 1 by simp] at this)
  obtain ⟨_, _, e, h0⟩ := sl_str hS (i := 0) (by omega)
  cases e
  obtain ⟨_, _, e, h1⟩ := sl_str hS (i := 1) (by omega)
  cases e
  rw [Nat.zero_add] at h0 h1
  have PI := Lib.hid (pindex (hE.below A2.out) (by omega) (cell_of X1.out 0) (((bcell A2.out).1 wb 0 (lt_of_cell h0)).trans h0))
  rw [idxW_hit hk hk0] at PI
  have HC1 := Lib.hid h1
  have hwl := lt_of_cell h1
  have hmf : ∀ (fn : Fn) (first cap : Array Value) (w : World), (Instr.makeFunc fn first cap).run Tryd.prog w = .ok (.func fn first cap) w := fun _ _ _ _ => rfl
  have hsz : ((w.alloc (.cells #[.slice (some ⟨wb, 0, none⟩) n c] 30)).alloc (.cells #[.int .i64 0, .int .i64 0, .bool false, .slice none 0 0, .slice none 0 0] 27)).heap.size = w.heap.size + 2 := by simp
  have HE := Lib.hid hE
  have HS := Lib.hid hS
  have hsl2 := run_from Tryd.underlying30 size9 (a := some ⟨wb, 0, none⟩) (len := n) (cap := c) (l := 2) (k := 2) rfl (by omega)
  have HS2 := Lib.hid (hS.tail (l := 2) (by omega))
  obtain ⟨o2, ho2⟩ := part_some (wb := wb) (off := 0) (l := 2) (m := c)
  rw [ho2] at hsl2 HS2
  have hnc := hS.hle
  obtain ⟨m, hm⟩ : ∃ m, m = n - 2 := ⟨_, rfl⟩
  obtain ⟨c2, hc2⟩ : ∃ c2, c2 = c - 2 := ⟨_, rfl⟩
  rw [← hm, ← hc2] at hsl2 HS2
  have HM := Lib.hid hm
  have hm1 : m ≤ 1000000 := by omega
  clear hm hc2
  clear ho2
  have HWS := Lib.hid hws
  have HNL := Lib.hid hS.hlen
  have HW1 := Lib.hid hw1
  rw [hw1] at h1
  have HR := Lib.hid hR
  have PA := Lib.hid (fun W => pasks (k : Int) W)
  rw [asks_eq (by omega), Int.toNat_natCast, ha] at PA
  have hm0 : 0 < m := by have := HM.out; omega
  obtain ⟨_, _, e, hw2⟩ := sl_str HS2.out (i := 0) (by have := HS2.out.hlen; omega)
  cases e
  have e2 : (ws.drop 2).getD 0 [] = ws.getD 2 [] := by simp
  rw [e2, Nat.add_zero, hy1] at hw2
  clear e2
  have d3 : ((m : Int) == 0) = false := by simp; omega
  have d4 : (m == 0) = false := by simp; omega
  have hsl3 := run_from Tryd.underlying30 size9 (a := some ⟨wb, o2, none⟩) (len := m) (cap := c2) (l := 1) (k := 1) rfl (by omega)
  have HS3 := Lib.hid (HS2.out.tail (l := 1) (by omega))
  obtain ⟨o3, ho3⟩ := part_some (wb := wb) (off := o2) (l := 1) (m := c2)
  rw [ho3] at hsl3 HS3
  rw [List.drop_drop] at HS3
  obtain ⟨m3, hm3⟩ : ∃ m3, m3 = m - 1 := ⟨_, rfl⟩
  obtain ⟨c3', hc3⟩ : ∃ c3', c3' = c2 - 1 := ⟨_, rfl⟩
  rw [← hm3, ← hc3] at hsl3 HS3
  have hm31 : m3 ≤ 1000000 := by omega
  have hmc2 := HS2.out.hle
  clear hm3 hc3 ho3
  have PE := Lib.hid (fun (W : World) (hW : Below w.heap.size w W) (b : Nat) (hb : w.heap.size ≤ b) (hx : W.heap[b]? = some (boxR k false (.slice none 0 0) (.slice none 0 0))) => pents hE hW hb hk hx HS3.out hm31 (fun s hs => hws s (List.mem_of_mem_drop hs)))
  generalize ents k (ws.drop 3) = R0 at *
  unfold noW at hw2
  clear hR ha hy1 hn3
  subst hq1
  clear hE h0 hS hws hnl hw1 hk0
  unfold okW at h1
  go_enter Tryd.func39, Tryd.ntmps39
  go_wp2_with fail
  refine (PI.out).mono ?_; rintro e w1 ⟨rfl, hb1⟩
  have B1 := Lib.hid (A2.out.trans (hb1.mono A2.out.size))
  have hx1 := (hb1.block _ (lt_of_block X1.out)).trans X1.out
  have hx2 := (hb1.block _ (lt_of_block X2.out)).trans X2.out
  have HX2 := Lib.hid hx2
  have hs1 : w.heap.size + 2 ≤ w1.heap.size := by have := hb1.size; rw [hsz] at this; exact this
  have x0 : w1.cell? ⟨w.heap.size, 0, none⟩ = some (.slice (some ⟨wb, 0, none⟩) n c) := cell_of hx1 0
  have x1 : w1.cell? ⟨wb, 1, none⟩ = some (.string ⟨([111, 107] : Str).toArray⟩) := ((bcell B1.out).1 wb 1 hwl).trans h1
  have hw01 : wb < w1.heap.size := by omega
  have hlt0 : w.heap.size < w1.heap.size := by omega
  have hlt1 : w.heap.size + 1 < w1.heap.size := by omega
  have d1 : decide ((k : Int) < 0) = false := by simp
  have d2 : decide ((n : Int) < 2) = false := by simp; omega
  have R3 := Lib.hid (block_new w1 (boxR k false (.slice none 0 0) (.slice none 0 0)))
  have B3 := Lib.hid (B1.out.alloc (by omega) (boxR k false (.slice none 0 0) (.slice none 0 0)))
  have HX3 := Lib.hid (block_old HX2.out (boxR k false (.slice none 0 0) (.slice none 0 0)))
  clear PI hb1 hx1 hx2 hsz X1 X2
  have y0 : w1.cell? ⟨w.heap.size + 1, 0, none⟩ = some (.int .i64 0) := cell_of HX2.out 0
  have y1 : w1.cell? ⟨w.heap.size + 1, 1, none⟩ = some (.int .i64 0) := cell_of HX2.out 1
  have y2 : w1.cell? ⟨w.heap.size + 1, 2, none⟩ = some (.bool false) := cell_of HX2.out 2
  have y3 : w1.cell? ⟨w.heap.size + 1, 3, none⟩ = some (.slice none 0 0) := cell_of HX2.out 3
  have y4 : w1.cell? ⟨w.heap.size + 1, 4, none⟩ = some (.slice none 0 0) := cell_of HX2.out 4
  have qf : ∀ i, w1.frozen? ⟨w.heap.size + 1, i, none⟩ = false := fun i => free_of HX2.out i
  have x2 : w1.cell? ⟨wb, o2, none⟩ = some (.string ⟨([110, 111] : Str).toArray⟩) := ((bcell B1.out).1 wb o2 hwl).trans hw2
  have PT := Lib.hid (PE.out _ B3.out w1.heap.size (by omega) R3.out)
  clear PE
  go_wp2_with (go_at_call 34; refine (PA.out _).mono ?_; rintro e w' ⟨rfl, rfl⟩)
  refine (PT.out).mono ?_
  rintro e w4 ⟨ok, v3, v4, ids, nums, rfl, hbx, ht, o3, o4, f1, f2, f3⟩
  have HR4 := Lib.hid hbx
  have HX4 := Lib.hid (ht.keep HX3.out (show ¬ (w.heap.size + 1 = w1.heap.size) by omega))
  have hb4 := Lib.hid (B3.out.trans (ht.below B3.out.size (fun j hj e => by omega)))
  have hge : w.heap.size + 2 ≤ (w1.alloc (boxR k false (.slice none 0 0) (.slice none 0 0))).heap.size := by have := HX3.out; simp; omega
  have O3 := Lib.hid o3
  have O4 := Lib.hid o4
  obtain ⟨a3, c3, e3⟩ := own_shape o3.row
  obtain ⟨a4, c4, e4⟩ := own_shape o4.row
  subst e3 e4
  generalize (ns ids).length = n3 at *
  generalize nums.length = n4 at *
  have FF := Lib.hid (And.intro f1 (And.intro f2 f3))
  have gl4 := lt_of_block hbx
  clear hbx ht o3 o4 f1 f2 f3 y0 y1 y2 y3 y4 qf x0 x1 PT
  have y0 : w4.cell? ⟨w.heap.size + 1, 0, none⟩ = some (.int .i64 0) := cell_of HX4.out 0
  have y1 : w4.cell? ⟨w.heap.size + 1, 1, none⟩ = some (.int .i64 0) := cell_of HX4.out 1
  have y2 : w4.cell? ⟨w.heap.size + 1, 2, none⟩ = some (.bool false) := cell_of HX4.out 2
  have y3 : w4.cell? ⟨w.heap.size + 1, 3, none⟩ = some (.slice none 0 0) := cell_of HX4.out 3
  have y4 : w4.cell? ⟨w.heap.size + 1, 4, none⟩ = some (.slice none 0 0) := cell_of HX4.out 4
  have qf : ∀ i, w4.frozen? ⟨w.heap.size + 1, i, none⟩ = false := fun i => free_of HX4.out i
  have z0 : w4.cell? ⟨w1.heap.size, 0, none⟩ = some (.int .i64 (k : Int)) := cell_of HR4.out 0
  have z1 : w4.cell? ⟨w1.heap.size, 1, none⟩ = some (.int .i64 0) := cell_of HR4.out 1
  have z2 : w4.cell? ⟨w1.heap.size, 2, none⟩ = some (.bool false) := cell_of HR4.out 2
  have z3 : w4.cell? ⟨w1.heap.size, 3, none⟩ = some (.slice a3 n3 c3) := cell_of HR4.out 3
  have z4 : w4.cell? ⟨w1.heap.size, 4, none⟩ = some (.slice a4 n4 c4) := cell_of HR4.out 4
  go_wp2_with fail
  have Q3 := Lib.hid (out5 (x := w.heap.size + 1) O3.out (by omega) (.int .i64 (k : Int)) (.int .i64 0) (.bool false) (.slice a3 n3 c3) (.slice a4 n4 c4))
  have Q4 := Lib.hid (out5 (x := w.heap.size + 1) O4.out (by omega) (.int .i64 (k : Int)) (.int .i64 0) (.bool false) (.slice a3 n3 c3) (.slice a4 n4 c4))
  have h7 := set5 HX4.out rfl (.int .i64 (k : Int)) (.int .i64 0) (.bool false) (.slice a3 n3 c3) (.slice a4 n4 c4)
  have B7 := Lib.hid (below5 (x := w.heap.size + 1) hb4.out (by omega) (.int .i64 (k : Int)) (.int .i64 0) (.bool false) (.slice a3 n3 c3) (.slice a4 n4 c4))
  clear y0 y1 y2 y3 y4 qf z0 z1 z2 z3 z4
  generalize hW6 : ((((w4.setCell ⟨w.heap.size + 1, 0, none⟩ (.int .i64 (k : Int))).setCell ⟨w.heap.size + 1, 1, none⟩ (.int .i64 0)).setCell ⟨w.heap.size + 1, 2, none⟩ (.bool false)).setCell ⟨w.heap.size + 1, 3, none⟩ (.slice a3 n3 c3)).setCell ⟨w.heap.size + 1, 4, none⟩ (.slice a4 n4 c4) = W6 at *
  have y0 : W6.cell? ⟨w.heap.size + 1, 0, none⟩ = some (.int .i64 (k : Int)) := cell_of h7 0
  have y1 : W6.cell? ⟨w.heap.size + 1, 1, none⟩ = some (.int .i64 0) := cell_of h7 1
  have y2 : W6.cell? ⟨w.heap.size + 1, 2, none⟩ = some (.bool false) := cell_of h7 2
  have y3 : W6.cell? ⟨w.heap.size + 1, 3, none⟩ = some (.slice a3 n3 c3) := cell_of h7 3
  have y4 : W6.cell? ⟨w.heap.size + 1, 4, none⟩ = some (.slice a4 n4 c4) := cell_of h7 4
  exact bodyPost_ret (v := .tuple #[.agg #[.int .i64 (k : Int), .int .i64 0, .bool false, .slice a3 n3 c3, .slice a4 n4 c4], .bool ok]) (by clear hW6 h7; simp [results, Tryd.results39, go_sem, y0, y1, y2, y3, y4]) rfl (rds_ents HR.out B7.out (out_low Q3.out (by omega)) (out_low Q4.out (by omega)) FF.out.1 FF.out.2.1 FF.out.2.2)
end Go.Proofs.YtlmdkcpiimpniaaDoor

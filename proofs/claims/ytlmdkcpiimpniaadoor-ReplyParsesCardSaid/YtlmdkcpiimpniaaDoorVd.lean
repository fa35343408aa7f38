/- read of the program: the kind is known. -/
import Derived.Test.YtlmdkcpiimpniaaDoorVc
import Derived.Test.YtlmdkcpiimpniaaDoorS
namespace Go.Proofs.YtlmdkcpiimpniaaDoor
open Go.ChangeShapes Go.WideShapes Go.ChangeAt Go.RowKit
set_option linter.unusedVariables false
set_option linter.unusedSimpArgs false

theorem size9 : ∀ w, (sizeOf 9).run Tryd.prog w = .ok 1 w := fun w => by kernel_rfl
theorem rds_err {w w' : World} {k : Nat} {v : Int} {R : Option Rp} (hR : R = some ⟨k, v, false, [], []⟩) (hb : Below w.heap.size w w') :
    RdS w R (.returned (.tuple #[.agg #[.int .i64 (k : Int), .int .i64 v, .bool false, .slice none 0 0, .slice none 0 0], .bool true])) w' :=
  ⟨_, _, _, _, _, _, _, _, _, true, rfl, hb, fun h => (by rw [hR] at h; cases h), fun r h => by
    rw [hR] at h
    cases h
    exact ⟨rfl, rfl, rfl, rfl, ⟨⟨rfl, Or.inl ⟨rfl, rfl⟩⟩, fun g h => by cases h⟩, ⟨⟨rfl, Or.inl ⟨rfl, rfl⟩⟩, fun g h => by cases h⟩⟩⟩
theorem part_some {wb off l m : Nat} : ∃ off', part (some ⟨wb, off, none⟩) l m 1 = some ⟨wb, off', none⟩ := by
  unfold part
  split
  · exact ⟨_, rfl⟩
  · exact ⟨_, by rw [Option.map_some, addr_add]⟩
set_option maxRecDepth 100000 in
set_option maxHeartbeats 8000000 in
theorem pread_x {w : World} (hE : Env w) {wb n c k : Nat} {ws : List Str} {W1 : Str} (hS : IsSl 1 encS w (some ⟨wb, 0, none⟩) n c ws) (hn2 : 2 ≤ n) (hn : n ≤ 1000000) (hws : ∀ s ∈ ws, s.length ≤ 1000000)
    (hk : k < 16) (hk0 : kwS k = ws.getD 0 []) (hw1 : ws.getD 1 [] = W1) (R : Option Rp) (hR : R = none) (hq1 : W1 ≠ errW) (hq2 : W1 ≠ okW) :
    Calls Tryd.prog 39 #[.slice (some ⟨wb, 0, none⟩) n c] w (RdS w R) := by
  have hnl := hS.hlen
  have A1 := Lib.hid (Below.alloc (Below.refl w.heap.size w) (Nat.le_refl _) (.cells #[.slice (some ⟨wb, 0, none⟩) n c] 30))
  have A2 := Lib.hid (A1.out.alloc (by simp) (.cells #[.int .i64 0, .int .i64 0, .bool false, .slice none 0 0, .slice none 0 0] 27))
  have X1 := Lib.hid (block_old (block_new w (.cells #[.slice (some ⟨wb, 0, none⟩) n c] 30)) (.cells #[.int .i64 0, .int .i64 0, .bool false, .slice none 0 0, .slice none 0 0] 27))
  have X2 : Hid (((w.alloc (.cells #[.slice (some ⟨wb, 0, none⟩) n c] 30)).alloc (.cells #[.int .i64 0, .int .i64 0, .bool false, .slice none 0 0, .slice none 0 0] 27)).heap[w.heap.size + 1]? = some (.cells #[.int .i64 0, .int .i64 0, .bool false, .slice none 0 0, .slice none 0 0] 27 (0, 0))) := Lib.hid (by
    have := block_new (w.alloc (.cells #[.slice (some ⟨wb, 0, none⟩) n c] 30)) (.cells #[.int .i64 0, .int .i64 0, .bool false, .slice none 0 0, .slice none 0 0] 27)
    rwa [show (w.alloc (.cells #[.slice (some ⟨wb, 0, none⟩) n c] 30)).heap.size = w.heap.size + 1 by simp] at this)
  obtain ⟨_, _, e, h0⟩ := sl_str hS (i := 0) (by omega)
  cases e
  obtain ⟨_, _, e, h1⟩ := sl_str hS (i := 1) (by omega)
  cases e
  rw [Nat.zero_add] at h0 h1
  have PI := Lib.hid (pindex (hE.below A2.out) (by omega) (cell_of X1.out 0) (((bcell A2.out).1 wb 0 (lt_of_cell h0)).trans h0))
  rw [idxW_hit hk hk0] at PI
  have HC1 := Lib.hid h1
  have hwl := lt_of_cell h1
  have hmf : ∀ (fn : Fn) (first cap : Array Value) (w : World), (Instr.makeFunc fn first cap).run Tryd.prog w = .ok (.func fn first cap) w := fun _ _ _ _ => rfl
  have hsz : ((w.alloc (.cells #[.slice (some ⟨wb, 0, none⟩) n c] 30)).alloc (.cells #[.int .i64 0, .int .i64 0, .bool false, .slice none 0 0, .slice none 0 0] 27)).heap.size = w.heap.size + 2 := by simp
  have HE := Lib.hid hE
  have HS := Lib.hid hS
  have hsl2 := run_from Tryd.underlying30 size9 (a := some ⟨wb, 0, none⟩) (len := n) (cap := c) (l := 2) (k := 2) rfl (by omega)
  have HS2 := Lib.hid (hS.tail (l := 2) (by omega))
  obtain ⟨o2, ho2⟩ := part_some (wb := wb) (off := 0) (l := 2) (m := c)
  rw [ho2] at hsl2 HS2
  have hnc := hS.hle
  obtain ⟨m, hm⟩ : ∃ m, m = n - 2 := ⟨_, rfl⟩
  obtain ⟨c2, hc2⟩ : ∃ c2, c2 = c - 2 := ⟨_, rfl⟩
  rw [← hm, ← hc2] at hsl2 HS2
  have HM := Lib.hid hm
  have hm1 : m ≤ 1000000 := by omega
  clear hm hc2
  clear ho2
  have HWS := Lib.hid hws
  have HNL := Lib.hid hS.hlen
  have HW1 := Lib.hid hw1
  rw [hw1] at h1
  have HR := Lib.hid hR
  have q3 : (W1 == ([101, 114, 114, 111, 114] : Str)) = false := beq_false_of_ne (b := errW) hq1
  have q4 : (W1 == ([111, 107] : Str)) = false := beq_false_of_ne (b := okW) hq2
  clear hR hE h0 hS hws hnl hq1 hq2 hw1 hk0
  go_enter Tryd.func39, Tryd.ntmps39
  go_wp2_with fail
  refine (PI.out).mono ?_; rintro e w1 ⟨rfl, hb1⟩
  have B1 := Lib.hid (A2.out.trans (hb1.mono A2.out.size))
  have hx1 := (hb1.block _ (lt_of_block X1.out)).trans X1.out
  have hx2 := (hb1.block _ (lt_of_block X2.out)).trans X2.out
  have HX2 := Lib.hid hx2
  have hs1 : w.heap.size + 2 ≤ w1.heap.size := by have := hb1.size; rw [hsz] at this; exact this
  have x0 : w1.cell? ⟨w.heap.size, 0, none⟩ = some (.slice (some ⟨wb, 0, none⟩) n c) := cell_of hx1 0
  have x1 : w1.cell? ⟨wb, 1, none⟩ = some (.string ⟨(W1 : Str).toArray⟩) := ((bcell B1.out).1 wb 1 hwl).trans h1
  have hw01 : wb < w1.heap.size := by omega
  have hlt0 : w.heap.size < w1.heap.size := by omega
  have hlt1 : w.heap.size + 1 < w1.heap.size := by omega
  have d1 : decide ((k : Int) < 0) = false := by simp
  have d2 : decide ((n : Int) < 2) = false := by simp; omega
  have R3 := Lib.hid (block_new w1 (boxR k false (.slice none 0 0) (.slice none 0 0)))
  have B3 := Lib.hid (B1.out.alloc (by omega) (boxR k false (.slice none 0 0) (.slice none 0 0)))
  have HX3 := Lib.hid (block_old HX2.out (boxR k false (.slice none 0 0) (.slice none 0 0)))
  clear PI hb1 hx1 hx2 hsz X1 X2
  have y0 : w1.cell? ⟨w.heap.size + 1, 0, none⟩ = some (.int .i64 0) := cell_of HX2.out 0
  have y1 : w1.cell? ⟨w.heap.size + 1, 1, none⟩ = some (.int .i64 0) := cell_of HX2.out 1
  have y2 : w1.cell? ⟨w.heap.size + 1, 2, none⟩ = some (.bool false) := cell_of HX2.out 2
  have y3 : w1.cell? ⟨w.heap.size + 1, 3, none⟩ = some (.slice none 0 0) := cell_of HX2.out 3
  have y4 : w1.cell? ⟨w.heap.size + 1, 4, none⟩ = some (.slice none 0 0) := cell_of HX2.out 4
  have qf : ∀ i, w1.frozen? ⟨w.heap.size + 1, i, none⟩ = false := fun i => free_of HX2.out i
  go_wp2_with fail
  have h7 := block_old (set5 HX2.out rfl (.int .i64 (k : Int)) (.int .i64 0) (.bool false) (.slice none 0 0) (.slice none 0 0)) (.cells #[.int .i64 (k : Int), .int .i64 0, .bool false, .slice none 0 0, .slice none 0 0] 27)
  have B7 := Lib.hid ((have b := below5 (x := w.heap.size + 1) B1.out (by omega) (.int .i64 (k : Int)) (.int .i64 0) (.bool false) (.slice none 0 0) (.slice none 0 0); b.alloc b.size (.cells #[.int .i64 (k : Int), .int .i64 0, .bool false, .slice none 0 0, .slice none 0 0] 27)))
  clear y0 y1 y2 y3 y4 qf x0 x1
  generalize hW6 : (((((w1.setCell ⟨w.heap.size + 1, 0, none⟩ (.int .i64 (k : Int))).setCell ⟨w.heap.size + 1, 1, none⟩ (.int .i64 0)).setCell ⟨w.heap.size + 1, 2, none⟩ (.bool false)).setCell ⟨w.heap.size + 1, 3, none⟩ (.slice none 0 0)).setCell ⟨w.heap.size + 1, 4, none⟩ (.slice none 0 0)).alloc (.cells #[.int .i64 (k : Int), .int .i64 0, .bool false, .slice none 0 0, .slice none 0 0] 27) = W6 at *
  have y0 : W6.cell? ⟨w.heap.size + 1, 0, none⟩ = some (.int .i64 (k : Int)) := cell_of h7 0
  have y1 : W6.cell? ⟨w.heap.size + 1, 1, none⟩ = some (.int .i64 0) := cell_of h7 1
  have y2 : W6.cell? ⟨w.heap.size + 1, 2, none⟩ = some (.bool false) := cell_of h7 2
  have y3 : W6.cell? ⟨w.heap.size + 1, 3, none⟩ = some (.slice none 0 0) := cell_of h7 3
  have y4 : W6.cell? ⟨w.heap.size + 1, 4, none⟩ = some (.slice none 0 0) := cell_of h7 4
  exact bodyPost_ret (v := .tuple #[.agg #[.int .i64 (k : Int), .int .i64 0, .bool false, .slice none 0 0, .slice none 0 0], .bool false]) (by clear hW6 h7; simp [results, Tryd.results39, go_sem, y0, y1, y2, y3, y4]) rfl (rds_bad HR.out B7.out)
set_option maxRecDepth 100000 in
set_option maxHeartbeats 8000000 in
theorem pread_e1 {w : World} (hE : Env w) {wb n c k : Nat} {ws : List Str} {W1 : Str} (hS : IsSl 1 encS w (some ⟨wb, 0, none⟩) n c ws) (hn2 : 2 ≤ n) (hn : n ≤ 1000000) (hws : ∀ s ∈ ws, s.length ≤ 1000000)
    (hk : k < 16) (hk0 : kwS k = ws.getD 0 []) (hw1 : ws.getD 1 [] = W1) (R : Option Rp) (hq1 : W1 = errW) (hn3 : n ≠ 3) (hR : R = none) :
    Calls Tryd.prog 39 #[.slice (some ⟨wb, 0, none⟩) n c] w (RdS w R) := by
  have hnl := hS.hlen
  have A1 := Lib.hid (Below.alloc (Below.refl w.heap.size w) (Nat.le_refl _) (.cells #[.slice (some ⟨wb, 0, none⟩) n c] 30))
  have A2 := Lib.hid (A1.out.alloc (by simp) (.cells #[.int .i64 0, .int .i64 0, .bool false, .slice none 0 0, .slice none 0 0] 27))
  have X1 := Lib.hid (block_old (block_new w (.cells #[.slice (some ⟨wb, 0, none⟩) n c] 30)) (.cells #[.int .i64 0, .int .i64 0, .bool false, .slice none 0 0, .slice none 0 0] 27))
  have X2 : Hid (((w.alloc (.cells #[.slice (some ⟨wb, 0, none⟩) n c] 30)).alloc (.cells #[.int .i64 0, .int .i64 0, .bool false, .slice none 0 0, .slice none 0 0] 27)).heap[w.heap.size + 1]? = some (.cells #[.int .i64 0, .int .i64 0, .bool false, .slice none 0 0, .slice none 0 0] 27 (0, 0))) := Lib.hid (by
    have := block_new (w.alloc (.cells #[.slice (some ⟨wb, 0, none⟩) n c] 30)) (.cells #[.int .i64 0, .int .i64 0, .bool false, .slice none 0 0, .slice none 0 0] 27)
    rwa [show (w.alloc (.cells #[.slice (some ⟨wb, 0, none⟩) n c] 30)).heap.size = w.heap.size + 1 by simp] at this)
  obtain ⟨_, _, e, h0⟩ := sl_str hS (i := 0) (by omega)
  cases e
  obtain ⟨_, _, e, h1⟩ := sl_str hS (i := 1) (by omega)
  cases e
  rw [Nat.zero_add] at h0 h1
  have PI := Lib.hid (pindex (hE.below A2.out) (by omega) (cell_of X1.out 0) (((bcell A2.out).1 wb 0 (lt_of_cell h0)).trans h0))
  rw [idxW_hit hk hk0] at PI
  have HC1 := Lib.hid h1
  have hwl := lt_of_cell h1
  have hmf : ∀ (fn : Fn) (first cap : Array Value) (w : World), (Instr.makeFunc fn first cap).run Tryd.prog w = .ok (.func fn first cap) w := fun _ _ _ _ => rfl
  have hsz : ((w.alloc (.cells #[.slice (some ⟨wb, 0, none⟩) n c] 30)).alloc (.cells #[.int .i64 0, .int .i64 0, .bool false, .slice none 0 0, .slice none 0 0] 27)).heap.size = w.heap.size + 2 := by simp
  have HE := Lib.hid hE
  have HS := Lib.hid hS
  have hsl2 := run_from Tryd.underlying30 size9 (a := some ⟨wb, 0, none⟩) (len := n) (cap := c) (l := 2) (k := 2) rfl (by omega)
  have HS2 := Lib.hid (hS.tail (l := 2) (by omega))
  obtain ⟨o2, ho2⟩ := part_some (wb := wb) (off := 0) (l := 2) (m := c)
  rw [ho2] at hsl2 HS2
  have hnc := hS.hle
  obtain ⟨m, hm⟩ : ∃ m, m = n - 2 := ⟨_, rfl⟩
  obtain ⟨c2, hc2⟩ : ∃ c2, c2 = c - 2 := ⟨_, rfl⟩
  rw [← hm, ← hc2] at hsl2 HS2
  have HM := Lib.hid hm
  have hm1 : m ≤ 1000000 := by omega
  clear hm hc2
  clear ho2
  have HWS := Lib.hid hws
  have HNL := Lib.hid hS.hlen
  have HW1 := Lib.hid hw1
  rw [hw1] at h1
  have HR := Lib.hid hR
  have d3 : ((m : Int) != 1) = true := by have := HM.out; simp; omega
  have d4 : (m != 1) = true := by have := HM.out; simp; omega
  clear hR
  subst hq1
  clear hE h0 hS hws hnl hw1 hk0
  unfold errW at h1
  go_enter Tryd.func39, Tryd.ntmps39
  go_wp2_with fail
  refine (PI.out).mono ?_; rintro e w1 ⟨rfl, hb1⟩
  have B1 := Lib.hid (A2.out.trans (hb1.mono A2.out.size))
  have hx1 := (hb1.block _ (lt_of_block X1.out)).trans X1.out
  have hx2 := (hb1.block _ (lt_of_block X2.out)).trans X2.out
  have HX2 := Lib.hid hx2
  have hs1 : w.heap.size + 2 ≤ w1.heap.size := by have := hb1.size; rw [hsz] at this; exact this
  have x0 : w1.cell? ⟨w.heap.size, 0, none⟩ = some (.slice (some ⟨wb, 0, none⟩) n c) := cell_of hx1 0
  have x1 : w1.cell? ⟨wb, 1, none⟩ = some (.string ⟨([101, 114, 114, 111, 114] : Str).toArray⟩) := ((bcell B1.out).1 wb 1 hwl).trans h1
  have hw01 : wb < w1.heap.size := by omega
  have hlt0 : w.heap.size < w1.heap.size := by omega
  have hlt1 : w.heap.size + 1 < w1.heap.size := by omega
  have d1 : decide ((k : Int) < 0) = false := by simp
  have d2 : decide ((n : Int) < 2) = false := by simp; omega
  have R3 := Lib.hid (block_new w1 (boxR k false (.slice none 0 0) (.slice none 0 0)))
  have B3 := Lib.hid (B1.out.alloc (by omega) (boxR k false (.slice none 0 0) (.slice none 0 0)))
  have HX3 := Lib.hid (block_old HX2.out (boxR k false (.slice none 0 0) (.slice none 0 0)))
  clear PI hb1 hx1 hx2 hsz X1 X2
  have y0 : w1.cell? ⟨w.heap.size + 1, 0, none⟩ = some (.int .i64 0) := cell_of HX2.out 0
  have y1 : w1.cell? ⟨w.heap.size + 1, 1, none⟩ = some (.int .i64 0) := cell_of HX2.out 1
  have y2 : w1.cell? ⟨w.heap.size + 1, 2, none⟩ = some (.bool false) := cell_of HX2.out 2
  have y3 : w1.cell? ⟨w.heap.size + 1, 3, none⟩ = some (.slice none 0 0) := cell_of HX2.out 3
  have y4 : w1.cell? ⟨w.heap.size + 1, 4, none⟩ = some (.slice none 0 0) := cell_of HX2.out 4
  have qf : ∀ i, w1.frozen? ⟨w.heap.size + 1, i, none⟩ = false := fun i => free_of HX2.out i
  go_wp2_with fail
  have h7 := block_old (set5 HX2.out rfl (.int .i64 (k : Int)) (.int .i64 0) (.bool false) (.slice none 0 0) (.slice none 0 0)) (.cells #[.int .i64 (k : Int), .int .i64 0, .bool false, .slice none 0 0, .slice none 0 0] 27)
  have B7 := Lib.hid ((have b := below5 (x := w.heap.size + 1) B1.out (by omega) (.int .i64 (k : Int)) (.int .i64 0) (.bool false) (.slice none 0 0) (.slice none 0 0); b.alloc b.size (.cells #[.int .i64 (k : Int), .int .i64 0, .bool false, .slice none 0 0, .slice none 0 0] 27)))
  clear y0 y1 y2 y3 y4 qf x0 x1
  generalize hW6 : (((((w1.setCell ⟨w.heap.size + 1, 0, none⟩ (.int .i64 (k : Int))).setCell ⟨w.heap.size + 1, 1, none⟩ (.int .i64 0)).setCell ⟨w.heap.size + 1, 2, none⟩ (.bool false)).setCell ⟨w.heap.size + 1, 3, none⟩ (.slice none 0 0)).setCell ⟨w.heap.size + 1, 4, none⟩ (.slice none 0 0)).alloc (.cells #[.int .i64 (k : Int), .int .i64 0, .bool false, .slice none 0 0, .slice none 0 0] 27) = W6 at *
  have y0 : W6.cell? ⟨w.heap.size + 1, 0, none⟩ = some (.int .i64 (k : Int)) := cell_of h7 0
  have y1 : W6.cell? ⟨w.heap.size + 1, 1, none⟩ = some (.int .i64 0) := cell_of h7 1
  have y2 : W6.cell? ⟨w.heap.size + 1, 2, none⟩ = some (.bool false) := cell_of h7 2
  have y3 : W6.cell? ⟨w.heap.size + 1, 3, none⟩ = some (.slice none 0 0) := cell_of h7 3
  have y4 : W6.cell? ⟨w.heap.size + 1, 4, none⟩ = some (.slice none 0 0) := cell_of h7 4
  exact bodyPost_ret (v := .tuple #[.agg #[.int .i64 (k : Int), .int .i64 0, .bool false, .slice none 0 0, .slice none 0 0], .bool false]) (by clear hW6 h7; simp [results, Tryd.results39, go_sem, y0, y1, y2, y3, y4]) rfl (rds_bad HR.out B7.out)
set_option maxRecDepth 100000 in
set_option maxHeartbeats 8000000 in
theorem pread_e2 {w : World} (hE : Env w) {wb n c k : Nat} {ws : List Str} {W1 : Str} (hS : IsSl 1 encS w (some ⟨wb, 0, none⟩) n c ws) (hn2 : 2 ≤ n) (hn : n ≤ 1000000) (hws : ∀ s ∈ ws, s.length ≤ 1000000)
    (hk : k < 16) (hk0 : kwS k = ws.getD 0 []) (hw1 : ws.getD 1 [] = W1) (R : Option Rp) (hq1 : W1 = errW) (hn3 : n = 3) (hs0 : sgn (ws.getD 2 []) = none) (hR : R = none) :
    Calls Tryd.prog 39 #[.slice (some ⟨wb, 0, none⟩) n c] w (RdS w R) := by
  have hnl := hS.hlen
  have A1 := Lib.hid (Below.alloc (Below.refl w.heap.size w) (Nat.le_refl _) (.cells #[.slice (some ⟨wb, 0, none⟩) n c] 30))
  have A2 := Lib.hid (A1.out.alloc (by simp) (.cells #[.int .i64 0, .int .i64 0, .bool false, .slice none 0 0, .slice none 0 0] 27))
  have X1 := Lib.hid (block_old (block_new w (.cells #[.slice (some ⟨wb, 0, none⟩) n c] 30)) (.cells #[.int .i64 0, .int .i64 0, .bool false, .slice none 0 0, .slice none 0 0] 27))
  have X2 : Hid (((w.alloc (.cells #[.slice (some ⟨wb, 0, none⟩) n c] 30)).alloc (.cells #[.int .i64 0, .int .i64 0, .bool false, .slice none 0 0, .slice none 0 0] 27)).heap[w.heap.size + 1]? = some (.cells #[.int .i64 0, .int .i64 0, .bool false, .slice none 0 0, .slice none 0 0] 27 (0, 0))) := Lib.hid (by
    have := block_new (w.alloc (.cells #[.slice (some ⟨wb, 0, none⟩) n c] 30)) (.cells #[.int .i64 0, .int .i64 0, .bool false, .slice none 0 0, .slice none 0 0] 27)
    rwa [show (w.alloc (.cells #[.slice (some ⟨wb, 0, none⟩) n c] 30)).heap.size = w.heap.size + 1 by simp] at this)
  obtain ⟨_, _, e, h0⟩ := sl_str hS (i := 0) (by omega)
  cases e
  obtain ⟨_, _, e, h1⟩ := sl_str hS (i := 1) (by omega)
  cases e
  rw [Nat.zero_add] at h0 h1
  have PI := Lib.hid (pindex (hE.below A2.out) (by omega) (cell_of X1.out 0) (((bcell A2.out).1 wb 0 (lt_of_cell h0)).trans h0))
  rw [idxW_hit hk hk0] at PI
  have HC1 := Lib.hid h1
  have hwl := lt_of_cell h1
  have hmf : ∀ (fn : Fn) (first cap : Array Value) (w : World), (Instr.makeFunc fn first cap).run Tryd.prog w = .ok (.func fn first cap) w := fun _ _ _ _ => rfl
  have hsz : ((w.alloc (.cells #[.slice (some ⟨wb, 0, none⟩) n c] 30)).alloc (.cells #[.int .i64 0, .int .i64 0, .bool false, .slice none 0 0, .slice none 0 0] 27)).heap.size = w.heap.size + 2 := by simp
  have HE := Lib.hid hE
  have HS := Lib.hid hS
  have hsl2 := run_from Tryd.underlying30 size9 (a := some ⟨wb, 0, none⟩) (len := n) (cap := c) (l := 2) (k := 2) rfl (by omega)
  have HS2 := Lib.hid (hS.tail (l := 2) (by omega))
  obtain ⟨o2, ho2⟩ := part_some (wb := wb) (off := 0) (l := 2) (m := c)
  rw [ho2] at hsl2 HS2
  have hnc := hS.hle
  obtain ⟨m, hm⟩ : ∃ m, m = n - 2 := ⟨_, rfl⟩
  obtain ⟨c2, hc2⟩ : ∃ c2, c2 = c - 2 := ⟨_, rfl⟩
  rw [← hm, ← hc2] at hsl2 HS2
  have HM := Lib.hid hm
  have hm1 : m ≤ 1000000 := by omega
  clear hm hc2
  clear ho2
  have HWS := Lib.hid hws
  have HNL := Lib.hid hS.hlen
  have HW1 := Lib.hid hw1
  rw [hw1] at h1
  have HR := Lib.hid hR
  obtain ⟨_, _, e, hw2⟩ := sl_str HS2.out (i := 0) (by have := HS2.out.hlen; have := HM.out; omega)
  cases e
  have e2 : (ws.drop 2).getD 0 [] = ws.getD 2 [] := by simp
  rw [e2, Nat.add_zero] at hw2
  have hwl2 : (ws.getD 2 []).length ≤ 1000000 := hws _ (by rw [List.getD_eq_getElem?_getD, List.getElem?_eq_getElem (by omega)]; exact List.getElem_mem (by omega))
  obtain rfl : m = 1 := by have := HM.out; omega
  have PS := Lib.hid (fun w' (hb : Below w.heap.size w w') => psigned (hE.below hb) hwl2)
  rw [hs0] at PS
  generalize ws.getD 2 [] = W2 at *
  clear hR e2 hs0 hwl2 hn3
  subst hq1
  clear hE h0 hS hws hnl hw1 hk0
  unfold errW at h1
  go_enter Tryd.func39, Tryd.ntmps39
  go_wp2_with fail
  refine (PI.out).mono ?_; rintro e w1 ⟨rfl, hb1⟩
  have B1 := Lib.hid (A2.out.trans (hb1.mono A2.out.size))
  have hx1 := (hb1.block _ (lt_of_block X1.out)).trans X1.out
  have hx2 := (hb1.block _ (lt_of_block X2.out)).trans X2.out
  have HX2 := Lib.hid hx2
  have hs1 : w.heap.size + 2 ≤ w1.heap.size := by have := hb1.size; rw [hsz] at this; exact this
  have x0 : w1.cell? ⟨w.heap.size, 0, none⟩ = some (.slice (some ⟨wb, 0, none⟩) n c) := cell_of hx1 0
  have x1 : w1.cell? ⟨wb, 1, none⟩ = some (.string ⟨([101, 114, 114, 111, 114] : Str).toArray⟩) := ((bcell B1.out).1 wb 1 hwl).trans h1
  have hw01 : wb < w1.heap.size := by omega
  have hlt0 : w.heap.size < w1.heap.size := by omega
  have hlt1 : w.heap.size + 1 < w1.heap.size := by omega
  have d1 : decide ((k : Int) < 0) = false := by simp
  have d2 : decide ((n : Int) < 2) = false := by simp; omega
  have R3 := Lib.hid (block_new w1 (boxR k false (.slice none 0 0) (.slice none 0 0)))
  have B3 := Lib.hid (B1.out.alloc (by omega) (boxR k false (.slice none 0 0) (.slice none 0 0)))
  have HX3 := Lib.hid (block_old HX2.out (boxR k false (.slice none 0 0) (.slice none 0 0)))
  clear PI hb1 hx1 hx2 hsz X1 X2
  have y0 : w1.cell? ⟨w.heap.size + 1, 0, none⟩ = some (.int .i64 0) := cell_of HX2.out 0
  have y1 : w1.cell? ⟨w.heap.size + 1, 1, none⟩ = some (.int .i64 0) := cell_of HX2.out 1
  have y2 : w1.cell? ⟨w.heap.size + 1, 2, none⟩ = some (.bool false) := cell_of HX2.out 2
  have y3 : w1.cell? ⟨w.heap.size + 1, 3, none⟩ = some (.slice none 0 0) := cell_of HX2.out 3
  have y4 : w1.cell? ⟨w.heap.size + 1, 4, none⟩ = some (.slice none 0 0) := cell_of HX2.out 4
  have qf : ∀ i, w1.frozen? ⟨w.heap.size + 1, i, none⟩ = false := fun i => free_of HX2.out i
  have x2 : w1.cell? ⟨wb, o2, none⟩ = some (.string ⟨W2.toArray⟩) := ((bcell B1.out).1 wb o2 hwl).trans hw2
  have PT := Lib.hid (PS.out _ B3.out)
  clear PS
  go_wp2_with fail
  refine (PT.out).mono ?_; rintro e w4 ⟨⟨yy, rfl⟩, hb3⟩
  clear y0 y1 y2 y3 y4 qf
  have hb4 := Lib.hid (B3.out.trans (hb3.mono B3.out.size))
  have hx4 := (hb3.block _ (lt_of_block HX3.out)).trans HX3.out
  have hr4 := (hb3.block _ (lt_of_block R3.out)).trans R3.out
  have y0 : w4.cell? ⟨w.heap.size + 1, 0, none⟩ = some (.int .i64 0) := cell_of hx4 0
  have y1 : w4.cell? ⟨w.heap.size + 1, 1, none⟩ = some (.int .i64 0) := cell_of hx4 1
  have y2 : w4.cell? ⟨w.heap.size + 1, 2, none⟩ = some (.bool false) := cell_of hx4 2
  have y3 : w4.cell? ⟨w.heap.size + 1, 3, none⟩ = some (.slice none 0 0) := cell_of hx4 3
  have y4 : w4.cell? ⟨w.heap.size + 1, 4, none⟩ = some (.slice none 0 0) := cell_of hx4 4
  have qf : ∀ i, w4.frozen? ⟨w.heap.size + 1, i, none⟩ = false := fun i => free_of hx4 i
  have z0 : w4.cell? ⟨w1.heap.size, 0, none⟩ = some (.int .i64 (k : Int)) := cell_of hr4 0
  have z1 : w4.cell? ⟨w1.heap.size, 1, none⟩ = some (.int .i64 0) := cell_of hr4 1
  have z2 : w4.cell? ⟨w1.heap.size, 2, none⟩ = some (.bool false) := cell_of hr4 2
  have z3 : w4.cell? ⟨w1.heap.size, 3, none⟩ = some (.slice none 0 0) := cell_of hr4 3
  have z4 : w4.cell? ⟨w1.heap.size, 4, none⟩ = some (.slice none 0 0) := cell_of hr4 4
  have rf : ∀ i, w4.frozen? ⟨w1.heap.size, i, none⟩ = false := fun i => free_of hr4 i
  have gl4 := lt_of_block hr4
  have HX4 := Lib.hid hx4
  clear hb3 x0 x1 x2 PT hx4 hr4
  go_wp2_with fail
  have h7 := set5 (block_set (p := ⟨w1.heap.size, 1, none⟩) HX4.out (show w.heap.size + 1 ≠ w1.heap.size by omega) (.int .i64 yy)) rfl (.int .i64 (k : Int)) (.int .i64 yy) (.bool false) (.slice none 0 0) (.slice none 0 0)
  have B7 := Lib.hid (below5 (x := w.heap.size + 1) (hb4.out.setCell (p := ⟨w1.heap.size, 1, none⟩) (show w.heap.size ≤ w1.heap.size by omega) (.int .i64 yy)) (by omega) (.int .i64 (k : Int)) (.int .i64 yy) (.bool false) (.slice none 0 0) (.slice none 0 0))
  clear y0 y1 y2 y3 y4 qf z0 z1 z2 z3 z4 rf
  generalize hW6 : (((((w4.setCell ⟨w1.heap.size, 1, none⟩ (.int .i64 yy)).setCell ⟨w.heap.size + 1, 0, none⟩ (.int .i64 (k : Int))).setCell ⟨w.heap.size + 1, 1, none⟩ (.int .i64 yy)).setCell ⟨w.heap.size + 1, 2, none⟩ (.bool false)).setCell ⟨w.heap.size + 1, 3, none⟩ (.slice none 0 0)).setCell ⟨w.heap.size + 1, 4, none⟩ (.slice none 0 0) = W6 at *
  have y0 : W6.cell? ⟨w.heap.size + 1, 0, none⟩ = some (.int .i64 (k : Int)) := cell_of h7 0
  have y1 : W6.cell? ⟨w.heap.size + 1, 1, none⟩ = some (.int .i64 yy) := cell_of h7 1
  have y2 : W6.cell? ⟨w.heap.size + 1, 2, none⟩ = some (.bool false) := cell_of h7 2
  have y3 : W6.cell? ⟨w.heap.size + 1, 3, none⟩ = some (.slice none 0 0) := cell_of h7 3
  have y4 : W6.cell? ⟨w.heap.size + 1, 4, none⟩ = some (.slice none 0 0) := cell_of h7 4
  exact bodyPost_ret (v := .tuple #[.agg #[.int .i64 (k : Int), .int .i64 yy, .bool false, .slice none 0 0, .slice none 0 0], .bool false]) (by clear hW6 h7; simp [results, Tryd.results39, go_sem, y0, y1, y2, y3, y4]) rfl (rds_bad HR.out B7.out)
set_option maxRecDepth 100000 in
set_option maxHeartbeats 8000000 in
theorem pread_e3 {w : World} (hE : Env w) {wb n c k : Nat} {ws : List Str} {W1 : Str} (hS : IsSl 1 encS w (some ⟨wb, 0, none⟩) n c ws) (hn2 : 2 ≤ n) (hn : n ≤ 1000000) (hws : ∀ s ∈ ws, s.length ≤ 1000000)
    (hk : k < 16) (hk0 : kwS k = ws.getD 0 []) (hw1 : ws.getD 1 [] = W1) (R : Option Rp) (hq1 : W1 = errW) (hn3 : n = 3) (v : Int) (hs0 : sgn (ws.getD 2 []) = some v) (hv : ¬ (1 ≤ v ∧ v ≤ 18)) (hR : R = none) :
    Calls Tryd.prog 39 #[.slice (some ⟨wb, 0, none⟩) n c] w (RdS w R) := by
  have hnl := hS.hlen
  have A1 := Lib.hid (Below.alloc (Below.refl w.heap.size w) (Nat.le_refl _) (.cells #[.slice (some ⟨wb, 0, none⟩) n c] 30))
  have A2 := Lib.hid (A1.out.alloc (by simp) (.cells #[.int .i64 0, .int .i64 0, .bool false, .slice none 0 0, .slice none 0 0] 27))
  have X1 := Lib.hid (block_old (block_new w (.cells #[.slice (some ⟨wb, 0, none⟩) n c] 30)) (.cells #[.int .i64 0, .int .i64 0, .bool false, .slice none 0 0, .slice none 0 0] 27))
  have X2 : Hid (((w.alloc (.cells #[.slice (some ⟨wb, 0, none⟩) n c] 30)).alloc (.cells #[.int .i64 0, .int .i64 0, .bool false, .slice none 0 0, .slice none 0 0] 27)).heap[w.heap.size + 1]? = some (.cells #[.int .i64 0, .int .i64 0, .bool false, .slice none 0 0, .slice none 0 0] 27 (0, 0))) := Lib.hid (by
    have := block_new (w.alloc (.cells #[.slice (some ⟨wb, 0, none⟩) n c] 30)) (.cells #[.int .i64 0, .int .i64 0, .bool false, .slice none 0 0, .slice none 0 0] 27)
    rwa [show (w.alloc (.cells #[.slice (some ⟨wb, 0, none⟩) n c] 30)).heap.size = w.heap.size + 1 by simp] at this)
  obtain ⟨_, _, e, h0⟩ := sl_str hS (i := 0) (by omega)
  cases e
  obtain ⟨_, _, e, h1⟩ := sl_str hS (i := 1) (by omega)
  cases e
  rw [Nat.zero_add] at h0 h1
  have PI := Lib.hid (pindex (hE.below A2.out) (by omega) (cell_of X1.out 0) (((bcell A2.out).1 wb 0 (lt_of_cell h0)).trans h0))
  rw [idxW_hit hk hk0] at PI
  have HC1 := Lib.hid h1
  have hwl := lt_of_cell h1
  have hmf : ∀ (fn : Fn) (first cap : Array Value) (w : World), (Instr.makeFunc fn first cap).run Tryd.prog w = .ok (.func fn first cap) w := fun _ _ _ _ => rfl
  have hsz : ((w.alloc (.cells #[.slice (some ⟨wb, 0, none⟩) n c] 30)).alloc (.cells #[.int .i64 0, .int .i64 0, .bool false, .slice none 0 0, .slice none 0 0] 27)).heap.size = w.heap.size + 2 := by simp
  have HE := Lib.hid hE
  have HS := Lib.hid hS
  have hsl2 := run_from Tryd.underlying30 size9 (a := some ⟨wb, 0, none⟩) (len := n) (cap := c) (l := 2) (k := 2) rfl (by omega)
  have HS2 := Lib.hid (hS.tail (l := 2) (by omega))
  obtain ⟨o2, ho2⟩ := part_some (wb := wb) (off := 0) (l := 2) (m := c)
  rw [ho2] at hsl2 HS2
  have hnc := hS.hle
  obtain ⟨m, hm⟩ : ∃ m, m = n - 2 := ⟨_, rfl⟩
  obtain ⟨c2, hc2⟩ : ∃ c2, c2 = c - 2 := ⟨_, rfl⟩
  rw [← hm, ← hc2] at hsl2 HS2
  have HM := Lib.hid hm
  have hm1 : m ≤ 1000000 := by omega
  clear hm hc2
  clear ho2
  have HWS := Lib.hid hws
  have HNL := Lib.hid hS.hlen
  have HW1 := Lib.hid hw1
  rw [hw1] at h1
  have HR := Lib.hid hR
  obtain ⟨_, _, e, hw2⟩ := sl_str HS2.out (i := 0) (by have := HS2.out.hlen; have := HM.out; omega)
  cases e
  have e2 : (ws.drop 2).getD 0 [] = ws.getD 2 [] := by simp
  rw [e2, Nat.add_zero] at hw2
  have hwl2 : (ws.getD 2 []).length ≤ 1000000 := hws _ (by rw [List.getD_eq_getElem?_getD, List.getElem?_eq_getElem (by omega)]; exact List.getElem_mem (by omega))
  obtain rfl : m = 1 := by have := HM.out; omega
  have PS := Lib.hid (fun w' (hb : Below w.heap.size w w') => psigned (hE.below hb) hwl2)
  rw [hs0] at PS
  generalize ws.getD 2 [] = W2 at *
  clear hR e2 hs0 hwl2 hn3
  subst hq1
  clear hE h0 hS hws hnl hw1 hk0
  unfold errW at h1
  go_enter Tryd.func39, Tryd.ntmps39
  go_wp2_with fail
  refine (PI.out).mono ?_; rintro e w1 ⟨rfl, hb1⟩
  have B1 := Lib.hid (A2.out.trans (hb1.mono A2.out.size))
  have hx1 := (hb1.block _ (lt_of_block X1.out)).trans X1.out
  have hx2 := (hb1.block _ (lt_of_block X2.out)).trans X2.out
  have HX2 := Lib.hid hx2
  have hs1 : w.heap.size + 2 ≤ w1.heap.size := by have := hb1.size; rw [hsz] at this; exact this
  have x0 : w1.cell? ⟨w.heap.size, 0, none⟩ = some (.slice (some ⟨wb, 0, none⟩) n c) := cell_of hx1 0
  have x1 : w1.cell? ⟨wb, 1, none⟩ = some (.string ⟨([101, 114, 114, 111, 114] : Str).toArray⟩) := ((bcell B1.out).1 wb 1 hwl).trans h1
  have hw01 : wb < w1.heap.size := by omega
  have hlt0 : w.heap.size < w1.heap.size := by omega
  have hlt1 : w.heap.size + 1 < w1.heap.size := by omega
  have d1 : decide ((k : Int) < 0) = false := by simp
  have d2 : decide ((n : Int) < 2) = false := by simp; omega
  have R3 := Lib.hid (block_new w1 (boxR k false (.slice none 0 0) (.slice none 0 0)))
  have B3 := Lib.hid (B1.out.alloc (by omega) (boxR k false (.slice none 0 0) (.slice none 0 0)))
  have HX3 := Lib.hid (block_old HX2.out (boxR k false (.slice none 0 0) (.slice none 0 0)))
  clear PI hb1 hx1 hx2 hsz X1 X2
  have y0 : w1.cell? ⟨w.heap.size + 1, 0, none⟩ = some (.int .i64 0) := cell_of HX2.out 0
  have y1 : w1.cell? ⟨w.heap.size + 1, 1, none⟩ = some (.int .i64 0) := cell_of HX2.out 1
  have y2 : w1.cell? ⟨w.heap.size + 1, 2, none⟩ = some (.bool false) := cell_of HX2.out 2
  have y3 : w1.cell? ⟨w.heap.size + 1, 3, none⟩ = some (.slice none 0 0) := cell_of HX2.out 3
  have y4 : w1.cell? ⟨w.heap.size + 1, 4, none⟩ = some (.slice none 0 0) := cell_of HX2.out 4
  have qf : ∀ i, w1.frozen? ⟨w.heap.size + 1, i, none⟩ = false := fun i => free_of HX2.out i
  have x2 : w1.cell? ⟨wb, o2, none⟩ = some (.string ⟨W2.toArray⟩) := ((bcell B1.out).1 wb o2 hwl).trans hw2
  have PT := Lib.hid (PS.out _ B3.out)
  clear PS
  have hvb : (decide (1 ≤ v) = false) ∨ (decide (1 ≤ v) = true ∧ decide (v ≤ 18) = false) := by
    by_cases h : 1 ≤ v
    · exact Or.inr ⟨by simpa using h, by simp; omega⟩
    · exact Or.inl (by simpa using h)
  clear hv
  rcases hvb with d3 | ⟨d3, d4⟩
  all_goals
    go_wp2_with fail
    refine (PT.out).mono ?_; rintro e w4 ⟨rfl, hb3⟩
    clear y0 y1 y2 y3 y4 qf
    have hb4 := Lib.hid (B3.out.trans (hb3.mono B3.out.size))
    have hx4 := (hb3.block _ (lt_of_block HX3.out)).trans HX3.out
    have hr4 := (hb3.block _ (lt_of_block R3.out)).trans R3.out
    have y0 : w4.cell? ⟨w.heap.size + 1, 0, none⟩ = some (.int .i64 0) := cell_of hx4 0
    have y1 : w4.cell? ⟨w.heap.size + 1, 1, none⟩ = some (.int .i64 0) := cell_of hx4 1
    have y2 : w4.cell? ⟨w.heap.size + 1, 2, none⟩ = some (.bool false) := cell_of hx4 2
    have y3 : w4.cell? ⟨w.heap.size + 1, 3, none⟩ = some (.slice none 0 0) := cell_of hx4 3
    have y4 : w4.cell? ⟨w.heap.size + 1, 4, none⟩ = some (.slice none 0 0) := cell_of hx4 4
    have qf : ∀ i, w4.frozen? ⟨w.heap.size + 1, i, none⟩ = false := fun i => free_of hx4 i
    have z0 : w4.cell? ⟨w1.heap.size, 0, none⟩ = some (.int .i64 (k : Int)) := cell_of hr4 0
    have z1 : w4.cell? ⟨w1.heap.size, 1, none⟩ = some (.int .i64 0) := cell_of hr4 1
    have z2 : w4.cell? ⟨w1.heap.size, 2, none⟩ = some (.bool false) := cell_of hr4 2
    have z3 : w4.cell? ⟨w1.heap.size, 3, none⟩ = some (.slice none 0 0) := cell_of hr4 3
    have z4 : w4.cell? ⟨w1.heap.size, 4, none⟩ = some (.slice none 0 0) := cell_of hr4 4
    have rf : ∀ i, w4.frozen? ⟨w1.heap.size, i, none⟩ = false := fun i => free_of hr4 i
    have gl4 := lt_of_block hr4
    have HX4 := Lib.hid hx4
    clear hb3 x0 x1 x2 PT hx4 hr4
    go_wp2_with fail
    have h7 := set5 (block_set (p := ⟨w1.heap.size, 1, none⟩) HX4.out (show w.heap.size + 1 ≠ w1.heap.size by omega) (.int .i64 v)) rfl (.int .i64 (k : Int)) (.int .i64 v) (.bool false) (.slice none 0 0) (.slice none 0 0)
    have B7 := Lib.hid (below5 (x := w.heap.size + 1) (hb4.out.setCell (p := ⟨w1.heap.size, 1, none⟩) (show w.heap.size ≤ w1.heap.size by omega) (.int .i64 v)) (by omega) (.int .i64 (k : Int)) (.int .i64 v) (.bool false) (.slice none 0 0) (.slice none 0 0))
    clear y0 y1 y2 y3 y4 qf z0 z1 z2 z3 z4 rf
    generalize hW6 : (((((w4.setCell ⟨w1.heap.size, 1, none⟩ (.int .i64 v)).setCell ⟨w.heap.size + 1, 0, none⟩ (.int .i64 (k : Int))).setCell ⟨w.heap.size + 1, 1, none⟩ (.int .i64 v)).setCell ⟨w.heap.size + 1, 2, none⟩ (.bool false)).setCell ⟨w.heap.size + 1, 3, none⟩ (.slice none 0 0)).setCell ⟨w.heap.size + 1, 4, none⟩ (.slice none 0 0) = W6 at *
    have y0 : W6.cell? ⟨w.heap.size + 1, 0, none⟩ = some (.int .i64 (k : Int)) := cell_of h7 0
    have y1 : W6.cell? ⟨w.heap.size + 1, 1, none⟩ = some (.int .i64 v) := cell_of h7 1
    have y2 : W6.cell? ⟨w.heap.size + 1, 2, none⟩ = some (.bool false) := cell_of h7 2
    have y3 : W6.cell? ⟨w.heap.size + 1, 3, none⟩ = some (.slice none 0 0) := cell_of h7 3
    have y4 : W6.cell? ⟨w.heap.size + 1, 4, none⟩ = some (.slice none 0 0) := cell_of h7 4
    exact bodyPost_ret (v := .tuple #[.agg #[.int .i64 (k : Int), .int .i64 v, .bool false, .slice none 0 0, .slice none 0 0], .bool false]) (by clear hW6 h7; simp [results, Tryd.results39, go_sem, y0, y1, y2, y3, y4]) rfl (rds_bad HR.out B7.out)
set_option maxRecDepth 100000 in
set_option maxHeartbeats 8000000 in
theorem pread_e4 {w : World} (hE : Env w) {wb n c k : Nat} {ws : List Str} {W1 : Str} (hS : IsSl 1 encS w (some ⟨wb, 0, none⟩) n c ws) (hn2 : 2 ≤ n) (hn : n ≤ 1000000) (hws : ∀ s ∈ ws, s.length ≤ 1000000)
    (hk : k < 16) (hk0 : kwS k = ws.getD 0 []) (hw1 : ws.getD 1 [] = W1) (R : Option Rp) (hq1 : W1 = errW) (hn3 : n = 3) (v : Int) (hs0 : sgn (ws.getD 2 []) = some v) (hv : 1 ≤ v ∧ v ≤ 18) (hR : R = some ⟨k, v, false, [], []⟩) :
    Calls Tryd.prog 39 #[.slice (some ⟨wb, 0, none⟩) n c] w (RdS w R) := by
  have hnl := hS.hlen
  have A1 := Lib.hid (Below.alloc (Below.refl w.heap.size w) (Nat.le_refl _) (.cells #[.slice (some ⟨wb, 0, none⟩) n c] 30))
  have A2 := Lib.hid (A1.out.alloc (by simp) (.cells #[.int .i64 0, .int .i64 0, .bool false, .slice none 0 0, .slice none 0 0] 27))
  have X1 := Lib.hid (block_old (block_new w (.cells #[.slice (some ⟨wb, 0, none⟩) n c] 30)) (.cells #[.int .i64 0, .int .i64 0, .bool false, .slice none 0 0, .slice none 0 0] 27))
  have X2 : Hid (((w.alloc (.cells #[.slice (some ⟨wb, 0, none⟩) n c] 30)).alloc (.cells #[.int .i64 0, .int .i64 0, .bool false, .slice none 0 0, .slice none 0 0] 27)).heap[w.heap.size + 1]? = some (.cells #[.int .i64 0, .int .i64 0, .bool false, .slice none 0 0, .slice none 0 0] 27 (0, 0))) := Lib.hid (by
    have := block_new (w.alloc (.cells #[.slice (some ⟨wb, 0, none⟩) n c] 30)) (.cells #[.int .i64 0, .int .i64 0, .bool false, .slice none 0 0, .slice none 0 0] 27)
    rwa [show (w.alloc (.cells #[.slice (some ⟨wb, 0, none⟩) n c] 30)).heap.size = w.heap.size + 1 by simp] at this)
  obtain ⟨_, _, e, h0⟩ := sl_str hS (i := 0) (by omega)
  cases e
  obtain ⟨_, _, e, h1⟩ := sl_str hS (i := 1) (by omega)
  cases e
  rw [Nat.zero_add] at h0 h1
  have PI := Lib.hid (pindex (hE.below A2.out) (by omega) (cell_of X1.out 0) (((bcell A2.out).1 wb 0 (lt_of_cell h0)).trans h0))
  rw [idxW_hit hk hk0] at PI
  have HC1 := Lib.hid h1
  have hwl := lt_of_cell h1
  have hmf : ∀ (fn : Fn) (first cap : Array Value) (w : World), (Instr.makeFunc fn first cap).run Tryd.prog w = .ok (.func fn first cap) w := fun _ _ _ _ => rfl
  have hsz : ((w.alloc (.cells #[.slice (some ⟨wb, 0, none⟩) n c] 30)).alloc (.cells #[.int .i64 0, .int .i64 0, .bool false, .slice none 0 0, .slice none 0 0] 27)).heap.size = w.heap.size + 2 := by simp
  have HE := Lib.hid hE
  have HS := Lib.hid hS
  have hsl2 := run_from Tryd.underlying30 size9 (a := some ⟨wb, 0, none⟩) (len := n) (cap := c) (l := 2) (k := 2) rfl (by omega)
  have HS2 := Lib.hid (hS.tail (l := 2) (by omega))
  obtain ⟨o2, ho2⟩ := part_some (wb := wb) (off := 0) (l := 2) (m := c)
  rw [ho2] at hsl2 HS2
  have hnc := hS.hle
  obtain ⟨m, hm⟩ : ∃ m, m = n - 2 := ⟨_, rfl⟩
  obtain ⟨c2, hc2⟩ : ∃ c2, c2 = c - 2 := ⟨_, rfl⟩
  rw [← hm, ← hc2] at hsl2 HS2
  have HM := Lib.hid hm
  have hm1 : m ≤ 1000000 := by omega
  clear hm hc2
  clear ho2
  have HWS := Lib.hid hws
  have HNL := Lib.hid hS.hlen
  have HW1 := Lib.hid hw1
  rw [hw1] at h1
  have HR := Lib.hid hR
  obtain ⟨_, _, e, hw2⟩ := sl_str HS2.out (i := 0) (by have := HS2.out.hlen; have := HM.out; omega)
  cases e
  have e2 : (ws.drop 2).getD 0 [] = ws.getD 2 [] := by simp
  rw [e2, Nat.add_zero] at hw2
  have hwl2 : (ws.getD 2 []).length ≤ 1000000 := hws _ (by rw [List.getD_eq_getElem?_getD, List.getElem?_eq_getElem (by omega)]; exact List.getElem_mem (by omega))
  obtain rfl : m = 1 := by have := HM.out; omega
  have PS := Lib.hid (fun w' (hb : Below w.heap.size w w') => psigned (hE.below hb) hwl2)
  rw [hs0] at PS
  generalize ws.getD 2 [] = W2 at *
  clear hR e2 hs0 hwl2 hn3
  subst hq1
  clear hE h0 hS hws hnl hw1 hk0
  unfold errW at h1
  go_enter Tryd.func39, Tryd.ntmps39
  go_wp2_with fail
  refine (PI.out).mono ?_; rintro e w1 ⟨rfl, hb1⟩
  have B1 := Lib.hid (A2.out.trans (hb1.mono A2.out.size))
  have hx1 := (hb1.block _ (lt_of_block X1.out)).trans X1.out
  have hx2 := (hb1.block _ (lt_of_block X2.out)).trans X2.out
  have HX2 := Lib.hid hx2
  have hs1 : w.heap.size + 2 ≤ w1.heap.size := by have := hb1.size; rw [hsz] at this; exact this
  have x0 : w1.cell? ⟨w.heap.size, 0, none⟩ = some (.slice (some ⟨wb, 0, none⟩) n c) := cell_of hx1 0
  have x1 : w1.cell? ⟨wb, 1, none⟩ = some (.string ⟨([101, 114, 114, 111, 114] : Str).toArray⟩) := ((bcell B1.out).1 wb 1 hwl).trans h1
  have hw01 : wb < w1.heap.size := by omega
  have hlt0 : w.heap.size < w1.heap.size := by omega
  have hlt1 : w.heap.size + 1 < w1.heap.size := by omega
  have d1 : decide ((k : Int) < 0) = false := by simp
  have d2 : decide ((n : Int) < 2) = false := by simp; omega
  have R3 := Lib.hid (block_new w1 (boxR k false (.slice none 0 0) (.slice none 0 0)))
  have B3 := Lib.hid (B1.out.alloc (by omega) (boxR k false (.slice none 0 0) (.slice none 0 0)))
  have HX3 := Lib.hid (block_old HX2.out (boxR k false (.slice none 0 0) (.slice none 0 0)))
  clear PI hb1 hx1 hx2 hsz X1 X2
  have y0 : w1.cell? ⟨w.heap.size + 1, 0, none⟩ = some (.int .i64 0) := cell_of HX2.out 0
  have y1 : w1.cell? ⟨w.heap.size + 1, 1, none⟩ = some (.int .i64 0) := cell_of HX2.out 1
  have y2 : w1.cell? ⟨w.heap.size + 1, 2, none⟩ = some (.bool false) := cell_of HX2.out 2
  have y3 : w1.cell? ⟨w.heap.size + 1, 3, none⟩ = some (.slice none 0 0) := cell_of HX2.out 3
  have y4 : w1.cell? ⟨w.heap.size + 1, 4, none⟩ = some (.slice none 0 0) := cell_of HX2.out 4
  have qf : ∀ i, w1.frozen? ⟨w.heap.size + 1, i, none⟩ = false := fun i => free_of HX2.out i
  have x2 : w1.cell? ⟨wb, o2, none⟩ = some (.string ⟨W2.toArray⟩) := ((bcell B1.out).1 wb o2 hwl).trans hw2
  have PT := Lib.hid (PS.out _ B3.out)
  clear PS
  have d3 : decide (1 ≤ v) = true := by simpa using hv.1
  have d4 : decide (v ≤ 18) = true := by simpa using hv.2
  clear hv
  go_wp2_with fail
  refine (PT.out).mono ?_; rintro e w4 ⟨rfl, hb3⟩
  clear y0 y1 y2 y3 y4 qf
  have hb4 := Lib.hid (B3.out.trans (hb3.mono B3.out.size))
  have hx4 := (hb3.block _ (lt_of_block HX3.out)).trans HX3.out
  have hr4 := (hb3.block _ (lt_of_block R3.out)).trans R3.out
  have y0 : w4.cell? ⟨w.heap.size + 1, 0, none⟩ = some (.int .i64 0) := cell_of hx4 0
  have y1 : w4.cell? ⟨w.heap.size + 1, 1, none⟩ = some (.int .i64 0) := cell_of hx4 1
  have y2 : w4.cell? ⟨w.heap.size + 1, 2, none⟩ = some (.bool false) := cell_of hx4 2
  have y3 : w4.cell? ⟨w.heap.size + 1, 3, none⟩ = some (.slice none 0 0) := cell_of hx4 3
  have y4 : w4.cell? ⟨w.heap.size + 1, 4, none⟩ = some (.slice none 0 0) := cell_of hx4 4
  have qf : ∀ i, w4.frozen? ⟨w.heap.size + 1, i, none⟩ = false := fun i => free_of hx4 i
  have z0 : w4.cell? ⟨w1.heap.size, 0, none⟩ = some (.int .i64 (k : Int)) := cell_of hr4 0
  have z1 : w4.cell? ⟨w1.heap.size, 1, none⟩ = some (.int .i64 0) := cell_of hr4 1
  have z2 : w4.cell? ⟨w1.heap.size, 2, none⟩ = some (.bool false) := cell_of hr4 2
  have z3 : w4.cell? ⟨w1.heap.size, 3, none⟩ = some (.slice none 0 0) := cell_of hr4 3
  have z4 : w4.cell? ⟨w1.heap.size, 4, none⟩ = some (.slice none 0 0) := cell_of hr4 4
  have rf : ∀ i, w4.frozen? ⟨w1.heap.size, i, none⟩ = false := fun i => free_of hr4 i
  have gl4 := lt_of_block hr4
  have HX4 := Lib.hid hx4
  clear hb3 x0 x1 x2 PT hx4 hr4
  go_wp2_with fail
  have h7 := set5 (block_set (p := ⟨w1.heap.size, 1, none⟩) HX4.out (show w.heap.size + 1 ≠ w1.heap.size by omega) (.int .i64 v)) rfl (.int .i64 (k : Int)) (.int .i64 v) (.bool false) (.slice none 0 0) (.slice none 0 0)
  have B7 := Lib.hid (below5 (x := w.heap.size + 1) (hb4.out.setCell (p := ⟨w1.heap.size, 1, none⟩) (show w.heap.size ≤ w1.heap.size by omega) (.int .i64 v)) (by omega) (.int .i64 (k : Int)) (.int .i64 v) (.bool false) (.slice none 0 0) (.slice none 0 0))
  clear y0 y1 y2 y3 y4 qf z0 z1 z2 z3 z4 rf
  generalize hW6 : (((((w4.setCell ⟨w1.heap.size, 1, none⟩ (.int .i64 v)).setCell ⟨w.heap.size + 1, 0, none⟩ (.int .i64 (k : Int))).setCell ⟨w.heap.size + 1, 1, none⟩ (.int .i64 v)).setCell ⟨w.heap.size + 1, 2, none⟩ (.bool false)).setCell ⟨w.heap.size + 1, 3, none⟩ (.slice none 0 0)).setCell ⟨w.heap.size + 1, 4, none⟩ (.slice none 0 0) = W6 at *
  have y0 : W6.cell? ⟨w.heap.size + 1, 0, none⟩ = some (.int .i64 (k : Int)) := cell_of h7 0
  have y1 : W6.cell? ⟨w.heap.size + 1, 1, none⟩ = some (.int .i64 v) := cell_of h7 1
  have y2 : W6.cell? ⟨w.heap.size + 1, 2, none⟩ = some (.bool false) := cell_of h7 2
  have y3 : W6.cell? ⟨w.heap.size + 1, 3, none⟩ = some (.slice none 0 0) := cell_of h7 3
  have y4 : W6.cell? ⟨w.heap.size + 1, 4, none⟩ = some (.slice none 0 0) := cell_of h7 4
  exact bodyPost_ret (v := .tuple #[.agg #[.int .i64 (k : Int), .int .i64 v, .bool false, .slice none 0 0, .slice none 0 0], .bool true]) (by clear hW6 h7; simp [results, Tryd.results39, go_sem, y0, y1, y2, y3, y4]) rfl (rds_err HR.out B7.out)
end Go.Proofs.YtlmdkcpiimpniaaDoor

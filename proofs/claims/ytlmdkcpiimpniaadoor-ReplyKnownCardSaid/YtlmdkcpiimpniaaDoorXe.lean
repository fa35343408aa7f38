/- Get of the document. -/
import Derived.Test.YtlmdkcpiimpniaaDoorXd
import Derived.Test.YtlmdkcpiimpniaaDoorRg
namespace Go.Proofs.YtlmdkcpiimpniaaDoor
open Go.ChangeShapes Go.WideShapes Go.ChangeAt Go.RowKit
set_option linter.unusedVariables false
set_option linter.unusedSimpArgs false

theorem rl_none {w : World} {a : Option Addr} {n c : Nat} {b : List Nat} (h : IsK .u8 w a n c (ns b)) (hb : By b) (hn : n ≤ 1000000000) {p : Nat} (hp : p ≤ n) (hR : lst (b.drop p) = none) :
    Calls Tryd.prog 58 #[.slice a n c, .int .i64 (p : Int)] w fun e w' => e = .returned (.tuple #[.slice none 0 0, .int .i64 (-1)]) ∧ Below w.heap.size w w' :=
  (rlist h hb hn hp).mono (fun e w' k => And.intro (k.2.1 hR) k.1)
theorem rl_some {w : World} {a : Option Addr} {n c : Nat} {b : List Nat} (h : IsK .u8 w a n c (ns b)) (hb : By b) (hn : n ≤ 1000000000) {p : Nat} (hp : p ≤ n) {l : List Nat} {m k q : Nat} (hR : lst (b.drop p) = some (l, m)) (hk : l.length = k) (hq : q = p + m) :
    Calls Tryd.prog 58 #[.slice a n c, .int .i64 (p : Int)] w fun e w' => ∃ x y, e = .returned (.tuple #[.slice x k y, .int .i64 (q : Int)]) ∧ OutR 1 (encK .u64) 28 w' w.heap.size (.slice x k y) (ns l) ∧ Below w.heap.size w w' :=
  (rlist h hb hn hp).mono (fun e w' r => by
    obtain ⟨x, y, he, ho⟩ := r.2.2 l m hR
    subst hk hq
    refine ⟨x, y, ?_, ho, r.1⟩
    rw [he, show ((p + m : Nat) : Int) = (p : Int) + (m : Int) by omega])
theorem ges_fin2 {w w' : World} {R : Option (Rp × Nat)} {u0 u1 q : Nat} {yy : Bool} {l1 : List Nat} {l2 : List Int} {n1 n2 : Nat} (h : R = some (⟨u0, u1, yy, l1, l2⟩, q)) (e1 : l1.length = n1) (e2 : l2.length = n2) {a3 : Option Addr} {c3 : Nat} {a4 : Option Addr} {c4 : Nat} {B B' : Nat} (h3 : OutR 1 (encK .u64) 28 w' B (.slice a3 n1 c3) (ns l1)) (h4 : OutR 1 (encK .i64) 2 w' B' (.slice a4 n2 c4) l2) (hb : Below w.heap.size w w') (hB : w.heap.size ≤ B) (hB' : w.heap.size ≤ B') :
    GeS w R (.returned (.tuple #[.agg #[.int .i64 (u0 : Int), .int .i64 (u1 : Int), .bool yy, .slice a3 n1 c3, .slice a4 n2 c4], .int .i64 (q : Int), .int .i64 0])) w' := by
  subst e1 e2
  exact ges_ok (r := ⟨u0, u1, yy, l1, l2⟩) h h3 h4 hb hB hB'
/-- The reply's box, in the loop over the second list. -/
structure RgB (wS : World) (b u0 u1 : Nat) (yy : Bool) (v3 v4 : Value) (nums : List Int) (wr : World) : Prop where
  box : wr.heap[b]? = some (.cells #[.int .i64 (u0 : Int), .int .i64 (u1 : Int), .bool yy, v3, v4] 27 (0, 0))
  o4 : OutR 1 (encK .i64) 2 wr wS.heap.size v4 nums
  touch : Touch (fun j => j = b) wS wr
theorem RgB.step {wS wr w' : World} {b u0 u1 : Nat} {yy : Bool} {v3 v4 v4' : Value} {nums : List Int} {x : Int} (h : RgB wS b u0 u1 yy v3 v4 nums wr) (hb : b < wS.heap.size)
    (h1 : OutR 1 (encK .i64) 2 w' wS.heap.size v4' (nums ++ [x])) (h2 : Touch (fun j => v4.ownBlock = some j) wr w') :
    RgB wS b u0 u1 yy v3 v4' (nums ++ [x]) (w'.setCell ⟨b, 4, none⟩ v4') := by
  have hbox := h2.keep h.box (fun e => by have := h.o4.blk b e; omega)
  refine ⟨set_of hbox 4 v4', out_set h1 hb 4 _, ?_⟩
  exact (h.touch.trans' h2 (fun i hi e => absurd (h.o4.blk i e) (by omega))).setCell (fun _ => rfl) _
def RgRel (wS : World) (b u0 u1 : Nat) (yy : Bool) (v3 : Value) (n : Nat) (l : List Nat) (v9 : Value) (wr : World) : Prop :=
  ∃ i v4, i ≤ n ∧ v9 = .int .i64 ((i : Nat) : Int) ∧ RgB wS b u0 u1 yy v3 v4 ((l.take i).map unf) wr
theorem map_take {l : List Nat} {i x : Nat} (h : i < l.length) (hx : l.getD i 0 = x) : (l.take (i + 1)).map unf = (l.take i).map unf ++ [unf x] := by
  rw [List.take_succ_eq_append_getElem h, List.map_append]
  simp [h] at hx
  simp [hx]
theorem unf_odd {x : Nat} (h : x % 2 = 1) : unf x = -((x / 2 : Nat) : Int) - 1 := by unfold unf; rw [if_pos h]
theorem unf_even {x : Nat} (h : ¬ x % 2 = 1) : unf x = ((x / 2 : Nat) : Int) := by unfold unf; rw [if_neg h]
set_option maxRecDepth 100000 in
set_option maxHeartbeats 8000000 in
theorem rget_short {w : World} {a : Option Addr} {n c : Nat} {b : List Nat} (h : IsK .u8 w a n c (ns b)) (hb : By b) (hn : n ≤ 1000000000) (hs : n < 3) :
    Calls Tryd.prog 27 #[.slice a n c] w (GeS w (getR b)) := by
  have A1 := Lib.hid (Below.alloc (Below.refl w.heap.size w) (Nat.le_refl _) (.cells #[.int .i64 0, .int .i64 0, .bool false, .slice none 0 0, .slice none 0 0] 27))
  have X1 := Lib.hid (block_new w (.cells #[.int .i64 0, .int .i64 0, .bool false, .slice none 0 0, .slice none 0 0] 27))
  have HNB := Lib.hid h.u8
  have HR := Lib.hid (get_short (b := b) (by rw [← HNB.out]; exact hs))
  generalize getR b = R at *
  have d1 : decide ((n : Int) < 3) = true := by simp; omega
  clear h hb
  have y0 : (w.alloc (.cells #[.int .i64 0, .int .i64 0, .bool false, .slice none 0 0, .slice none 0 0] 27)).cell? ⟨w.heap.size, 0, none⟩ = some (.int .i64 0) := cell_of X1.out 0
  have y1 : (w.alloc (.cells #[.int .i64 0, .int .i64 0, .bool false, .slice none 0 0, .slice none 0 0] 27)).cell? ⟨w.heap.size, 1, none⟩ = some (.int .i64 0) := cell_of X1.out 1
  have y2 : (w.alloc (.cells #[.int .i64 0, .int .i64 0, .bool false, .slice none 0 0, .slice none 0 0] 27)).cell? ⟨w.heap.size, 2, none⟩ = some (.bool false) := cell_of X1.out 2
  have y3 : (w.alloc (.cells #[.int .i64 0, .int .i64 0, .bool false, .slice none 0 0, .slice none 0 0] 27)).cell? ⟨w.heap.size, 3, none⟩ = some (.slice none 0 0) := cell_of X1.out 3
  have y4 : (w.alloc (.cells #[.int .i64 0, .int .i64 0, .bool false, .slice none 0 0, .slice none 0 0] 27)).cell? ⟨w.heap.size, 4, none⟩ = some (.slice none 0 0) := cell_of X1.out 4
  have qf : ∀ i, (w.alloc (.cells #[.int .i64 0, .int .i64 0, .bool false, .slice none 0 0, .slice none 0 0] 27)).frozen? ⟨w.heap.size, i, none⟩ = false := fun i => free_of X1.out i
  go_enter Tryd.func27, Tryd.ntmps27
  go_wp2_with fail
  have h7 := X1.out
  have B7 := Lib.hid A1.out
  clear y0 y1 y2 y3 y4 qf
  generalize hW6 : w.alloc (.cells #[.int .i64 0, .int .i64 0, .bool false, .slice none 0 0, .slice none 0 0] 27) = W6 at *
  have y0 : W6.cell? ⟨w.heap.size, 0, none⟩ = some (.int .i64 0) := cell_of h7 0
  have y1 : W6.cell? ⟨w.heap.size, 1, none⟩ = some (.int .i64 0) := cell_of h7 1
  have y2 : W6.cell? ⟨w.heap.size, 2, none⟩ = some (.bool false) := cell_of h7 2
  have y3 : W6.cell? ⟨w.heap.size, 3, none⟩ = some (.slice none 0 0) := cell_of h7 3
  have y4 : W6.cell? ⟨w.heap.size, 4, none⟩ = some (.slice none 0 0) := cell_of h7 4
  exact bodyPost_ret (v := .tuple #[.agg #[.int .i64 0, .int .i64 0, .bool false, .slice none 0 0, .slice none 0 0], .int .i64 0, .int .i64 15]) (by clear hW6 h7; simp [results, Tryd.results27, go_sem, y0, y1, y2, y3, y4]) rfl (ges_bad HR.out B7.out)
set_option maxRecDepth 100000 in
set_option maxHeartbeats 8000000 in
theorem rget_y {w : World} {a : Option Addr} {n c : Nat} {b : List Nat} (h : IsK .u8 w a n c (ns b)) (hb : By b) (hn : n ≤ 1000000000) (hs : 3 ≤ n) (hy : 1 < b.getD 2 0) :
    Calls Tryd.prog 27 #[.slice a n c] w (GeS w (getR b)) := by
  have A1 := Lib.hid (Below.alloc (Below.refl w.heap.size w) (Nat.le_refl _) (.cells #[.int .i64 0, .int .i64 0, .bool false, .slice none 0 0, .slice none 0 0] 27))
  have X1 := Lib.hid (block_new w (.cells #[.int .i64 0, .int .i64 0, .bool false, .slice none 0 0, .slice none 0 0] 27))
  have HNB := Lib.hid h.u8
  have hb3 : 3 ≤ b.length := by rw [← HNB.out]; exact hs
  obtain ⟨g, off, rfl, c0⟩ := u8_at h (i := 0) (by omega)
  obtain ⟨_, _, e, c1⟩ := u8_at h (i := 1) (by omega)
  cases e
  obtain ⟨_, _, e, c2⟩ := u8_at h (i := 2) (by omega)
  cases e
  rw [Nat.add_zero] at c0
  have hgl := lt_of_cell c0
  have hu0 : b.getD 0 0 < 256 := hb _ (by rw [List.getD_eq_getElem?_getD, List.getElem?_eq_getElem (by omega)]; exact List.getElem_mem (by omega))
  have hu1 : b.getD 1 0 < 256 := hb _ (by rw [List.getD_eq_getElem?_getD, List.getElem?_eq_getElem (by omega)]; exact List.getElem_mem (by omega))
  have HQ := Lib.hid (get_eq hb3)
  have d1 : decide ((n : Int) < 3) = false := by simp; omega
  have HR := Lib.hid (HQ.out.trans (if_pos hy))
  have d2 : decide (1 < ((b.getD 2 0 : Nat) : Int)) = true := decide_eq_true (by omega)
  have d3 : decide (1 < b.getD 2 0) = true := decide_eq_true hy
  generalize getR b = R at *
  generalize b.getD 2 0 = u2 at *
  generalize b.getD 1 0 = u1 at *
  generalize b.getD 0 0 = u0 at *
  clear h hb HQ hb3
  have y0 : (w.alloc (.cells #[.int .i64 0, .int .i64 0, .bool false, .slice none 0 0, .slice none 0 0] 27)).cell? ⟨w.heap.size, 0, none⟩ = some (.int .i64 0) := cell_of X1.out 0
  have y1 : (w.alloc (.cells #[.int .i64 0, .int .i64 0, .bool false, .slice none 0 0, .slice none 0 0] 27)).cell? ⟨w.heap.size, 1, none⟩ = some (.int .i64 0) := cell_of X1.out 1
  have y2 : (w.alloc (.cells #[.int .i64 0, .int .i64 0, .bool false, .slice none 0 0, .slice none 0 0] 27)).cell? ⟨w.heap.size, 2, none⟩ = some (.bool false) := cell_of X1.out 2
  have y3 : (w.alloc (.cells #[.int .i64 0, .int .i64 0, .bool false, .slice none 0 0, .slice none 0 0] 27)).cell? ⟨w.heap.size, 3, none⟩ = some (.slice none 0 0) := cell_of X1.out 3
  have y4 : (w.alloc (.cells #[.int .i64 0, .int .i64 0, .bool false, .slice none 0 0, .slice none 0 0] 27)).cell? ⟨w.heap.size, 4, none⟩ = some (.slice none 0 0) := cell_of X1.out 4
  have qf : ∀ i, (w.alloc (.cells #[.int .i64 0, .int .i64 0, .bool false, .slice none 0 0, .slice none 0 0] 27)).frozen? ⟨w.heap.size, i, none⟩ = false := fun i => free_of X1.out i
  go_enter Tryd.func27, Tryd.ntmps27
  go_wp2_with fail
  have h7 := X1.out
  have B7 := Lib.hid A1.out
  clear y0 y1 y2 y3 y4 qf
  generalize hW6 : w.alloc (.cells #[.int .i64 0, .int .i64 0, .bool false, .slice none 0 0, .slice none 0 0] 27) = W6 at *
  have y0 : W6.cell? ⟨w.heap.size, 0, none⟩ = some (.int .i64 0) := cell_of h7 0
  have y1 : W6.cell? ⟨w.heap.size, 1, none⟩ = some (.int .i64 0) := cell_of h7 1
  have y2 : W6.cell? ⟨w.heap.size, 2, none⟩ = some (.bool false) := cell_of h7 2
  have y3 : W6.cell? ⟨w.heap.size, 3, none⟩ = some (.slice none 0 0) := cell_of h7 3
  have y4 : W6.cell? ⟨w.heap.size, 4, none⟩ = some (.slice none 0 0) := cell_of h7 4
  exact bodyPost_ret (v := .tuple #[.agg #[.int .i64 0, .int .i64 0, .bool false, .slice none 0 0, .slice none 0 0], .int .i64 0, .int .i64 15]) (by clear hW6 h7; simp [results, Tryd.results27, go_sem, y0, y1, y2, y3, y4]) rfl (ges_bad HR.out B7.out)
set_option maxRecDepth 100000 in
set_option maxHeartbeats 8000000 in
theorem rget_c {w : World} {a : Option Addr} {n c : Nat} {b : List Nat} (h : IsK .u8 w a n c (ns b)) (hb : By b) (hn : n ≤ 1000000000) (hs : 3 ≤ n) (hy : ¬ 1 < b.getD 2 0) (hc : lst (b.drop 3) = none) :
    Calls Tryd.prog 27 #[.slice a n c] w (GeS w (getR b)) := by
  have A1 := Lib.hid (Below.alloc (Below.refl w.heap.size w) (Nat.le_refl _) (.cells #[.int .i64 0, .int .i64 0, .bool false, .slice none 0 0, .slice none 0 0] 27))
  have X1 := Lib.hid (block_new w (.cells #[.int .i64 0, .int .i64 0, .bool false, .slice none 0 0, .slice none 0 0] 27))
  have HNB := Lib.hid h.u8
  have hb3 : 3 ≤ b.length := by rw [← HNB.out]; exact hs
  obtain ⟨g, off, rfl, c0⟩ := u8_at h (i := 0) (by omega)
  obtain ⟨_, _, e, c1⟩ := u8_at h (i := 1) (by omega)
  cases e
  obtain ⟨_, _, e, c2⟩ := u8_at h (i := 2) (by omega)
  cases e
  rw [Nat.add_zero] at c0
  have hgl := lt_of_cell c0
  have hu0 : b.getD 0 0 < 256 := hb _ (by rw [List.getD_eq_getElem?_getD, List.getElem?_eq_getElem (by omega)]; exact List.getElem_mem (by omega))
  have hu1 : b.getD 1 0 < 256 := hb _ (by rw [List.getD_eq_getElem?_getD, List.getElem?_eq_getElem (by omega)]; exact List.getElem_mem (by omega))
  have HQ := Lib.hid (get_eq hb3)
  have d1 : decide ((n : Int) < 3) = false := by simp; omega
  have d2 : decide (1 < ((b.getD 2 0 : Nat) : Int)) = false := decide_eq_false (by omega)
  have d3 : decide (1 < b.getD 2 0) = false := decide_eq_false hy
  have hyc : b.getD 2 0 = 0 ∨ b.getD 2 0 = 1 := by omega
  have HQ2 := Lib.hid (HQ.out.trans (if_neg hy))
  clear HQ
  obtain ⟨yy, hyy⟩ : ∃ yy, yy = (b.getD 2 0 == 1) := ⟨_, rfl⟩
  rw [← hyy] at HQ2
  have e1 : (((b.getD 2 0 : Nat) : Int) == 1) = yy := by rw [hyy]; rcases hyc with e | e <;> rw [e] <;> rfl
  have HB := Lib.hid hb; have HH := Lib.hid h
  have hnc := h.hle
  generalize b.getD 2 0 = u2 at *
  generalize b.getD 1 0 = u1 at *
  generalize b.getD 0 0 = u0 at *
  clear hyc hyy
  have GU : Hid (∀ W, Below w.heap.size w W → Calls Tryd.prog 58 #[.slice (some ⟨g, off, none⟩) n c, .int .i64 3] W fun e w' => e = .returned (.tuple #[.slice none 0 0, .int .i64 (-1)]) ∧ Below W.heap.size W w') := Lib.hid (fun W hbl => rl_none (HH.out.below hbl) hb hn (p := 3) hs hc)
  have HR : Hid (getR b = none) := Lib.hid (by rw [HQ2.out, hc]; rfl)
  generalize getR b = R at *
  clear h hb HQ2 hb3 hc
  have A2 : Hid (Below w.heap.size w (((w.alloc (.cells #[.int .i64 0, .int .i64 0, .bool false, .slice none 0 0, .slice none 0 0] 27)).alloc (.cells #[.int .i64 (u0 : Int), .int .i64 (u1 : Int), .bool yy, .slice none 0 0, .slice none 0 0] 27)).drew)) := Lib.hid ((A1.out.alloc (by simp) _).drew)
  have X2 : Hid ((((w.alloc (.cells #[.int .i64 0, .int .i64 0, .bool false, .slice none 0 0, .slice none 0 0] 27)).alloc (.cells #[.int .i64 (u0 : Int), .int .i64 (u1 : Int), .bool yy, .slice none 0 0, .slice none 0 0] 27)).drew).heap[w.heap.size]? = some (.cells #[.int .i64 0, .int .i64 0, .bool false, .slice none 0 0, .slice none 0 0] 27 (0, 0))) := Lib.hid (block_drew (block_old X1.out _))
  have R2 : Hid ((((w.alloc (.cells #[.int .i64 0, .int .i64 0, .bool false, .slice none 0 0, .slice none 0 0] 27)).alloc (.cells #[.int .i64 (u0 : Int), .int .i64 (u1 : Int), .bool yy, .slice none 0 0, .slice none 0 0] 27)).drew).heap[w.heap.size + 1]? = some (.cells #[.int .i64 (u0 : Int), .int .i64 (u1 : Int), .bool yy, .slice none 0 0, .slice none 0 0] 27 (0, 0))) := Lib.hid (by
    have := block_new (w.alloc (.cells #[.int .i64 0, .int .i64 0, .bool false, .slice none 0 0, .slice none 0 0] 27)) (.cells #[.int .i64 (u0 : Int), .int .i64 (u1 : Int), .bool yy, .slice none 0 0, .slice none 0 0] 27)
    rw [show (w.alloc (.cells #[.int .i64 0, .int .i64 0, .bool false, .slice none 0 0, .slice none 0 0] 27)).heap.size = w.heap.size + 1 by simp] at this
    exact block_drew this)
  have h2 : (((w.alloc (.cells #[.int .i64 0, .int .i64 0, .bool false, .slice none 0 0, .slice none 0 0] 27)).alloc (.cells #[.int .i64 (u0 : Int), .int .i64 (u1 : Int), .bool yy, .slice none 0 0, .slice none 0 0] 27)).drew).heap.size = w.heap.size + 2 := by simp
  have Q1 := Lib.hid (GU.out (((w.alloc (.cells #[.int .i64 0, .int .i64 0, .bool false, .slice none 0 0, .slice none 0 0] 27)).alloc (.cells #[.int .i64 (u0 : Int), .int .i64 (u1 : Int), .bool yy, .slice none 0 0, .slice none 0 0] 27)).drew) A2.out)
  obtain ⟨WS, hWS⟩ : ∃ WS, WS = (((w.alloc (.cells #[.int .i64 0, .int .i64 0, .bool false, .slice none 0 0, .slice none 0 0] 27)).alloc (.cells #[.int .i64 (u0 : Int), .int .i64 (u1 : Int), .bool yy, .slice none 0 0, .slice none 0 0] 27)).drew) := ⟨_, rfl⟩
  rw [← hWS] at A2 X2 R2 h2 Q1
  have y0 : (w.alloc (.cells #[.int .i64 0, .int .i64 0, .bool false, .slice none 0 0, .slice none 0 0] 27)).cell? ⟨w.heap.size, 0, none⟩ = some (.int .i64 0) := cell_of X1.out 0
  have y1 : (w.alloc (.cells #[.int .i64 0, .int .i64 0, .bool false, .slice none 0 0, .slice none 0 0] 27)).cell? ⟨w.heap.size, 1, none⟩ = some (.int .i64 0) := cell_of X1.out 1
  have y2 : (w.alloc (.cells #[.int .i64 0, .int .i64 0, .bool false, .slice none 0 0, .slice none 0 0] 27)).cell? ⟨w.heap.size, 2, none⟩ = some (.bool false) := cell_of X1.out 2
  have y3 : (w.alloc (.cells #[.int .i64 0, .int .i64 0, .bool false, .slice none 0 0, .slice none 0 0] 27)).cell? ⟨w.heap.size, 3, none⟩ = some (.slice none 0 0) := cell_of X1.out 3
  have y4 : (w.alloc (.cells #[.int .i64 0, .int .i64 0, .bool false, .slice none 0 0, .slice none 0 0] 27)).cell? ⟨w.heap.size, 4, none⟩ = some (.slice none 0 0) := cell_of X1.out 4
  have qf : ∀ i, (w.alloc (.cells #[.int .i64 0, .int .i64 0, .bool false, .slice none 0 0, .slice none 0 0] 27)).frozen? ⟨w.heap.size, i, none⟩ = false := fun i => free_of X1.out i
  go_enter Tryd.func27, Tryd.ntmps27
  go_wp2_with fail
  go_region
  go_wp2_with fail
  rw [← hWS]
  clear y0 y1 y2 y3 y4 qf
  refine (Q1.out).mono ?_; rintro e w3 ⟨rfl, hb3⟩
  have B3 := Lib.hid (A2.out.trans (hb3.mono A2.out.size))
  have X3 := Lib.hid ((hb3.block _ (lt_of_block X2.out)).trans X2.out)
  clear hb3 Q1 GU
  have y0 : w3.cell? ⟨w.heap.size, 0, none⟩ = some (.int .i64 0) := cell_of X3.out 0
  have y1 : w3.cell? ⟨w.heap.size, 1, none⟩ = some (.int .i64 0) := cell_of X3.out 1
  have y2 : w3.cell? ⟨w.heap.size, 2, none⟩ = some (.bool false) := cell_of X3.out 2
  have y3 : w3.cell? ⟨w.heap.size, 3, none⟩ = some (.slice none 0 0) := cell_of X3.out 3
  have y4 : w3.cell? ⟨w.heap.size, 4, none⟩ = some (.slice none 0 0) := cell_of X3.out 4
  have qf : ∀ i, w3.frozen? ⟨w.heap.size, i, none⟩ = false := fun i => free_of X3.out i
  go_wp2_with fail
  have h7 := set5 X3.out rfl (.int .i64 0) (.int .i64 0) (.bool false) (.slice none 0 0) (.slice none 0 0)
  have B7 := Lib.hid (below5 (x := w.heap.size) B3.out (Nat.le_refl _) (.int .i64 0) (.int .i64 0) (.bool false) (.slice none 0 0) (.slice none 0 0))
  clear y0 y1 y2 y3 y4 qf
  generalize hW6 : ((((w3.setCell ⟨w.heap.size, 0, none⟩ (.int .i64 0)).setCell ⟨w.heap.size, 1, none⟩ (.int .i64 0)).setCell ⟨w.heap.size, 2, none⟩ (.bool false)).setCell ⟨w.heap.size, 3, none⟩ (.slice none 0 0)).setCell ⟨w.heap.size, 4, none⟩ (.slice none 0 0) = W6 at *
  have y0 : W6.cell? ⟨w.heap.size, 0, none⟩ = some (.int .i64 0) := cell_of h7 0
  have y1 : W6.cell? ⟨w.heap.size, 1, none⟩ = some (.int .i64 0) := cell_of h7 1
  have y2 : W6.cell? ⟨w.heap.size, 2, none⟩ = some (.bool false) := cell_of h7 2
  have y3 : W6.cell? ⟨w.heap.size, 3, none⟩ = some (.slice none 0 0) := cell_of h7 3
  have y4 : W6.cell? ⟨w.heap.size, 4, none⟩ = some (.slice none 0 0) := cell_of h7 4
  exact bodyPost_ret (v := .tuple #[.agg #[.int .i64 0, .int .i64 0, .bool false, .slice none 0 0, .slice none 0 0], .int .i64 0, .int .i64 15]) (by clear hW6 h7; simp [results, Tryd.results27, go_sem, y0, y1, y2, y3, y4]) rfl (ges_bad HR.out B7.out)

set_option maxRecDepth 100000 in
set_option maxHeartbeats 8000000 in
theorem rget_d {w : World} {a : Option Addr} {n c : Nat} {b : List Nat} (h : IsK .u8 w a n c (ns b)) (hb : By b) (hn : n ≤ 1000000000) (hs : 3 ≤ n) (hy : ¬ 1 < b.getD 2 0) {l1 : List Nat} {k1 : Nat} (hc : lst (b.drop 3) = some (l1, k1)) (hd : lst (b.drop (3 + k1)) = none) :
    Calls Tryd.prog 27 #[.slice a n c] w (GeS w (getR b)) := by
  have A1 := Lib.hid (Below.alloc (Below.refl w.heap.size w) (Nat.le_refl _) (.cells #[.int .i64 0, .int .i64 0, .bool false, .slice none 0 0, .slice none 0 0] 27))
  have X1 := Lib.hid (block_new w (.cells #[.int .i64 0, .int .i64 0, .bool false, .slice none 0 0, .slice none 0 0] 27))
  have HNB := Lib.hid h.u8
  have hb3 : 3 ≤ b.length := by rw [← HNB.out]; exact hs
  obtain ⟨g, off, rfl, c0⟩ := u8_at h (i := 0) (by omega)
  obtain ⟨_, _, e, c1⟩ := u8_at h (i := 1) (by omega)
  cases e
  obtain ⟨_, _, e, c2⟩ := u8_at h (i := 2) (by omega)
  cases e
  rw [Nat.add_zero] at c0
  have hgl := lt_of_cell c0
  have hu0 : b.getD 0 0 < 256 := hb _ (by rw [List.getD_eq_getElem?_getD, List.getElem?_eq_getElem (by omega)]; exact List.getElem_mem (by omega))
  have hu1 : b.getD 1 0 < 256 := hb _ (by rw [List.getD_eq_getElem?_getD, List.getElem?_eq_getElem (by omega)]; exact List.getElem_mem (by omega))
  have HQ := Lib.hid (get_eq hb3)
  have d1 : decide ((n : Int) < 3) = false := by simp; omega
  have d2 : decide (1 < ((b.getD 2 0 : Nat) : Int)) = false := decide_eq_false (by omega)
  have d3 : decide (1 < b.getD 2 0) = false := decide_eq_false hy
  have hyc : b.getD 2 0 = 0 ∨ b.getD 2 0 = 1 := by omega
  have HQ2 := Lib.hid (HQ.out.trans (if_neg hy))
  clear HQ
  obtain ⟨yy, hyy⟩ : ∃ yy, yy = (b.getD 2 0 == 1) := ⟨_, rfl⟩
  rw [← hyy] at HQ2
  have e1 : (((b.getD 2 0 : Nat) : Int) == 1) = yy := by rw [hyy]; rcases hyc with e | e <;> rw [e] <;> rfl
  have HB := Lib.hid hb; have HH := Lib.hid h
  have hnc := h.hle
  generalize b.getD 2 0 = u2 at *
  generalize b.getD 1 0 = u1 at *
  generalize b.getD 0 0 = u0 at *
  clear hyc hyy
  obtain ⟨n1, hn1⟩ : ∃ n1, l1.length = n1 := ⟨_, rfl⟩
  have HN1 := Lib.hid hn1
  have hk1 : k1 ≤ (b.drop 3).length := lst_le (By.drop hb 3) hc
  rw [List.length_drop, ← HNB.out] at hk1
  have hk3 : 3 + k1 ≤ n := by omega
  have ed : (b.drop 3).drop k1 = b.drop (3 + k1) := by rw [List.drop_drop]
  obtain ⟨q1, hq1⟩ : ∃ q1, q1 = 3 + k1 := ⟨_, rfl⟩
  have GU : Hid (∀ W, Below w.heap.size w W → Calls Tryd.prog 58 #[.slice (some ⟨g, off, none⟩) n c, .int .i64 3] W fun e w' => ∃ x y, e = .returned (.tuple #[.slice x n1 y, .int .i64 (q1 : Int)]) ∧ OutR 1 (encK .u64) 28 w' W.heap.size (.slice x n1 y) (ns l1) ∧ Below W.heap.size W w') := Lib.hid (fun W hbl => rl_some (HH.out.below hbl) hb hn (p := 3) hs hc hn1 hq1)
  rw [← hq1] at hk3 hd ed
  have d4 : decide ((q1 : Int) < 0) = false := by simp
  have GI : Hid (∀ W, Below w.heap.size w W → Calls Tryd.prog 58 #[.slice (some ⟨g, off, none⟩) n c, .int .i64 (q1 : Int)] W fun e w' => e = .returned (.tuple #[.slice none 0 0, .int .i64 (-1)]) ∧ Below W.heap.size W w') := Lib.hid (fun W hbl => rl_none (HH.out.below hbl) hb hn hk3 hd)
  have HR : Hid (getR b = none) := Lib.hid (by
    rw [HQ2.out, hc]
    show (lst ((b.drop 3).drop k1)).bind _ = none
    rw [ed, hd]; rfl)
  generalize getR b = R at *
  clear h hb HQ2 hb3 hc hd ed HB HH hn1 hq1
  have A2 : Hid (Below w.heap.size w (((w.alloc (.cells #[.int .i64 0, .int .i64 0, .bool false, .slice none 0 0, .slice none 0 0] 27)).alloc (.cells #[.int .i64 (u0 : Int), .int .i64 (u1 : Int), .bool yy, .slice none 0 0, .slice none 0 0] 27)).drew)) := Lib.hid ((A1.out.alloc (by simp) _).drew)
  have X2 : Hid ((((w.alloc (.cells #[.int .i64 0, .int .i64 0, .bool false, .slice none 0 0, .slice none 0 0] 27)).alloc (.cells #[.int .i64 (u0 : Int), .int .i64 (u1 : Int), .bool yy, .slice none 0 0, .slice none 0 0] 27)).drew).heap[w.heap.size]? = some (.cells #[.int .i64 0, .int .i64 0, .bool false, .slice none 0 0, .slice none 0 0] 27 (0, 0))) := Lib.hid (block_drew (block_old X1.out _))
  have R2 : Hid ((((w.alloc (.cells #[.int .i64 0, .int .i64 0, .bool false, .slice none 0 0, .slice none 0 0] 27)).alloc (.cells #[.int .i64 (u0 : Int), .int .i64 (u1 : Int), .bool yy, .slice none 0 0, .slice none 0 0] 27)).drew).heap[w.heap.size + 1]? = some (.cells #[.int .i64 (u0 : Int), .int .i64 (u1 : Int), .bool yy, .slice none 0 0, .slice none 0 0] 27 (0, 0))) := Lib.hid (by
    have := block_new (w.alloc (.cells #[.int .i64 0, .int .i64 0, .bool false, .slice none 0 0, .slice none 0 0] 27)) (.cells #[.int .i64 (u0 : Int), .int .i64 (u1 : Int), .bool yy, .slice none 0 0, .slice none 0 0] 27)
    rw [show (w.alloc (.cells #[.int .i64 0, .int .i64 0, .bool false, .slice none 0 0, .slice none 0 0] 27)).heap.size = w.heap.size + 1 by simp] at this
    exact block_drew this)
  have h2 : (((w.alloc (.cells #[.int .i64 0, .int .i64 0, .bool false, .slice none 0 0, .slice none 0 0] 27)).alloc (.cells #[.int .i64 (u0 : Int), .int .i64 (u1 : Int), .bool yy, .slice none 0 0, .slice none 0 0] 27)).drew).heap.size = w.heap.size + 2 := by simp
  have Q1 := Lib.hid (GU.out (((w.alloc (.cells #[.int .i64 0, .int .i64 0, .bool false, .slice none 0 0, .slice none 0 0] 27)).alloc (.cells #[.int .i64 (u0 : Int), .int .i64 (u1 : Int), .bool yy, .slice none 0 0, .slice none 0 0] 27)).drew) A2.out)
  obtain ⟨WS, hWS⟩ : ∃ WS, WS = (((w.alloc (.cells #[.int .i64 0, .int .i64 0, .bool false, .slice none 0 0, .slice none 0 0] 27)).alloc (.cells #[.int .i64 (u0 : Int), .int .i64 (u1 : Int), .bool yy, .slice none 0 0, .slice none 0 0] 27)).drew) := ⟨_, rfl⟩
  rw [← hWS] at A2 X2 R2 h2 Q1
  have y0 : (w.alloc (.cells #[.int .i64 0, .int .i64 0, .bool false, .slice none 0 0, .slice none 0 0] 27)).cell? ⟨w.heap.size, 0, none⟩ = some (.int .i64 0) := cell_of X1.out 0
  have y1 : (w.alloc (.cells #[.int .i64 0, .int .i64 0, .bool false, .slice none 0 0, .slice none 0 0] 27)).cell? ⟨w.heap.size, 1, none⟩ = some (.int .i64 0) := cell_of X1.out 1
  have y2 : (w.alloc (.cells #[.int .i64 0, .int .i64 0, .bool false, .slice none 0 0, .slice none 0 0] 27)).cell? ⟨w.heap.size, 2, none⟩ = some (.bool false) := cell_of X1.out 2
  have y3 : (w.alloc (.cells #[.int .i64 0, .int .i64 0, .bool false, .slice none 0 0, .slice none 0 0] 27)).cell? ⟨w.heap.size, 3, none⟩ = some (.slice none 0 0) := cell_of X1.out 3
  have y4 : (w.alloc (.cells #[.int .i64 0, .int .i64 0, .bool false, .slice none 0 0, .slice none 0 0] 27)).cell? ⟨w.heap.size, 4, none⟩ = some (.slice none 0 0) := cell_of X1.out 4
  have qf : ∀ i, (w.alloc (.cells #[.int .i64 0, .int .i64 0, .bool false, .slice none 0 0, .slice none 0 0] 27)).frozen? ⟨w.heap.size, i, none⟩ = false := fun i => free_of X1.out i
  go_enter Tryd.func27, Tryd.ntmps27
  go_wp2_with fail
  go_region
  go_wp2_with fail
  rw [← hWS]
  clear y0 y1 y2 y3 y4 qf
  refine (Q1.out).mono ?_; rintro e w3 ⟨a1, c1, rfl, o1, hb3⟩
  have B3 := Lib.hid (A2.out.trans (hb3.mono A2.out.size))
  have X3 := Lib.hid ((hb3.block _ (lt_of_block X2.out)).trans X2.out)
  have R3 := Lib.hid ((hb3.block _ (lt_of_block R2.out)).trans R2.out)
  have g1 : w.heap.size + 2 ≤ w3.heap.size := by have := hb3.size; rw [h2] at this; exact this
  rw [h2] at o1
  have O1 := Lib.hid o1
  have Q2 := Lib.hid (GI.out w3 B3.out)
  clear hb3 Q1 GU o1 GI
  go_wp2_with fail
  refine (Q2.out).mono ?_; rintro e w4 ⟨rfl, hb4⟩
  have B4 := Lib.hid (B3.out.trans (hb4.mono B3.out.size))
  have X4 := Lib.hid ((hb4.block _ (lt_of_block X3.out)).trans X3.out)
  clear hb4 Q2 O1
  have y0 : w4.cell? ⟨w.heap.size, 0, none⟩ = some (.int .i64 0) := cell_of X4.out 0
  have y1 : w4.cell? ⟨w.heap.size, 1, none⟩ = some (.int .i64 0) := cell_of X4.out 1
  have y2 : w4.cell? ⟨w.heap.size, 2, none⟩ = some (.bool false) := cell_of X4.out 2
  have y3 : w4.cell? ⟨w.heap.size, 3, none⟩ = some (.slice none 0 0) := cell_of X4.out 3
  have y4 : w4.cell? ⟨w.heap.size, 4, none⟩ = some (.slice none 0 0) := cell_of X4.out 4
  have qf : ∀ i, w4.frozen? ⟨w.heap.size, i, none⟩ = false := fun i => free_of X4.out i
  go_wp2_with fail
  have h7 := set5 X4.out rfl (.int .i64 0) (.int .i64 0) (.bool false) (.slice none 0 0) (.slice none 0 0)
  have B7 := Lib.hid (below5 (x := w.heap.size) B4.out (Nat.le_refl _) (.int .i64 0) (.int .i64 0) (.bool false) (.slice none 0 0) (.slice none 0 0))
  clear y0 y1 y2 y3 y4 qf
  generalize hW6 : ((((w4.setCell ⟨w.heap.size, 0, none⟩ (.int .i64 0)).setCell ⟨w.heap.size, 1, none⟩ (.int .i64 0)).setCell ⟨w.heap.size, 2, none⟩ (.bool false)).setCell ⟨w.heap.size, 3, none⟩ (.slice none 0 0)).setCell ⟨w.heap.size, 4, none⟩ (.slice none 0 0) = W6 at *
  have y0 : W6.cell? ⟨w.heap.size, 0, none⟩ = some (.int .i64 0) := cell_of h7 0
  have y1 : W6.cell? ⟨w.heap.size, 1, none⟩ = some (.int .i64 0) := cell_of h7 1
  have y2 : W6.cell? ⟨w.heap.size, 2, none⟩ = some (.bool false) := cell_of h7 2
  have y3 : W6.cell? ⟨w.heap.size, 3, none⟩ = some (.slice none 0 0) := cell_of h7 3
  have y4 : W6.cell? ⟨w.heap.size, 4, none⟩ = some (.slice none 0 0) := cell_of h7 4
  exact bodyPost_ret (v := .tuple #[.agg #[.int .i64 0, .int .i64 0, .bool false, .slice none 0 0, .slice none 0 0], .int .i64 0, .int .i64 15]) (by clear hW6 h7; simp [results, Tryd.results27, go_sem, y0, y1, y2, y3, y4]) rfl (ges_bad HR.out B7.out)

set_option maxRecDepth 100000 in
set_option maxHeartbeats 8000000 in
theorem rget_e {w : World} {a : Option Addr} {n c : Nat} {b : List Nat} (h : IsK .u8 w a n c (ns b)) (hb : By b) (hn : n ≤ 1000000000) (hs : 3 ≤ n) (hy : ¬ 1 < b.getD 2 0) {l1 : List Nat} {k1 : Nat} (hc : lst (b.drop 3) = some (l1, k1)) {l2 : List Nat} {k2 : Nat} (hd : lst (b.drop (3 + k1)) = some (l2, k2)) :
    Calls Tryd.prog 27 #[.slice a n c] w (GeS w (getR b)) := by
  obtain ⟨i2, a2', a2z, a2s, a2b⟩ := info_parts info2
  have A1 := Lib.hid (Below.alloc (Below.refl w.heap.size w) (Nat.le_refl _) (.cells #[.int .i64 0, .int .i64 0, .bool false, .slice none 0 0, .slice none 0 0] 27))
  have X1 := Lib.hid (block_new w (.cells #[.int .i64 0, .int .i64 0, .bool false, .slice none 0 0, .slice none 0 0] 27))
  have HNB := Lib.hid h.u8
  have hb3 : 3 ≤ b.length := by rw [← HNB.out]; exact hs
  obtain ⟨g, off, rfl, c0⟩ := u8_at h (i := 0) (by omega)
  obtain ⟨_, _, e, c1⟩ := u8_at h (i := 1) (by omega)
  cases e
  obtain ⟨_, _, e, c2⟩ := u8_at h (i := 2) (by omega)
  cases e
  rw [Nat.add_zero] at c0
  have hgl := lt_of_cell c0
  have hu0 : b.getD 0 0 < 256 := hb _ (by rw [List.getD_eq_getElem?_getD, List.getElem?_eq_getElem (by omega)]; exact List.getElem_mem (by omega))
  have hu1 : b.getD 1 0 < 256 := hb _ (by rw [List.getD_eq_getElem?_getD, List.getElem?_eq_getElem (by omega)]; exact List.getElem_mem (by omega))
  have HQ := Lib.hid (get_eq hb3)
  have d1 : decide ((n : Int) < 3) = false := by simp; omega
  have d2 : decide (1 < ((b.getD 2 0 : Nat) : Int)) = false := decide_eq_false (by omega)
  have d3 : decide (1 < b.getD 2 0) = false := decide_eq_false hy
  have hyc : b.getD 2 0 = 0 ∨ b.getD 2 0 = 1 := by omega
  have HQ2 := Lib.hid (HQ.out.trans (if_neg hy))
  clear HQ
  obtain ⟨yy, hyy⟩ : ∃ yy, yy = (b.getD 2 0 == 1) := ⟨_, rfl⟩
  rw [← hyy] at HQ2
  have e1 : (((b.getD 2 0 : Nat) : Int) == 1) = yy := by rw [hyy]; rcases hyc with e | e <;> rw [e] <;> rfl
  have HB := Lib.hid hb; have HH := Lib.hid h
  have hnc := h.hle
  generalize b.getD 2 0 = u2 at *
  generalize b.getD 1 0 = u1 at *
  generalize b.getD 0 0 = u0 at *
  clear hyc hyy
  obtain ⟨n1, hn1⟩ : ∃ n1, l1.length = n1 := ⟨_, rfl⟩
  have HN1 := Lib.hid hn1
  have hk1 : k1 ≤ (b.drop 3).length := lst_le (By.drop hb 3) hc
  rw [List.length_drop, ← HNB.out] at hk1
  have hk3 : 3 + k1 ≤ n := by omega
  have ed : (b.drop 3).drop k1 = b.drop (3 + k1) := by rw [List.drop_drop]
  obtain ⟨q1, hq1⟩ : ∃ q1, q1 = 3 + k1 := ⟨_, rfl⟩
  have GU : Hid (∀ W, Below w.heap.size w W → Calls Tryd.prog 58 #[.slice (some ⟨g, off, none⟩) n c, .int .i64 3] W fun e w' => ∃ x y, e = .returned (.tuple #[.slice x n1 y, .int .i64 (q1 : Int)]) ∧ OutR 1 (encK .u64) 28 w' W.heap.size (.slice x n1 y) (ns l1) ∧ Below W.heap.size W w') := Lib.hid (fun W hbl => rl_some (HH.out.below hbl) hb hn (p := 3) hs hc hn1 hq1)
  rw [← hq1] at hk3 hd ed
  have d4 : decide ((q1 : Int) < 0) = false := by simp
  obtain ⟨n2, hn2⟩ : ∃ n2, l2.length = n2 := ⟨_, rfl⟩
  have HN2 := Lib.hid hn2
  obtain ⟨q2, hq2⟩ : ∃ q2, q2 = q1 + k2 := ⟨_, rfl⟩
  have GI : Hid (∀ W, Below w.heap.size w W → Calls Tryd.prog 58 #[.slice (some ⟨g, off, none⟩) n c, .int .i64 (q1 : Int)] W fun e w' => ∃ x y, e = .returned (.tuple #[.slice x n2 y, .int .i64 (q2 : Int)]) ∧ OutR 1 (encK .u64) 28 w' W.heap.size (.slice x n2 y) (ns l2) ∧ Below W.heap.size W w') := Lib.hid (fun W hbl => rl_some (HH.out.below hbl) hb hn hk3 hd hn2 hq2)
  have d5 : decide ((q2 : Int) < 0) = false := by simp
  have hll1 := (lst_inv (By.drop hb 3) hc).1
  have hll2 := (lst_inv (By.drop hb q1) hd).1
  have HX2 := Lib.hid (lst_inv (By.drop hb q1) hd).2.1
  have PK : Hid (∀ W, ∀ a c a' c', Calls Tryd.prog 22 #[.agg #[.int .i64 (u0 : Int), .int .i64 (u1 : Int), .bool yy, .slice a n1 c, .slice a' n2 c']] W fun e w' => e = .returned (.int .i64 (chk ⟨u0, u1, yy, l1, l2.map unf⟩)) ∧ Below W.heap.size W w') := Lib.hid (fun W a c a' c' => by
    have := rcheck (w := W) ⟨u0, u1, yy, l1, l2.map unf⟩ a c a' c' (by simp only; omega) (by simp only [List.length_map]; omega)
    unfold rpV at this
    simp only [List.length_map, hn1, hn2] at this
    exact this)
  have HG : Hid (getR b = if chk ⟨u0, u1, yy, l1, l2.map unf⟩ = 0 then some (⟨u0, u1, yy, l1, l2.map unf⟩, q2) else none) := Lib.hid (by
    rw [HQ2.out, hc]
    show (lst ((b.drop 3).drop k1)).bind _ = _
    rw [ed, hd, hq2, hq1]; rfl)
  rw [hn1] at hll1
  rw [hn2] at hll2
  generalize getR b = R at *
  clear h hb HQ2 hb3 hc hd ed HB HH hn1 hn2 hq1 hq2
  have A2 : Hid (Below w.heap.size w (((w.alloc (.cells #[.int .i64 0, .int .i64 0, .bool false, .slice none 0 0, .slice none 0 0] 27)).alloc (.cells #[.int .i64 (u0 : Int), .int .i64 (u1 : Int), .bool yy, .slice none 0 0, .slice none 0 0] 27)).drew)) := Lib.hid ((A1.out.alloc (by simp) _).drew)
  have X2 : Hid ((((w.alloc (.cells #[.int .i64 0, .int .i64 0, .bool false, .slice none 0 0, .slice none 0 0] 27)).alloc (.cells #[.int .i64 (u0 : Int), .int .i64 (u1 : Int), .bool yy, .slice none 0 0, .slice none 0 0] 27)).drew).heap[w.heap.size]? = some (.cells #[.int .i64 0, .int .i64 0, .bool false, .slice none 0 0, .slice none 0 0] 27 (0, 0))) := Lib.hid (block_drew (block_old X1.out _))
  have R2 : Hid ((((w.alloc (.cells #[.int .i64 0, .int .i64 0, .bool false, .slice none 0 0, .slice none 0 0] 27)).alloc (.cells #[.int .i64 (u0 : Int), .int .i64 (u1 : Int), .bool yy, .slice none 0 0, .slice none 0 0] 27)).drew).heap[w.heap.size + 1]? = some (.cells #[.int .i64 (u0 : Int), .int .i64 (u1 : Int), .bool yy, .slice none 0 0, .slice none 0 0] 27 (0, 0))) := Lib.hid (by
    have := block_new (w.alloc (.cells #[.int .i64 0, .int .i64 0, .bool false, .slice none 0 0, .slice none 0 0] 27)) (.cells #[.int .i64 (u0 : Int), .int .i64 (u1 : Int), .bool yy, .slice none 0 0, .slice none 0 0] 27)
    rw [show (w.alloc (.cells #[.int .i64 0, .int .i64 0, .bool false, .slice none 0 0, .slice none 0 0] 27)).heap.size = w.heap.size + 1 by simp] at this
    exact block_drew this)
  have h2 : (((w.alloc (.cells #[.int .i64 0, .int .i64 0, .bool false, .slice none 0 0, .slice none 0 0] 27)).alloc (.cells #[.int .i64 (u0 : Int), .int .i64 (u1 : Int), .bool yy, .slice none 0 0, .slice none 0 0] 27)).drew).heap.size = w.heap.size + 2 := by simp
  have Q1 := Lib.hid (GU.out (((w.alloc (.cells #[.int .i64 0, .int .i64 0, .bool false, .slice none 0 0, .slice none 0 0] 27)).alloc (.cells #[.int .i64 (u0 : Int), .int .i64 (u1 : Int), .bool yy, .slice none 0 0, .slice none 0 0] 27)).drew) A2.out)
  obtain ⟨WS, hWS⟩ : ∃ WS, WS = (((w.alloc (.cells #[.int .i64 0, .int .i64 0, .bool false, .slice none 0 0, .slice none 0 0] 27)).alloc (.cells #[.int .i64 (u0 : Int), .int .i64 (u1 : Int), .bool yy, .slice none 0 0, .slice none 0 0] 27)).drew) := ⟨_, rfl⟩
  rw [← hWS] at A2 X2 R2 h2 Q1
  have y0 : (w.alloc (.cells #[.int .i64 0, .int .i64 0, .bool false, .slice none 0 0, .slice none 0 0] 27)).cell? ⟨w.heap.size, 0, none⟩ = some (.int .i64 0) := cell_of X1.out 0
  have y1 : (w.alloc (.cells #[.int .i64 0, .int .i64 0, .bool false, .slice none 0 0, .slice none 0 0] 27)).cell? ⟨w.heap.size, 1, none⟩ = some (.int .i64 0) := cell_of X1.out 1
  have y2 : (w.alloc (.cells #[.int .i64 0, .int .i64 0, .bool false, .slice none 0 0, .slice none 0 0] 27)).cell? ⟨w.heap.size, 2, none⟩ = some (.bool false) := cell_of X1.out 2
  have y3 : (w.alloc (.cells #[.int .i64 0, .int .i64 0, .bool false, .slice none 0 0, .slice none 0 0] 27)).cell? ⟨w.heap.size, 3, none⟩ = some (.slice none 0 0) := cell_of X1.out 3
  have y4 : (w.alloc (.cells #[.int .i64 0, .int .i64 0, .bool false, .slice none 0 0, .slice none 0 0] 27)).cell? ⟨w.heap.size, 4, none⟩ = some (.slice none 0 0) := cell_of X1.out 4
  have qf : ∀ i, (w.alloc (.cells #[.int .i64 0, .int .i64 0, .bool false, .slice none 0 0, .slice none 0 0] 27)).frozen? ⟨w.heap.size, i, none⟩ = false := fun i => free_of X1.out i
  go_enter Tryd.func27, Tryd.ntmps27
  go_wp2_with fail
  go_region
  go_wp2_with fail
  rw [← hWS]
  clear y0 y1 y2 y3 y4 qf
  refine (Q1.out).mono ?_; rintro e w3 ⟨a1, c1, rfl, o1, hb3⟩
  have B3 := Lib.hid (A2.out.trans (hb3.mono A2.out.size))
  have X3 := Lib.hid ((hb3.block _ (lt_of_block X2.out)).trans X2.out)
  have R3 := Lib.hid ((hb3.block _ (lt_of_block R2.out)).trans R2.out)
  have g1 : w.heap.size + 2 ≤ w3.heap.size := by have := hb3.size; rw [h2] at this; exact this
  rw [h2] at o1
  have O1 := Lib.hid o1
  have Q2 := Lib.hid (GI.out w3 B3.out)
  clear hb3 Q1 GU o1 GI
  go_wp2_with fail
  refine (Q2.out).mono ?_; rintro e w4 ⟨a2, c2, rfl, o2, hb4⟩
  have hbB : Below w.heap.size w w4 := B3.out.trans (hb4.mono B3.out.size)
  have X4 := (hb4.block _ (lt_of_block X3.out)).trans X3.out
  have R4 := (hb4.block _ (lt_of_block R3.out)).trans R3.out
  have O1b := O1.out.below hb4
  have g4 : w.heap.size + 2 ≤ w4.heap.size := Nat.le_trans g1 hb4.size
  have B5 : Hid (Below w.heap.size w (w4.setCell ⟨w.heap.size + 1, 3, none⟩ (.slice a1 n1 c1))) := Lib.hid (hbB.setCell (p := ⟨w.heap.size + 1, 3, none⟩) (show w.heap.size ≤ w.heap.size + 1 by omega) _)
  have X5 : Hid ((w4.setCell ⟨w.heap.size + 1, 3, none⟩ (.slice a1 n1 c1)).heap[w.heap.size]? = some (.cells #[.int .i64 0, .int .i64 0, .bool false, .slice none 0 0, .slice none 0 0] 27 (0, 0))) := Lib.hid (block_set (p := ⟨w.heap.size + 1, 3, none⟩) X4 (show w.heap.size ≠ w.heap.size + 1 by omega) _)
  have R5 : Hid ((w4.setCell ⟨w.heap.size + 1, 3, none⟩ (.slice a1 n1 c1)).heap[w.heap.size + 1]? = some (.cells #[.int .i64 (u0 : Int), .int .i64 (u1 : Int), .bool yy, .slice a1 n1 c1, .slice none 0 0] 27 (0, 0))) := Lib.hid (set_of R4 3 _)
  have P1 : Hid (OutR 1 (encK .u64) 28 (w4.setCell ⟨w.heap.size + 1, 3, none⟩ (.slice a1 n1 c1)) (w.heap.size + 2) (.slice a1 n1 c1) (ns l1)) := Lib.hid (out_set O1b (show w.heap.size + 1 < w.heap.size + 2 by omega) 3 _)
  have P2o : OutR 1 (encK .u64) 28 (w4.setCell ⟨w.heap.size + 1, 3, none⟩ (.slice a1 n1 c1)) (w.heap.size + 2) (.slice a2 n2 c2) (ns l2) := out_set (out_low o2 g1) (show w.heap.size + 1 < w.heap.size + 2 by omega) 3 _
  have P2b : Hid (∀ x, a2 = some x → w.heap.size + 2 ≤ x.block) := Lib.hid (fun x hx => P2o.blk _ (by rw [hx]; rfl))
  have P2 : Hid (IsK .u64 (w4.setCell ⟨w.heap.size + 1, 3, none⟩ (.slice a1 n1 c1)) a2 n2 c2 (ns l2)) := Lib.hid (IsSl.of_own (e := 28) (encK_len _) (by have := P2o.row; rwa [ns_len, HN2.out] at this) ((ns_len _).trans HN2.out))
  have g5 : (w4.setCell ⟨w.heap.size + 1, 3, none⟩ (.slice a1 n1 c1)).heap.size = w4.heap.size := by simp
  have z0 : w4.cell? ⟨w.heap.size + 1, 0, none⟩ = some (.int .i64 (u0 : Int)) := cell_of R4 0
  have z1 : w4.cell? ⟨w.heap.size + 1, 1, none⟩ = some (.int .i64 (u1 : Int)) := cell_of R4 1
  have z2 : w4.cell? ⟨w.heap.size + 1, 2, none⟩ = some (.bool yy) := cell_of R4 2
  have z3 : w4.cell? ⟨w.heap.size + 1, 3, none⟩ = some (.slice none 0 0) := cell_of R4 3
  have z4 : w4.cell? ⟨w.heap.size + 1, 4, none⟩ = some (.slice none 0 0) := cell_of R4 4
  have rf : ∀ i, w4.frozen? ⟨w.heap.size + 1, i, none⟩ = false := fun i => free_of R4 i
  clear hb4 Q2 O1 o2 O1b X4 R4 hbB P2o g1
  go_wp2_with fail
  clear z0 z1 z2 z3 z4 rf
  obtain ⟨wS, hwS⟩ : ∃ wS, wS = (w4.setCell ⟨w.heap.size + 1, 3, none⟩ (.slice a1 n1 c1)) := ⟨_, rfl⟩
  rw [← hwS] at B5 X5 R5 P1 P2 g5 ⊢
  have gS : w.heap.size + 2 ≤ wS.heap.size := by omega
  clear hwS g5
  go_loopw [9] (fun v9 wr => RgRel wS (w.heap.size + 1) u0 u1 yy (.slice a1 n1 c1) n2 l2 v9 wr) (fun v9 _ => n2 - (intOf v9).toNat)
  case atStart => exact ⟨0, _, Nat.zero_le _, rfl, R5.out, ⟨⟨rfl, Or.inl ⟨rfl, rfl⟩⟩, fun g h => (by cases h)⟩, Touch.refl _ _⟩
  case round =>
    obtain ⟨i, v4, hi, rfl, hB⟩ := hrel
    have EB := Lib.hid hB
    have gs := hB.touch.size
    obtain ⟨a4, c4, rfl⟩ := own_shape hB.o4.row
    have K2 := P2.out.keep hB.touch (fun _ x hx e => by have := P2b.out x hx; omega)
    have x4 : wr.cell? ⟨w.heap.size + 1, 4, none⟩ = some (.slice a4 ((l2.take i).map unf).length c4) := cell_of hB.box 4
    have u4 : wr.frozen? ⟨w.heap.size + 1, 4, none⟩ = false := free_of hB.box 4
    have O4 := Lib.hid hB.o4
    have hbl := lt_of_block hB.box
    have hlen : ((l2.take i).map unf).length = i := by rw [List.length_map, List.length_take, HN2.out]; omega
    have HLN := Lib.hid hlen
    by_cases hlt : i < n2
    · rw [hlen] at x4 O4
      have hil : i < l2.length := by rw [HN2.out]; exact hlt
      obtain ⟨b2, off2, rfl, _, _⟩ := K2.at_ (fun e => by have h1 := ns_len l2; rw [e, List.length_nil] at h1; omega)
      have x0 := K2.cellK (i := i) (by rw [ns_len]; exact hil)
      rw [ns_get] at x0
      have hxb := HX2.out _ (show l2.getD i 0 ∈ l2 by simp [hil])
      obtain ⟨x, hx⟩ : ∃ x, x = l2.getD i 0 := ⟨_, rfl⟩
      have HMT := Lib.hid (map_take (x := x) hil hx.symm)
      rw [← hx] at x0 hxb
      have hu : (x : Int) / 2 = ((x / 2 : Nat) : Int) := by omega
      have hv : (x : Int) % 2 = ((x % 2 : Nat) : Int) := by omega
      have hu' : Int.tdiv (x : Int) 2 = ((x / 2 : Nat) : Int) := by rw [Int.tdiv_eq_ediv_of_nonneg (by omega)]; exact hu
      have hv' : Int.tmod (x : Int) 2 = ((x % 2 : Nat) : Int) := by rw [Int.tmod_eq_emod_of_nonneg (by omega)]; exact hv
      have hq63 : x / 2 ≤ 9223372036854775807 := by omega
      have U1 := Lib.hid (unf_odd (x := x)); have U2 := Lib.hid (unf_even (x := x))
      have hm2 : x % 2 = 0 ∨ x % 2 = 1 := by omega
      rw [hlen] at EB
      clear hB hlen hx K2 hil
      generalize hacc : (l2.take i).map unf = acc at EB O4 HLN HMT
      clear hacc
      generalize hqq : x / 2 = q at *
      generalize hmm : x % 2 = m at *
      clear hqq hmm
      have hbw : w.heap.size + 1 < wS.heap.size := by omega
      by_cases hm : m = 1
      · have UX := Lib.hid (U1.out hm)
        clear U1 U2 hm2
        subst hm
        go_wp2_with (at_builtin; refine wpList_app rfl (.tmp 75) (.tmp 77) 23 rfl 2 i2 .i64 8 Tryd.underlying23 a2' a2z a2s a2b (by decide) rfl O4.out gs (-(q : Int) - 1) rfl (by have := HLN.out; omega) ?_)
        intro v5 w5 k1 k2 k3 k4
        have EN : Hid (RgB wS (w.heap.size + 1) u0 u1 yy (.slice a1 n1 c1) v5 ((l2.take (i + 1)).map unf) (w5.setCell ⟨w.heap.size + 1, 4, none⟩ v5)) := Lib.hid (by
          rw [HMT.out, UX.out]
          exact EB.out.step hbw k1 k2)
        have hk5 := k2.keep EB.out.box (fun e => by have := O4.out.blk _ e; omega)
        have x5 : w5.cell? ⟨w.heap.size + 1, 4, none⟩ = some (.slice a4 i c4) := cell_of hk5 4
        have u5 : w5.frozen? ⟨w.heap.size + 1, 4, none⟩ = false := free_of hk5 4
        have hl5 := lt_of_cell x5
        obtain ⟨a5, c5, rfl⟩ := own_shape k1.row
        clear k1 k2 k3 k4 hk5
        generalize (acc ++ [-(q : Int) - 1]).length = n5 at *
        go_wp2_with fail
        go_roundw
        case rel => exact ⟨i + 1, _, hlt, by go_num, EN.out⟩
        case measure => simp [intOf]; omega
      · obtain rfl : m = 0 := by omega
        have UX := Lib.hid (U2.out hm)
        clear U1 U2 hm2 hm
        go_wp2_with (at_builtin; refine wpList_app rfl (.tmp 75) (.tmp 77) 23 rfl 2 i2 .i64 8 Tryd.underlying23 a2' a2z a2s a2b (by decide) rfl O4.out gs ((q : Int)) rfl (by have := HLN.out; omega) ?_)
        intro v5 w5 k1 k2 k3 k4
        have EN : Hid (RgB wS (w.heap.size + 1) u0 u1 yy (.slice a1 n1 c1) v5 ((l2.take (i + 1)).map unf) (w5.setCell ⟨w.heap.size + 1, 4, none⟩ v5)) := Lib.hid (by
          rw [HMT.out, UX.out]
          exact EB.out.step hbw k1 k2)
        have hk5 := k2.keep EB.out.box (fun e => by have := O4.out.blk _ e; omega)
        have x5 : w5.cell? ⟨w.heap.size + 1, 4, none⟩ = some (.slice a4 i c4) := cell_of hk5 4
        have u5 : w5.frozen? ⟨w.heap.size + 1, 4, none⟩ = false := free_of hk5 4
        have hl5 := lt_of_cell x5
        obtain ⟨a5, c5, rfl⟩ := own_shape k1.row
        clear k1 k2 k3 k4 hk5
        generalize (acc ++ [(q : Int)]).length = n5 at *
        go_wp2_with fail
        go_roundw
        case rel => exact ⟨i + 1, _, hlt, by go_num, EN.out⟩
        case measure => simp [intOf]; omega
    · obtain rfl : i = n2 := by omega
      have htk : l2.take i = l2 := List.take_of_length_le (by rw [HN2.out]; exact Nat.le_refl _)
      rw [hlen] at O4 EB
      rw [htk] at O4 EB
      have X6 := Lib.hid (EB.out.touch.keep X5.out (show ¬ (w.heap.size = w.heap.size + 1) by omega))
      have R6 := Lib.hid EB.out.box
      have B6 := Lib.hid (B5.out.trans (EB.out.touch.below B5.out.size (fun j hj e => by omega)))
      have P6 := Lib.hid (out_touch P1.out EB.out.touch (fun k hk e => by have := P1.out.blk k hk; omega))
      have O6 := Lib.hid (out_low O4.out gS)
      have HM2 : Hid ((l2.map unf).length = i) := Lib.hid (by rw [List.length_map, HN2.out])
      have PC := Lib.hid (PK.out wr a1 c1 a4 c4)
      clear hB K2 x4 u4 O4 hbl hlen HLN htk EB X5 P1 P2 P2b PK hi
      by_cases hk : chk ⟨u0, u1, yy, l1, l2.map unf⟩ = 0
      · have HR := Lib.hid (HG.out.trans (if_pos hk))
        rw [hk] at PC
        clear HG hk
        have z0 : wr.cell? ⟨w.heap.size + 1, 0, none⟩ = some (.int .i64 (u0 : Int)) := cell_of R6.out 0
        have z1 : wr.cell? ⟨w.heap.size + 1, 1, none⟩ = some (.int .i64 (u1 : Int)) := cell_of R6.out 1
        have z2 : wr.cell? ⟨w.heap.size + 1, 2, none⟩ = some (.bool yy) := cell_of R6.out 2
        have z3 : wr.cell? ⟨w.heap.size + 1, 3, none⟩ = some (.slice a1 n1 c1) := cell_of R6.out 3
        have z4 : wr.cell? ⟨w.heap.size + 1, 4, none⟩ = some (.slice a4 i c4) := cell_of R6.out 4
        go_wp2_with fail
        refine (PC.out).mono ?_; rintro e w6 ⟨rfl, hb6⟩
        have B7 := Lib.hid (B6.out.trans (hb6.mono B6.out.size))
        have X7 := Lib.hid ((hb6.block _ (lt_of_block X6.out)).trans X6.out)
        have R7 := Lib.hid ((hb6.block _ (lt_of_block R6.out)).trans R6.out)
        have O7 := Lib.hid (And.intro (P6.out.below hb6) (O6.out.below hb6))
        clear hb6 PC z0 z1 z2 z3 z4 P6 O6 X6 R6
        have y0 : w6.cell? ⟨w.heap.size, 0, none⟩ = some (.int .i64 0) := cell_of X7.out 0
        have y1 : w6.cell? ⟨w.heap.size, 1, none⟩ = some (.int .i64 0) := cell_of X7.out 1
        have y2 : w6.cell? ⟨w.heap.size, 2, none⟩ = some (.bool false) := cell_of X7.out 2
        have y3 : w6.cell? ⟨w.heap.size, 3, none⟩ = some (.slice none 0 0) := cell_of X7.out 3
        have y4 : w6.cell? ⟨w.heap.size, 4, none⟩ = some (.slice none 0 0) := cell_of X7.out 4
        have qf : ∀ i, w6.frozen? ⟨w.heap.size, i, none⟩ = false := fun i => free_of X7.out i
        have z0 : w6.cell? ⟨w.heap.size + 1, 0, none⟩ = some (.int .i64 (u0 : Int)) := cell_of R7.out 0
        have z1 : w6.cell? ⟨w.heap.size + 1, 1, none⟩ = some (.int .i64 (u1 : Int)) := cell_of R7.out 1
        have z2 : w6.cell? ⟨w.heap.size + 1, 2, none⟩ = some (.bool yy) := cell_of R7.out 2
        have z3 : w6.cell? ⟨w.heap.size + 1, 3, none⟩ = some (.slice a1 n1 c1) := cell_of R7.out 3
        have z4 : w6.cell? ⟨w.heap.size + 1, 4, none⟩ = some (.slice a4 i c4) := cell_of R7.out 4
        go_wp2_with fail
        have Q6 := Lib.hid (And.intro (out5 (x := w.heap.size) O7.out.1 (by omega) (.int .i64 (u0 : Int)) (.int .i64 (u1 : Int)) (.bool yy) (.slice a1 n1 c1) (.slice a4 i c4)) (out5 (x := w.heap.size) O7.out.2 (by omega) (.int .i64 (u0 : Int)) (.int .i64 (u1 : Int)) (.bool yy) (.slice a1 n1 c1) (.slice a4 i c4)))
        have h7 := set5 X7.out rfl (.int .i64 (u0 : Int)) (.int .i64 (u1 : Int)) (.bool yy) (.slice a1 n1 c1) (.slice a4 i c4)
        have B7 := Lib.hid (below5 (x := w.heap.size) B7.out (Nat.le_refl _) (.int .i64 (u0 : Int)) (.int .i64 (u1 : Int)) (.bool yy) (.slice a1 n1 c1) (.slice a4 i c4))
        clear y0 y1 y2 y3 y4 qf z0 z1 z2 z3 z4
        generalize hW6 : ((((w6.setCell ⟨w.heap.size, 0, none⟩ (.int .i64 (u0 : Int))).setCell ⟨w.heap.size, 1, none⟩ (.int .i64 (u1 : Int))).setCell ⟨w.heap.size, 2, none⟩ (.bool yy)).setCell ⟨w.heap.size, 3, none⟩ (.slice a1 n1 c1)).setCell ⟨w.heap.size, 4, none⟩ (.slice a4 i c4) = W6 at *
        have y0 : W6.cell? ⟨w.heap.size, 0, none⟩ = some (.int .i64 (u0 : Int)) := cell_of h7 0
        have y1 : W6.cell? ⟨w.heap.size, 1, none⟩ = some (.int .i64 (u1 : Int)) := cell_of h7 1
        have y2 : W6.cell? ⟨w.heap.size, 2, none⟩ = some (.bool yy) := cell_of h7 2
        have y3 : W6.cell? ⟨w.heap.size, 3, none⟩ = some (.slice a1 n1 c1) := cell_of h7 3
        have y4 : W6.cell? ⟨w.heap.size, 4, none⟩ = some (.slice a4 i c4) := cell_of h7 4
        exact bodyPost_ret (v := .tuple #[.agg #[.int .i64 (u0 : Int), .int .i64 (u1 : Int), .bool yy, .slice a1 n1 c1, .slice a4 i c4], .int .i64 (q2 : Int), .int .i64 0]) (by clear hW6 h7; simp [results, Tryd.results27, go_sem, y0, y1, y2, y3, y4]) rfl (ges_fin2 HR.out HN1.out HM2.out Q6.out.1 Q6.out.2 B7.out (by omega) (by omega))
      · have HR := Lib.hid (HG.out.trans (if_neg hk))
        have d6 : (chk ⟨u0, u1, yy, l1, l2.map unf⟩ != 0) = true := by simpa using hk
        clear HG hk
        generalize chk ⟨u0, u1, yy, l1, l2.map unf⟩ = ck at *
        have z0 : wr.cell? ⟨w.heap.size + 1, 0, none⟩ = some (.int .i64 (u0 : Int)) := cell_of R6.out 0
        have z1 : wr.cell? ⟨w.heap.size + 1, 1, none⟩ = some (.int .i64 (u1 : Int)) := cell_of R6.out 1
        have z2 : wr.cell? ⟨w.heap.size + 1, 2, none⟩ = some (.bool yy) := cell_of R6.out 2
        have z3 : wr.cell? ⟨w.heap.size + 1, 3, none⟩ = some (.slice a1 n1 c1) := cell_of R6.out 3
        have z4 : wr.cell? ⟨w.heap.size + 1, 4, none⟩ = some (.slice a4 i c4) := cell_of R6.out 4
        go_wp2_with fail
        refine (PC.out).mono ?_; rintro e w6 ⟨rfl, hb6⟩
        have B7 := Lib.hid (B6.out.trans (hb6.mono B6.out.size))
        have X7 := Lib.hid ((hb6.block _ (lt_of_block X6.out)).trans X6.out)
        have R7 := Lib.hid ((hb6.block _ (lt_of_block R6.out)).trans R6.out)
        have O7 := Lib.hid (And.intro (P6.out.below hb6) (O6.out.below hb6))
        clear hb6 PC z0 z1 z2 z3 z4 P6 O6 X6 R6
        have y0 : w6.cell? ⟨w.heap.size, 0, none⟩ = some (.int .i64 0) := cell_of X7.out 0
        have y1 : w6.cell? ⟨w.heap.size, 1, none⟩ = some (.int .i64 0) := cell_of X7.out 1
        have y2 : w6.cell? ⟨w.heap.size, 2, none⟩ = some (.bool false) := cell_of X7.out 2
        have y3 : w6.cell? ⟨w.heap.size, 3, none⟩ = some (.slice none 0 0) := cell_of X7.out 3
        have y4 : w6.cell? ⟨w.heap.size, 4, none⟩ = some (.slice none 0 0) := cell_of X7.out 4
        have qf : ∀ i, w6.frozen? ⟨w.heap.size, i, none⟩ = false := fun i => free_of X7.out i
        have z0 : w6.cell? ⟨w.heap.size + 1, 0, none⟩ = some (.int .i64 (u0 : Int)) := cell_of R7.out 0
        have z1 : w6.cell? ⟨w.heap.size + 1, 1, none⟩ = some (.int .i64 (u1 : Int)) := cell_of R7.out 1
        have z2 : w6.cell? ⟨w.heap.size + 1, 2, none⟩ = some (.bool yy) := cell_of R7.out 2
        have z3 : w6.cell? ⟨w.heap.size + 1, 3, none⟩ = some (.slice a1 n1 c1) := cell_of R7.out 3
        have z4 : w6.cell? ⟨w.heap.size + 1, 4, none⟩ = some (.slice a4 i c4) := cell_of R7.out 4
        go_wp2_with fail
        have h7 := set5 X7.out rfl (.int .i64 0) (.int .i64 0) (.bool false) (.slice none 0 0) (.slice none 0 0)
        have B7 := Lib.hid (below5 (x := w.heap.size) B7.out (Nat.le_refl _) (.int .i64 0) (.int .i64 0) (.bool false) (.slice none 0 0) (.slice none 0 0))
        clear y0 y1 y2 y3 y4 qf z0 z1 z2 z3 z4
        generalize hW6 : ((((w6.setCell ⟨w.heap.size, 0, none⟩ (.int .i64 0)).setCell ⟨w.heap.size, 1, none⟩ (.int .i64 0)).setCell ⟨w.heap.size, 2, none⟩ (.bool false)).setCell ⟨w.heap.size, 3, none⟩ (.slice none 0 0)).setCell ⟨w.heap.size, 4, none⟩ (.slice none 0 0) = W6 at *
        have y0 : W6.cell? ⟨w.heap.size, 0, none⟩ = some (.int .i64 0) := cell_of h7 0
        have y1 : W6.cell? ⟨w.heap.size, 1, none⟩ = some (.int .i64 0) := cell_of h7 1
        have y2 : W6.cell? ⟨w.heap.size, 2, none⟩ = some (.bool false) := cell_of h7 2
        have y3 : W6.cell? ⟨w.heap.size, 3, none⟩ = some (.slice none 0 0) := cell_of h7 3
        have y4 : W6.cell? ⟨w.heap.size, 4, none⟩ = some (.slice none 0 0) := cell_of h7 4
        exact bodyPost_ret (v := .tuple #[.agg #[.int .i64 0, .int .i64 0, .bool false, .slice none 0 0, .slice none 0 0], .int .i64 0, .int .i64 15]) (by clear hW6 h7; simp [results, Tryd.results27, go_sem, y0, y1, y2, y3, y4]) rfl (ges_bad HR.out B7.out)
theorem rget {w : World} {a : Option Addr} {n c : Nat} {b : List Nat} (h : IsK .u8 w a n c (ns b)) (hb : By b) (hn : n ≤ 1000000000) :
    Calls Tryd.prog 27 #[.slice a n c] w (GeS w (getR b)) := by
  by_cases hs : n < 3
  · exact rget_short h hb hn hs
  · have hs3 : 3 ≤ n := by omega
    by_cases hy : 1 < b.getD 2 0
    · exact rget_y h hb hn hs3 hy
    · cases hc : lst (b.drop 3) with
      | none => exact rget_c h hb hn hs3 hy hc
      | some p =>
        obtain ⟨l1, k1⟩ := p
        cases hd : lst (b.drop (3 + k1)) with
        | none => exact rget_d h hb hn hs3 hy hc hd
        | some q =>
          obtain ⟨l2, k2⟩ := q
          exact rget_e h hb hn hs3 hy hc hd
end Go.Proofs.YtlmdkcpiimpniaaDoor

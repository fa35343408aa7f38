/- Get of the program. -/
import Derived.Test.YtlmdkcpiimpniaaDoorXa
import Derived.Test.YtlmdkcpiimpniaaDoorVg
namespace Go.Proofs.YtlmdkcpiimpniaaDoor
open Go.ChangeShapes Go.WideShapes Go.ChangeAt Go.RowKit
set_option linter.unusedVariables false
set_option linter.unusedSimpArgs false

/-- What Get returns. -/
def GeS (w : World) (R : Option (Rp × Nat)) (e : Ending) (w' : World) : Prop :=
  ∃ a c a' c', e = .returned (.tuple #[.agg (rpV ((R.map (·.1)).getD r0) a c a' c'), .int .i64 (((R.map (·.2)).getD 0 : Nat) : Int), .int .i64 (if R.isSome = true then 0 else 15)]) ∧ LsR w' ((R.map (·.1)).getD r0) a c a' c' ∧ Below w.heap.size w w' ∧ (∀ y, a = some y → w.heap.size ≤ y.block) ∧ (∀ y, a' = some y → w.heap.size ≤ y.block)
theorem ges_bad {w w' : World} {R : Option (Rp × Nat)} (h : R = none) (hb : Below w.heap.size w w') : GeS w R (.returned (.tuple #[.agg #[.int .i64 0, .int .i64 0, .bool false, .slice none 0 0, .slice none 0 0], .int .i64 0, .int .i64 15])) w' := by
  subst h
  exact ⟨none, 0, none, 0, rfl, ⟨IsSl.nil _, IsSl.nil _⟩, hb, fun y h => (by cases h), fun y h => (by cases h)⟩
theorem ges_ok {w w' : World} {R : Option (Rp × Nat)} {r : Rp} {m : Nat} (h : R = some (r, m)) {a3 : Option Addr} {c3 : Nat} {a4 : Option Addr} {c4 : Nat} {B B' : Nat} (h3 : OutR 1 (encK .u64) 28 w' B (.slice a3 r.ids.length c3) (ns r.ids)) (h4 : OutR 1 (encK .i64) 2 w' B' (.slice a4 r.nums.length c4) r.nums) (hb : Below w.heap.size w w') (hB : w.heap.size ≤ B) (hB' : w.heap.size ≤ B') :
    GeS w R (.returned (.tuple #[.agg #[.int .i64 r.op, .int .i64 r.er, .bool r.yes, .slice a3 r.ids.length c3, .slice a4 r.nums.length c4], .int .i64 (m : Int), .int .i64 0])) w' := by
  subst h
  refine ⟨a3, c3, a4, c4, rfl, ⟨?_, ?_⟩, hb, fun y hy => Nat.le_trans hB (h3.blk _ (by rw [hy]; rfl)), fun y hy => Nat.le_trans hB' (h4.blk _ (by rw [hy]; rfl))⟩
  · exact IsSl.of_own (encK_len _) (by have := h3.row; rwa [ns_len] at this) (ns_len _)
  · exact IsSl.of_own (encK_len _) h4.row rfl
theorem ges_fin {w w' : World} {R : Option (Rp × Nat)} {u0 u1 k1 k2 : Nat} {yy : Bool} {l1 l2 : List Nat} {n1 n2 : Nat} (h : R = some (⟨u0, u1, yy, l1, l2.map unf⟩, 3 + k1 + k2)) (e1 : l1.length = n1) (e2 : l2.length = n2) {a3 : Option Addr} {c3 : Nat} {a4 : Option Addr} {c4 : Nat} {B B' : Nat} (h3 : OutR 1 (encK .u64) 28 w' B (.slice a3 n1 c3) (ns l1)) (h4 : OutR 1 (encK .i64) 2 w' B' (.slice a4 n2 c4) (l2.map unf)) (hb : Below w.heap.size w w') (hB : w.heap.size ≤ B) (hB' : w.heap.size ≤ B') :
    GeS w R (.returned (.tuple #[.agg #[.int .i64 (u0 : Int), .int .i64 (u1 : Int), .bool yy, .slice a3 n1 c3, .slice a4 n2 c4], .int .i64 (3 + (k1 : Int) + (k2 : Int)), .int .i64 0])) w' := by
  subst e1
  have e3 : n2 = (l2.map unf).length := by rw [List.length_map]; exact e2.symm
  subst e3
  have := ges_ok (r := ⟨u0, u1, yy, l1, l2.map unf⟩) h h3 h4 hb hB hB'
  have e : ((3 + k1 + k2 : Nat) : Int) = 3 + (k1 : Int) + (k2 : Int) := by omega
  rw [e] at this
  exact this
theorem get_short {b : List Nat} (h : b.length < 3) : getR b = none := by
  match b, h with
  | [], _ => rfl
  | [_], _ => rfl
  | [_, _], _ => rfl
  | _ :: _ :: _ :: _, h => simp at h; omega
theorem get_eq {b : List Nat} (h : 3 ≤ b.length) : getR b = if 1 < b.getD 2 0 then none else (lst (b.drop 3)).bind fun p => (lst ((b.drop 3).drop p.2)).bind fun q =>
      if chk ⟨(b.getD 0 0 : Nat), (b.getD 1 0 : Nat), b.getD 2 0 == 1, p.1, q.1.map unf⟩ = 0 then some (⟨(b.getD 0 0 : Nat), (b.getD 1 0 : Nat), b.getD 2 0 == 1, p.1, q.1.map unf⟩, 3 + p.2 + q.2) else none := by
  match b, h with
  | _ :: _ :: _ :: _, _ => rfl
theorem u8_at {w : World} {a : Option Addr} {n c : Nat} {b : List Nat} (h : IsK .u8 w a n c (ns b)) {i : Nat} (hi : i < b.length) : ∃ g off, a = some ⟨g, off, none⟩ ∧ w.cell? ⟨g, off + i, none⟩ = some (.int .u8 ((b.getD i 0 : Nat) : Int)) := by
  obtain ⟨g, off, rfl, _, hc⟩ := h.at_ (fun e => by rw [← ns_len, e] at hi; cases hi)
  refine ⟨g, off, rfl, ?_⟩
  have h1 := hc i (by rw [ns_len]; exact hi) 0 (by omega)
  simp only [Nat.mul_one, Nat.add_zero] at h1
  rw [h1]
  simp [encK, ns, hi]
set_option maxRecDepth 100000 in
set_option maxHeartbeats 8000000 in
theorem pget_short {w : World} (hE : Env w) {a : Option Addr} {n c : Nat} {b : List Nat} (h : IsK .u8 w a n c (ns b)) (hb : By b) (hn : n ≤ 1000000000) (hs : n < 3) :
    Calls Tryd.prog 16 #[.slice a n c] w (GeS w (getR b)) := by
  have A1 := Lib.hid (Below.alloc (Below.refl w.heap.size w) (Nat.le_refl _) (.cells #[.int .i64 0, .int .i64 0, .bool false, .slice none 0 0, .slice none 0 0] 27))
  have X1 := Lib.hid (block_new w (.cells #[.int .i64 0, .int .i64 0, .bool false, .slice none 0 0, .slice none 0 0] 27))
  have HNB := Lib.hid h.u8
  have HR := Lib.hid (get_short (b := b) (by rw [← HNB.out]; exact hs))
  generalize getR b = R at *
  have d1 : decide ((n : Int) < 3) = true := by simp; omega
  clear h hb hE
  have y0 : (w.alloc (.cells #[.int .i64 0, .int .i64 0, .bool false, .slice none 0 0, .slice none 0 0] 27)).cell? ⟨w.heap.size, 0, none⟩ = some (.int .i64 0) := cell_of X1.out 0
  have y1 : (w.alloc (.cells #[.int .i64 0, .int .i64 0, .bool false, .slice none 0 0, .slice none 0 0] 27)).cell? ⟨w.heap.size, 1, none⟩ = some (.int .i64 0) := cell_of X1.out 1
  have y2 : (w.alloc (.cells #[.int .i64 0, .int .i64 0, .bool false, .slice none 0 0, .slice none 0 0] 27)).cell? ⟨w.heap.size, 2, none⟩ = some (.bool false) := cell_of X1.out 2
  have y3 : (w.alloc (.cells #[.int .i64 0, .int .i64 0, .bool false, .slice none 0 0, .slice none 0 0] 27)).cell? ⟨w.heap.size, 3, none⟩ = some (.slice none 0 0) := cell_of X1.out 3
  have y4 : (w.alloc (.cells #[.int .i64 0, .int .i64 0, .bool false, .slice none 0 0, .slice none 0 0] 27)).cell? ⟨w.heap.size, 4, none⟩ = some (.slice none 0 0) := cell_of X1.out 4
  have qf : ∀ i, (w.alloc (.cells #[.int .i64 0, .int .i64 0, .bool false, .slice none 0 0, .slice none 0 0] 27)).frozen? ⟨w.heap.size, i, none⟩ = false := fun i => free_of X1.out i
  go_enter Tryd.func16, Tryd.ntmps16
  go_wp2_with fail
  have h7 := X1.out
  have B7 := Lib.hid A1.out
  clear y0 y1 y2 y3 y4 qf
  generalize hW6 : w.alloc (.cells #[.int .i64 0, .int .i64 0, .bool false, .slice none 0 0, .slice none 0 0] 27) = W6 at *
  have y0 : W6.cell? ⟨w.heap.size, 0, none⟩ = some (.int .i64 0) := cell_of h7 0
  have y1 : W6.cell? ⟨w.heap.size, 1, none⟩ = some (.int .i64 0) := cell_of h7 1
  have y2 : W6.cell? ⟨w.heap.size, 2, none⟩ = some (.bool false) := cell_of h7 2
  have y3 : W6.cell? ⟨w.heap.size, 3, none⟩ = some (.slice none 0 0) := cell_of h7 3
  have y4 : W6.cell? ⟨w.heap.size, 4, none⟩ = some (.slice none 0 0) := cell_of h7 4
  exact bodyPost_ret (v := .tuple #[.agg #[.int .i64 0, .int .i64 0, .bool false, .slice none 0 0, .slice none 0 0], .int .i64 0, .int .i64 15]) (by clear hW6 h7; simp [results, Tryd.results16, go_sem, y0, y1, y2, y3, y4]) rfl (ges_bad HR.out B7.out)
set_option maxRecDepth 100000 in
set_option maxHeartbeats 8000000 in
theorem pget_y {w : World} (hE : Env w) {a : Option Addr} {n c : Nat} {b : List Nat} (h : IsK .u8 w a n c (ns b)) (hb : By b) (hn : n ≤ 1000000000) (hs : 3 ≤ n) (hy : 1 < b.getD 2 0) :
    Calls Tryd.prog 16 #[.slice a n c] w (GeS w (getR b)) := by
  have A1 := Lib.hid (Below.alloc (Below.refl w.heap.size w) (Nat.le_refl _) (.cells #[.int .i64 0, .int .i64 0, .bool false, .slice none 0 0, .slice none 0 0] 27))
  have X1 := Lib.hid (block_new w (.cells #[.int .i64 0, .int .i64 0, .bool false, .slice none 0 0, .slice none 0 0] 27))
  have HNB := Lib.hid h.u8
  have hb3 : 3 ≤ b.length := by rw [← HNB.out]; exact hs
  obtain ⟨g, off, rfl, c0⟩ := u8_at h (i := 0) (by omega)
  obtain ⟨_, _, e, c1⟩ := u8_at h (i := 1) (by omega)
  cases e
  obtain ⟨_, _, e, c2⟩ := u8_at h (i := 2) (by omega)
  cases e
  rw [Nat.add_zero] at c0
  have hgl := lt_of_cell c0
  have hu0 : b.getD 0 0 < 256 := hb _ (by rw [List.getD_eq_getElem?_getD, List.getElem?_eq_getElem (by omega)]; exact List.getElem_mem (by omega))
  have hu1 : b.getD 1 0 < 256 := hb _ (by rw [List.getD_eq_getElem?_getD, List.getElem?_eq_getElem (by omega)]; exact List.getElem_mem (by omega))
  have HQ := Lib.hid (get_eq hb3)
  have d1 : decide ((n : Int) < 3) = false := by simp; omega
  have HR := Lib.hid (HQ.out.trans (if_pos hy))
  have d2 : decide (1 < ((b.getD 2 0 : Nat) : Int)) = true := decide_eq_true (by omega)
  have d3 : decide (1 < b.getD 2 0) = true := decide_eq_true hy
  generalize getR b = R at *
  generalize b.getD 2 0 = u2 at *
  generalize b.getD 1 0 = u1 at *
  generalize b.getD 0 0 = u0 at *
  clear h hb hE HQ hb3
  have y0 : (w.alloc (.cells #[.int .i64 0, .int .i64 0, .bool false, .slice none 0 0, .slice none 0 0] 27)).cell? ⟨w.heap.size, 0, none⟩ = some (.int .i64 0) := cell_of X1.out 0
  have y1 : (w.alloc (.cells #[.int .i64 0, .int .i64 0, .bool false, .slice none 0 0, .slice none 0 0] 27)).cell? ⟨w.heap.size, 1, none⟩ = some (.int .i64 0) := cell_of X1.out 1
  have y2 : (w.alloc (.cells #[.int .i64 0, .int .i64 0, .bool false, .slice none 0 0, .slice none 0 0] 27)).cell? ⟨w.heap.size, 2, none⟩ = some (.bool false) := cell_of X1.out 2
  have y3 : (w.alloc (.cells #[.int .i64 0, .int .i64 0, .bool false, .slice none 0 0, .slice none 0 0] 27)).cell? ⟨w.heap.size, 3, none⟩ = some (.slice none 0 0) := cell_of X1.out 3
  have y4 : (w.alloc (.cells #[.int .i64 0, .int .i64 0, .bool false, .slice none 0 0, .slice none 0 0] 27)).cell? ⟨w.heap.size, 4, none⟩ = some (.slice none 0 0) := cell_of X1.out 4
  have qf : ∀ i, (w.alloc (.cells #[.int .i64 0, .int .i64 0, .bool false, .slice none 0 0, .slice none 0 0] 27)).frozen? ⟨w.heap.size, i, none⟩ = false := fun i => free_of X1.out i
  go_enter Tryd.func16, Tryd.ntmps16
  go_wp2_with fail
  have h7 := X1.out
  have B7 := Lib.hid A1.out
  clear y0 y1 y2 y3 y4 qf
  generalize hW6 : w.alloc (.cells #[.int .i64 0, .int .i64 0, .bool false, .slice none 0 0, .slice none 0 0] 27) = W6 at *
  have y0 : W6.cell? ⟨w.heap.size, 0, none⟩ = some (.int .i64 0) := cell_of h7 0
  have y1 : W6.cell? ⟨w.heap.size, 1, none⟩ = some (.int .i64 0) := cell_of h7 1
  have y2 : W6.cell? ⟨w.heap.size, 2, none⟩ = some (.bool false) := cell_of h7 2
  have y3 : W6.cell? ⟨w.heap.size, 3, none⟩ = some (.slice none 0 0) := cell_of h7 3
  have y4 : W6.cell? ⟨w.heap.size, 4, none⟩ = some (.slice none 0 0) := cell_of h7 4
  exact bodyPost_ret (v := .tuple #[.agg #[.int .i64 0, .int .i64 0, .bool false, .slice none 0 0, .slice none 0 0], .int .i64 0, .int .i64 15]) (by clear hW6 h7; simp [results, Tryd.results16, go_sem, y0, y1, y2, y3, y4]) rfl (ges_bad HR.out B7.out)
set_option maxRecDepth 100000 in
set_option maxHeartbeats 8000000 in
theorem pget_c {w : World} (hE : Env w) {a : Option Addr} {n c : Nat} {b : List Nat} (h : IsK .u8 w a n c (ns b)) (hb : By b) (hn : n ≤ 1000000000) (hs : 3 ≤ n) (hy : ¬ 1 < b.getD 2 0) (hc : lst (b.drop 3) = none) :
    Calls Tryd.prog 16 #[.slice a n c] w (GeS w (getR b)) := by
  have A1 := Lib.hid (Below.alloc (Below.refl w.heap.size w) (Nat.le_refl _) (.cells #[.int .i64 0, .int .i64 0, .bool false, .slice none 0 0, .slice none 0 0] 27))
  have X1 := Lib.hid (block_new w (.cells #[.int .i64 0, .int .i64 0, .bool false, .slice none 0 0, .slice none 0 0] 27))
  have HNB := Lib.hid h.u8
  have hb3 : 3 ≤ b.length := by rw [← HNB.out]; exact hs
  obtain ⟨g, off, rfl, c0⟩ := u8_at h (i := 0) (by omega)
  obtain ⟨_, _, e, c1⟩ := u8_at h (i := 1) (by omega)
  cases e
  obtain ⟨_, _, e, c2⟩ := u8_at h (i := 2) (by omega)
  cases e
  rw [Nat.add_zero] at c0
  have hgl := lt_of_cell c0
  have hu0 : b.getD 0 0 < 256 := hb _ (by rw [List.getD_eq_getElem?_getD, List.getElem?_eq_getElem (by omega)]; exact List.getElem_mem (by omega))
  have hu1 : b.getD 1 0 < 256 := hb _ (by rw [List.getD_eq_getElem?_getD, List.getElem?_eq_getElem (by omega)]; exact List.getElem_mem (by omega))
  have HQ := Lib.hid (get_eq hb3)
  have d1 : decide ((n : Int) < 3) = false := by simp; omega
  have d2 : decide (1 < ((b.getD 2 0 : Nat) : Int)) = false := decide_eq_false (by omega)
  have d3 : decide (1 < b.getD 2 0) = false := decide_eq_false hy
  have hyc : b.getD 2 0 = 0 ∨ b.getD 2 0 = 1 := by omega
  have HQ2 := Lib.hid (HQ.out.trans (if_neg hy))
  clear HQ
  obtain ⟨yy, hyy⟩ : ∃ yy, yy = (b.getD 2 0 == 1) := ⟨_, rfl⟩
  rw [← hyy] at HQ2
  have e1 : (((b.getD 2 0 : Nat) : Int) == 1) = yy := by rw [hyy]; rcases hyc with e | e <;> rw [e] <;> rfl
  have HB := Lib.hid hb; have HH := Lib.hid h
  have hnc := h.hle
  generalize b.getD 2 0 = u2 at *
  generalize b.getD 1 0 = u1 at *
  generalize b.getD 0 0 = u0 at *
  have GU := Lib.hid (fun W (hbl : Below w.heap.size w W) => pgl_u (tail_u8 (h.below hbl) hs) (By.drop hb 3) (by omega))
  have SL : Hid (∀ m, m ≤ n → ∀ w, (Instr.slice 31 (.slice (some ⟨g, off, none⟩) n c) (some (.int .i64 ((m : Nat) : Int))) none none).run Tryd.prog w = .ok (.slice (part (some ⟨g, off, none⟩) m c 1) (n - m) (c - m)) w) := Lib.hid (fun m hm => run_from Tryd.underlying31 size5x (a := some ⟨g, off, none⟩) (len := n) (cap := c) (l := (m : Int)) (k := m) rfl hm)
  have hs3 := run_from Tryd.underlying31 size5x (a := some ⟨g, off, none⟩) (len := n) (cap := c) (l := 3) (k := 3) rfl hs
  generalize hpa : part (some ⟨g, off, none⟩) 3 c 1 = pa at *
  clear hyc hyy
  rw [hc] at GU
  have HR : Hid (getR b = none) := Lib.hid (by rw [HQ2.out, hc]; rfl)
  generalize getR b = R at *
  clear h hb hE HQ2 hb3 hc
  have A2 : Hid (Below w.heap.size w (((w.alloc (.cells #[.int .i64 0, .int .i64 0, .bool false, .slice none 0 0, .slice none 0 0] 27)).alloc (.cells #[.int .i64 (u0 : Int), .int .i64 (u1 : Int), .bool yy, .slice none 0 0, .slice none 0 0] 27)).drew)) := Lib.hid ((A1.out.alloc (by simp) _).drew)
  have X2 : Hid ((((w.alloc (.cells #[.int .i64 0, .int .i64 0, .bool false, .slice none 0 0, .slice none 0 0] 27)).alloc (.cells #[.int .i64 (u0 : Int), .int .i64 (u1 : Int), .bool yy, .slice none 0 0, .slice none 0 0] 27)).drew).heap[w.heap.size]? = some (.cells #[.int .i64 0, .int .i64 0, .bool false, .slice none 0 0, .slice none 0 0] 27 (0, 0))) := Lib.hid (block_drew (block_old X1.out _))
  have R2 : Hid ((((w.alloc (.cells #[.int .i64 0, .int .i64 0, .bool false, .slice none 0 0, .slice none 0 0] 27)).alloc (.cells #[.int .i64 (u0 : Int), .int .i64 (u1 : Int), .bool yy, .slice none 0 0, .slice none 0 0] 27)).drew).heap[w.heap.size + 1]? = some (.cells #[.int .i64 (u0 : Int), .int .i64 (u1 : Int), .bool yy, .slice none 0 0, .slice none 0 0] 27 (0, 0))) := Lib.hid (by
    have := block_new (w.alloc (.cells #[.int .i64 0, .int .i64 0, .bool false, .slice none 0 0, .slice none 0 0] 27)) (.cells #[.int .i64 (u0 : Int), .int .i64 (u1 : Int), .bool yy, .slice none 0 0, .slice none 0 0] 27)
    rw [show (w.alloc (.cells #[.int .i64 0, .int .i64 0, .bool false, .slice none 0 0, .slice none 0 0] 27)).heap.size = w.heap.size + 1 by simp] at this
    exact block_drew this)
  have h2 : (((w.alloc (.cells #[.int .i64 0, .int .i64 0, .bool false, .slice none 0 0, .slice none 0 0] 27)).alloc (.cells #[.int .i64 (u0 : Int), .int .i64 (u1 : Int), .bool yy, .slice none 0 0, .slice none 0 0] 27)).drew).heap.size = w.heap.size + 2 := by simp
  have Q1 := Lib.hid (GU.out (((w.alloc (.cells #[.int .i64 0, .int .i64 0, .bool false, .slice none 0 0, .slice none 0 0] 27)).alloc (.cells #[.int .i64 (u0 : Int), .int .i64 (u1 : Int), .bool yy, .slice none 0 0, .slice none 0 0] 27)).drew) A2.out)
  obtain ⟨WS, hWS⟩ : ∃ WS, WS = (((w.alloc (.cells #[.int .i64 0, .int .i64 0, .bool false, .slice none 0 0, .slice none 0 0] 27)).alloc (.cells #[.int .i64 (u0 : Int), .int .i64 (u1 : Int), .bool yy, .slice none 0 0, .slice none 0 0] 27)).drew) := ⟨_, rfl⟩
  rw [← hWS] at A2 X2 R2 h2 Q1
  have y0 : (w.alloc (.cells #[.int .i64 0, .int .i64 0, .bool false, .slice none 0 0, .slice none 0 0] 27)).cell? ⟨w.heap.size, 0, none⟩ = some (.int .i64 0) := cell_of X1.out 0
  have y1 : (w.alloc (.cells #[.int .i64 0, .int .i64 0, .bool false, .slice none 0 0, .slice none 0 0] 27)).cell? ⟨w.heap.size, 1, none⟩ = some (.int .i64 0) := cell_of X1.out 1
  have y2 : (w.alloc (.cells #[.int .i64 0, .int .i64 0, .bool false, .slice none 0 0, .slice none 0 0] 27)).cell? ⟨w.heap.size, 2, none⟩ = some (.bool false) := cell_of X1.out 2
  have y3 : (w.alloc (.cells #[.int .i64 0, .int .i64 0, .bool false, .slice none 0 0, .slice none 0 0] 27)).cell? ⟨w.heap.size, 3, none⟩ = some (.slice none 0 0) := cell_of X1.out 3
  have y4 : (w.alloc (.cells #[.int .i64 0, .int .i64 0, .bool false, .slice none 0 0, .slice none 0 0] 27)).cell? ⟨w.heap.size, 4, none⟩ = some (.slice none 0 0) := cell_of X1.out 4
  have qf : ∀ i, (w.alloc (.cells #[.int .i64 0, .int .i64 0, .bool false, .slice none 0 0, .slice none 0 0] 27)).frozen? ⟨w.heap.size, i, none⟩ = false := fun i => free_of X1.out i
  go_enter Tryd.func16, Tryd.ntmps16
  go_wp2_with fail
  go_region
  go_wp2_with fail
  rw [← hWS]
  clear y0 y1 y2 y3 y4 qf
  refine (Q1.out).mono ?_; rintro e w3 ⟨hb3, hn3, _⟩
  have hn4 := hn3 rfl
  subst hn4
  have B3 := Lib.hid (A2.out.trans (hb3.mono A2.out.size))
  have X3 := Lib.hid ((hb3.block _ (lt_of_block X2.out)).trans X2.out)
  clear hb3 hn3 Q1 GU
  have y0 : w3.cell? ⟨w.heap.size, 0, none⟩ = some (.int .i64 0) := cell_of X3.out 0
  have y1 : w3.cell? ⟨w.heap.size, 1, none⟩ = some (.int .i64 0) := cell_of X3.out 1
  have y2 : w3.cell? ⟨w.heap.size, 2, none⟩ = some (.bool false) := cell_of X3.out 2
  have y3 : w3.cell? ⟨w.heap.size, 3, none⟩ = some (.slice none 0 0) := cell_of X3.out 3
  have y4 : w3.cell? ⟨w.heap.size, 4, none⟩ = some (.slice none 0 0) := cell_of X3.out 4
  have qf : ∀ i, w3.frozen? ⟨w.heap.size, i, none⟩ = false := fun i => free_of X3.out i
  go_wp2_with fail
  have h7 := set5 X3.out rfl (.int .i64 0) (.int .i64 0) (.bool false) (.slice none 0 0) (.slice none 0 0)
  have B7 := Lib.hid (below5 (x := w.heap.size) B3.out (Nat.le_refl _) (.int .i64 0) (.int .i64 0) (.bool false) (.slice none 0 0) (.slice none 0 0))
  clear y0 y1 y2 y3 y4 qf
  generalize hW6 : ((((w3.setCell ⟨w.heap.size, 0, none⟩ (.int .i64 0)).setCell ⟨w.heap.size, 1, none⟩ (.int .i64 0)).setCell ⟨w.heap.size, 2, none⟩ (.bool false)).setCell ⟨w.heap.size, 3, none⟩ (.slice none 0 0)).setCell ⟨w.heap.size, 4, none⟩ (.slice none 0 0) = W6 at *
  have y0 : W6.cell? ⟨w.heap.size, 0, none⟩ = some (.int .i64 0) := cell_of h7 0
  have y1 : W6.cell? ⟨w.heap.size, 1, none⟩ = some (.int .i64 0) := cell_of h7 1
  have y2 : W6.cell? ⟨w.heap.size, 2, none⟩ = some (.bool false) := cell_of h7 2
  have y3 : W6.cell? ⟨w.heap.size, 3, none⟩ = some (.slice none 0 0) := cell_of h7 3
  have y4 : W6.cell? ⟨w.heap.size, 4, none⟩ = some (.slice none 0 0) := cell_of h7 4
  exact bodyPost_ret (v := .tuple #[.agg #[.int .i64 0, .int .i64 0, .bool false, .slice none 0 0, .slice none 0 0], .int .i64 0, .int .i64 15]) (by clear hW6 h7; simp [results, Tryd.results16, go_sem, y0, y1, y2, y3, y4]) rfl (ges_bad HR.out B7.out)

theorem lst_le {b l : List Nat} {t : Nat} (hb : ∀ c ∈ b, c < 256) (h : lst b = some (l, t)) : t ≤ b.length := by
  obtain ⟨_, _, h3, h4⟩ := lst_inv hb h
  have := congrArg List.length h4
  rw [List.length_append, ← h3] at this
  omega
set_option maxRecDepth 100000 in
set_option maxHeartbeats 8000000 in
theorem pget_d {w : World} (hE : Env w) {a : Option Addr} {n c : Nat} {b : List Nat} (h : IsK .u8 w a n c (ns b)) (hb : By b) (hn : n ≤ 1000000000) (hs : 3 ≤ n) (hy : ¬ 1 < b.getD 2 0) {l1 : List Nat} {k1 : Nat} (hc : lst (b.drop 3) = some (l1, k1)) (hd : lst (b.drop (3 + k1)) = none) :
    Calls Tryd.prog 16 #[.slice a n c] w (GeS w (getR b)) := by
  have A1 := Lib.hid (Below.alloc (Below.refl w.heap.size w) (Nat.le_refl _) (.cells #[.int .i64 0, .int .i64 0, .bool false, .slice none 0 0, .slice none 0 0] 27))
  have X1 := Lib.hid (block_new w (.cells #[.int .i64 0, .int .i64 0, .bool false, .slice none 0 0, .slice none 0 0] 27))
  have HNB := Lib.hid h.u8
  have hb3 : 3 ≤ b.length := by rw [← HNB.out]; exact hs
  obtain ⟨g, off, rfl, c0⟩ := u8_at h (i := 0) (by omega)
  obtain ⟨_, _, e, c1⟩ := u8_at h (i := 1) (by omega)
  cases e
  obtain ⟨_, _, e, c2⟩ := u8_at h (i := 2) (by omega)
  cases e
  rw [Nat.add_zero] at c0
  have hgl := lt_of_cell c0
  have hu0 : b.getD 0 0 < 256 := hb _ (by rw [List.getD_eq_getElem?_getD, List.getElem?_eq_getElem (by omega)]; exact List.getElem_mem (by omega))
  have hu1 : b.getD 1 0 < 256 := hb _ (by rw [List.getD_eq_getElem?_getD, List.getElem?_eq_getElem (by omega)]; exact List.getElem_mem (by omega))
  have HQ := Lib.hid (get_eq hb3)
  have d1 : decide ((n : Int) < 3) = false := by simp; omega
  have d2 : decide (1 < ((b.getD 2 0 : Nat) : Int)) = false := decide_eq_false (by omega)
  have d3 : decide (1 < b.getD 2 0) = false := decide_eq_false hy
  have hyc : b.getD 2 0 = 0 ∨ b.getD 2 0 = 1 := by omega
  have HQ2 := Lib.hid (HQ.out.trans (if_neg hy))
  clear HQ
  obtain ⟨yy, hyy⟩ : ∃ yy, yy = (b.getD 2 0 == 1) := ⟨_, rfl⟩
  rw [← hyy] at HQ2
  have e1 : (((b.getD 2 0 : Nat) : Int) == 1) = yy := by rw [hyy]; rcases hyc with e | e <;> rw [e] <;> rfl
  have HB := Lib.hid hb; have HH := Lib.hid h
  have hnc := h.hle
  generalize b.getD 2 0 = u2 at *
  generalize b.getD 1 0 = u1 at *
  generalize b.getD 0 0 = u0 at *
  have GU := Lib.hid (fun W (hbl : Below w.heap.size w W) => pgl_u (tail_u8 (h.below hbl) hs) (By.drop hb 3) (by omega))
  have SL : Hid (∀ m, m ≤ n → ∀ w, (Instr.slice 31 (.slice (some ⟨g, off, none⟩) n c) (some (.int .i64 ((m : Nat) : Int))) none none).run Tryd.prog w = .ok (.slice (part (some ⟨g, off, none⟩) m c 1) (n - m) (c - m)) w) := Lib.hid (fun m hm => run_from Tryd.underlying31 size5x (a := some ⟨g, off, none⟩) (len := n) (cap := c) (l := (m : Int)) (k := m) rfl hm)
  have hs3 := run_from Tryd.underlying31 size5x (a := some ⟨g, off, none⟩) (len := n) (cap := c) (l := 3) (k := 3) rfl hs
  generalize hpa : part (some ⟨g, off, none⟩) 3 c 1 = pa at *
  clear hyc hyy
  rw [hc] at GU
  have hk1 : k1 ≤ (b.drop 3).length := lst_le (By.drop hb 3) hc
  rw [List.length_drop, ← HNB.out] at hk1
  have hk3 : 3 + k1 ≤ n := by omega
  have GI := Lib.hid (fun W (hbl : Below w.heap.size w W) => pgl_i (tail_u8 (HH.out.below hbl) hk3) (By.drop hb (3 + k1)) (by omega))
  have hs4 := run_from Tryd.underlying31 size5x (a := some ⟨g, off, none⟩) (len := n) (cap := c) (l := 3 + (k1 : Int)) (k := 3 + k1) (by omega) hk3
  generalize hpb : part (some ⟨g, off, none⟩) (3 + k1) c 1 = pb at *
  have ed : (b.drop 3).drop k1 = b.drop (3 + k1) := by rw [List.drop_drop]
  rw [hd] at GI
  have HR : Hid (getR b = none) := Lib.hid (by
    rw [HQ2.out, hc]
    show (lst ((b.drop 3).drop k1)).bind _ = none
    rw [ed, hd]; rfl)
  generalize getR b = R at *
  obtain ⟨n1, hn1⟩ : ∃ n1, l1.length = n1 := ⟨_, rfl⟩
  have HN1 := Lib.hid hn1
  clear h hb hE HQ2 hb3 hc hd ed HB HH hn1
  have A2 : Hid (Below w.heap.size w (((w.alloc (.cells #[.int .i64 0, .int .i64 0, .bool false, .slice none 0 0, .slice none 0 0] 27)).alloc (.cells #[.int .i64 (u0 : Int), .int .i64 (u1 : Int), .bool yy, .slice none 0 0, .slice none 0 0] 27)).drew)) := Lib.hid ((A1.out.alloc (by simp) _).drew)
  have X2 : Hid ((((w.alloc (.cells #[.int .i64 0, .int .i64 0, .bool false, .slice none 0 0, .slice none 0 0] 27)).alloc (.cells #[.int .i64 (u0 : Int), .int .i64 (u1 : Int), .bool yy, .slice none 0 0, .slice none 0 0] 27)).drew).heap[w.heap.size]? = some (.cells #[.int .i64 0, .int .i64 0, .bool false, .slice none 0 0, .slice none 0 0] 27 (0, 0))) := Lib.hid (block_drew (block_old X1.out _))
  have R2 : Hid ((((w.alloc (.cells #[.int .i64 0, .int .i64 0, .bool false, .slice none 0 0, .slice none 0 0] 27)).alloc (.cells #[.int .i64 (u0 : Int), .int .i64 (u1 : Int), .bool yy, .slice none 0 0, .slice none 0 0] 27)).drew).heap[w.heap.size + 1]? = some (.cells #[.int .i64 (u0 : Int), .int .i64 (u1 : Int), .bool yy, .slice none 0 0, .slice none 0 0] 27 (0, 0))) := Lib.hid (by
    have := block_new (w.alloc (.cells #[.int .i64 0, .int .i64 0, .bool false, .slice none 0 0, .slice none 0 0] 27)) (.cells #[.int .i64 (u0 : Int), .int .i64 (u1 : Int), .bool yy, .slice none 0 0, .slice none 0 0] 27)
    rw [show (w.alloc (.cells #[.int .i64 0, .int .i64 0, .bool false, .slice none 0 0, .slice none 0 0] 27)).heap.size = w.heap.size + 1 by simp] at this
    exact block_drew this)
  have h2 : (((w.alloc (.cells #[.int .i64 0, .int .i64 0, .bool false, .slice none 0 0, .slice none 0 0] 27)).alloc (.cells #[.int .i64 (u0 : Int), .int .i64 (u1 : Int), .bool yy, .slice none 0 0, .slice none 0 0] 27)).drew).heap.size = w.heap.size + 2 := by simp
  have Q1 := Lib.hid (GU.out (((w.alloc (.cells #[.int .i64 0, .int .i64 0, .bool false, .slice none 0 0, .slice none 0 0] 27)).alloc (.cells #[.int .i64 (u0 : Int), .int .i64 (u1 : Int), .bool yy, .slice none 0 0, .slice none 0 0] 27)).drew) A2.out)
  obtain ⟨WS, hWS⟩ : ∃ WS, WS = (((w.alloc (.cells #[.int .i64 0, .int .i64 0, .bool false, .slice none 0 0, .slice none 0 0] 27)).alloc (.cells #[.int .i64 (u0 : Int), .int .i64 (u1 : Int), .bool yy, .slice none 0 0, .slice none 0 0] 27)).drew) := ⟨_, rfl⟩
  rw [← hWS] at A2 X2 R2 h2 Q1
  have y0 : (w.alloc (.cells #[.int .i64 0, .int .i64 0, .bool false, .slice none 0 0, .slice none 0 0] 27)).cell? ⟨w.heap.size, 0, none⟩ = some (.int .i64 0) := cell_of X1.out 0
  have y1 : (w.alloc (.cells #[.int .i64 0, .int .i64 0, .bool false, .slice none 0 0, .slice none 0 0] 27)).cell? ⟨w.heap.size, 1, none⟩ = some (.int .i64 0) := cell_of X1.out 1
  have y2 : (w.alloc (.cells #[.int .i64 0, .int .i64 0, .bool false, .slice none 0 0, .slice none 0 0] 27)).cell? ⟨w.heap.size, 2, none⟩ = some (.bool false) := cell_of X1.out 2
  have y3 : (w.alloc (.cells #[.int .i64 0, .int .i64 0, .bool false, .slice none 0 0, .slice none 0 0] 27)).cell? ⟨w.heap.size, 3, none⟩ = some (.slice none 0 0) := cell_of X1.out 3
  have y4 : (w.alloc (.cells #[.int .i64 0, .int .i64 0, .bool false, .slice none 0 0, .slice none 0 0] 27)).cell? ⟨w.heap.size, 4, none⟩ = some (.slice none 0 0) := cell_of X1.out 4
  have qf : ∀ i, (w.alloc (.cells #[.int .i64 0, .int .i64 0, .bool false, .slice none 0 0, .slice none 0 0] 27)).frozen? ⟨w.heap.size, i, none⟩ = false := fun i => free_of X1.out i
  go_enter Tryd.func16, Tryd.ntmps16
  go_wp2_with fail
  go_region
  go_wp2_with fail
  rw [← hWS]
  clear y0 y1 y2 y3 y4 qf
  refine (Q1.out).mono ?_; rintro e w3 ⟨hb3, _, hn3⟩
  obtain ⟨a1, c1, rfl, o1⟩ := hn3 _ _ rfl
  have B3 := Lib.hid (A2.out.trans (hb3.mono A2.out.size))
  have X3 := Lib.hid ((hb3.block _ (lt_of_block X2.out)).trans X2.out)
  have R3 := Lib.hid ((hb3.block _ (lt_of_block R2.out)).trans R2.out)
  have g1 : w.heap.size + 2 ≤ w3.heap.size := by have := hb3.size; rw [h2] at this; exact this
  rw [h2] at o1
  have O1 := Lib.hid o1
  have Q2 := Lib.hid (GI.out w3 B3.out)
  clear hb3 hn3 Q1 GU o1 GI
  go_wp2_with fail
  refine (Q2.out).mono ?_; rintro e w4 ⟨hb4, hn4, _⟩
  have hn5 := hn4 rfl
  subst hn5
  have B4 := Lib.hid (B3.out.trans (hb4.mono B3.out.size))
  have X4 := Lib.hid ((hb4.block _ (lt_of_block X3.out)).trans X3.out)
  clear hb4 hn4 Q2 O1
  have y0 : w4.cell? ⟨w.heap.size, 0, none⟩ = some (.int .i64 0) := cell_of X4.out 0
  have y1 : w4.cell? ⟨w.heap.size, 1, none⟩ = some (.int .i64 0) := cell_of X4.out 1
  have y2 : w4.cell? ⟨w.heap.size, 2, none⟩ = some (.bool false) := cell_of X4.out 2
  have y3 : w4.cell? ⟨w.heap.size, 3, none⟩ = some (.slice none 0 0) := cell_of X4.out 3
  have y4 : w4.cell? ⟨w.heap.size, 4, none⟩ = some (.slice none 0 0) := cell_of X4.out 4
  have qf : ∀ i, w4.frozen? ⟨w.heap.size, i, none⟩ = false := fun i => free_of X4.out i
  go_wp2_with fail
  have h7 := set5 X4.out rfl (.int .i64 0) (.int .i64 0) (.bool false) (.slice none 0 0) (.slice none 0 0)
  have B7 := Lib.hid (below5 (x := w.heap.size) B4.out (Nat.le_refl _) (.int .i64 0) (.int .i64 0) (.bool false) (.slice none 0 0) (.slice none 0 0))
  clear y0 y1 y2 y3 y4 qf
  generalize hW6 : ((((w4.setCell ⟨w.heap.size, 0, none⟩ (.int .i64 0)).setCell ⟨w.heap.size, 1, none⟩ (.int .i64 0)).setCell ⟨w.heap.size, 2, none⟩ (.bool false)).setCell ⟨w.heap.size, 3, none⟩ (.slice none 0 0)).setCell ⟨w.heap.size, 4, none⟩ (.slice none 0 0) = W6 at *
  have y0 : W6.cell? ⟨w.heap.size, 0, none⟩ = some (.int .i64 0) := cell_of h7 0
  have y1 : W6.cell? ⟨w.heap.size, 1, none⟩ = some (.int .i64 0) := cell_of h7 1
  have y2 : W6.cell? ⟨w.heap.size, 2, none⟩ = some (.bool false) := cell_of h7 2
  have y3 : W6.cell? ⟨w.heap.size, 3, none⟩ = some (.slice none 0 0) := cell_of h7 3
  have y4 : W6.cell? ⟨w.heap.size, 4, none⟩ = some (.slice none 0 0) := cell_of h7 4
  exact bodyPost_ret (v := .tuple #[.agg #[.int .i64 0, .int .i64 0, .bool false, .slice none 0 0, .slice none 0 0], .int .i64 0, .int .i64 15]) (by clear hW6 h7; simp [results, Tryd.results16, go_sem, y0, y1, y2, y3, y4]) rfl (ges_bad HR.out B7.out)

set_option maxRecDepth 100000 in
set_option maxHeartbeats 8000000 in
theorem pget_e {w : World} (hE : Env w) {a : Option Addr} {n c : Nat} {b : List Nat} (h : IsK .u8 w a n c (ns b)) (hb : By b) (hn : n ≤ 1000000000) (hs : 3 ≤ n) (hy : ¬ 1 < b.getD 2 0) {l1 l2 : List Nat} {k1 k2 : Nat} (hc : lst (b.drop 3) = some (l1, k1)) (hd : lst (b.drop (3 + k1)) = some (l2, k2)) :
    Calls Tryd.prog 16 #[.slice a n c] w (GeS w (getR b)) := by
  have A1 := Lib.hid (Below.alloc (Below.refl w.heap.size w) (Nat.le_refl _) (.cells #[.int .i64 0, .int .i64 0, .bool false, .slice none 0 0, .slice none 0 0] 27))
  have X1 := Lib.hid (block_new w (.cells #[.int .i64 0, .int .i64 0, .bool false, .slice none 0 0, .slice none 0 0] 27))
  have HNB := Lib.hid h.u8
  have hb3 : 3 ≤ b.length := by rw [← HNB.out]; exact hs
  obtain ⟨g, off, rfl, c0⟩ := u8_at h (i := 0) (by omega)
  obtain ⟨_, _, e, c1⟩ := u8_at h (i := 1) (by omega)
  cases e
  obtain ⟨_, _, e, c2⟩ := u8_at h (i := 2) (by omega)
  cases e
  rw [Nat.add_zero] at c0
  have hgl := lt_of_cell c0
  have hu0 : b.getD 0 0 < 256 := hb _ (by rw [List.getD_eq_getElem?_getD, List.getElem?_eq_getElem (by omega)]; exact List.getElem_mem (by omega))
  have hu1 : b.getD 1 0 < 256 := hb _ (by rw [List.getD_eq_getElem?_getD, List.getElem?_eq_getElem (by omega)]; exact List.getElem_mem (by omega))
  have HQ := Lib.hid (get_eq hb3)
  have d1 : decide ((n : Int) < 3) = false := by simp; omega
  have d2 : decide (1 < ((b.getD 2 0 : Nat) : Int)) = false := decide_eq_false (by omega)
  have d3 : decide (1 < b.getD 2 0) = false := decide_eq_false hy
  have hyc : b.getD 2 0 = 0 ∨ b.getD 2 0 = 1 := by omega
  have HQ2 := Lib.hid (HQ.out.trans (if_neg hy))
  clear HQ
  obtain ⟨yy, hyy⟩ : ∃ yy, yy = (b.getD 2 0 == 1) := ⟨_, rfl⟩
  rw [← hyy] at HQ2
  have e1 : (((b.getD 2 0 : Nat) : Int) == 1) = yy := by rw [hyy]; rcases hyc with e | e <;> rw [e] <;> rfl
  have HB := Lib.hid hb; have HH := Lib.hid h
  have hnc := h.hle
  generalize b.getD 2 0 = u2 at *
  generalize b.getD 1 0 = u1 at *
  generalize b.getD 0 0 = u0 at *
  have GU := Lib.hid (fun W (hbl : Below w.heap.size w W) => pgl_u (tail_u8 (h.below hbl) hs) (By.drop hb 3) (by omega))
  have SL : Hid (∀ m, m ≤ n → ∀ w, (Instr.slice 31 (.slice (some ⟨g, off, none⟩) n c) (some (.int .i64 ((m : Nat) : Int))) none none).run Tryd.prog w = .ok (.slice (part (some ⟨g, off, none⟩) m c 1) (n - m) (c - m)) w) := Lib.hid (fun m hm => run_from Tryd.underlying31 size5x (a := some ⟨g, off, none⟩) (len := n) (cap := c) (l := (m : Int)) (k := m) rfl hm)
  have hs3 := run_from Tryd.underlying31 size5x (a := some ⟨g, off, none⟩) (len := n) (cap := c) (l := 3) (k := 3) rfl hs
  generalize hpa : part (some ⟨g, off, none⟩) 3 c 1 = pa at *
  clear hyc hyy
  rw [hc] at GU
  have hk1 : k1 ≤ (b.drop 3).length := lst_le (By.drop hb 3) hc
  rw [List.length_drop, ← HNB.out] at hk1
  have hk3 : 3 + k1 ≤ n := by omega
  have GI := Lib.hid (fun W (hbl : Below w.heap.size w W) => pgl_i (tail_u8 (HH.out.below hbl) hk3) (By.drop hb (3 + k1)) (by omega))
  have hs4 := run_from Tryd.underlying31 size5x (a := some ⟨g, off, none⟩) (len := n) (cap := c) (l := 3 + (k1 : Int)) (k := 3 + k1) (by omega) hk3
  generalize hpb : part (some ⟨g, off, none⟩) (3 + k1) c 1 = pb at *
  have ed : (b.drop 3).drop k1 = b.drop (3 + k1) := by rw [List.drop_drop]
  rw [hd] at GI
  obtain ⟨n1, hn1⟩ : ∃ n1, l1.length = n1 := ⟨_, rfl⟩
  obtain ⟨n2, hn2⟩ : ∃ n2, l2.length = n2 := ⟨_, rfl⟩
  have HN1 := Lib.hid hn1; have HN2 := Lib.hid hn2
  have hk2 : k2 ≤ (b.drop (3 + k1)).length := lst_le (By.drop hb (3 + k1)) hd
  rw [List.length_drop, ← HNB.out] at hk2
  have hll1 := (lst_inv (By.drop hb 3) hc).1
  have hll2 := (lst_inv (By.drop hb (3 + k1)) hd).1
  have PK : Hid (∀ W, Below w.heap.size w W → ∀ a c a' c', Calls Tryd.prog 14 #[.agg #[.int .i64 (u0 : Int), .int .i64 (u1 : Int), .bool yy, .slice a n1 c, .slice a' n2 c']] W fun e w' => e = .returned (.int .i64 (chk ⟨u0, u1, yy, l1, l2.map unf⟩)) ∧ Below W.heap.size W w') := Lib.hid (fun W hbl a c a' c' => by
    have := pcheck (hE.below hbl) ⟨u0, u1, yy, l1, l2.map unf⟩ a c a' c' (by simp only; omega) (by simp only [List.length_map]; omega)
    unfold rpV at this
    simp only [List.length_map, hn1, hn2] at this
    exact this)
  have HG : Hid (getR b = if chk ⟨u0, u1, yy, l1, l2.map unf⟩ = 0 then some (⟨u0, u1, yy, l1, l2.map unf⟩, 3 + k1 + k2) else none) := Lib.hid (by
    rw [HQ2.out, hc]
    show (lst ((b.drop 3).drop k1)).bind _ = _
    rw [ed, hd]; rfl)
  generalize getR b = R at *
  clear h hb hE HQ2 hb3 hc hd ed HB HH hn1 hn2 hll1 hll2
  have A2 : Hid (Below w.heap.size w (((w.alloc (.cells #[.int .i64 0, .int .i64 0, .bool false, .slice none 0 0, .slice none 0 0] 27)).alloc (.cells #[.int .i64 (u0 : Int), .int .i64 (u1 : Int), .bool yy, .slice none 0 0, .slice none 0 0] 27)).drew)) := Lib.hid ((A1.out.alloc (by simp) _).drew)
  have X2 : Hid ((((w.alloc (.cells #[.int .i64 0, .int .i64 0, .bool false, .slice none 0 0, .slice none 0 0] 27)).alloc (.cells #[.int .i64 (u0 : Int), .int .i64 (u1 : Int), .bool yy, .slice none 0 0, .slice none 0 0] 27)).drew).heap[w.heap.size]? = some (.cells #[.int .i64 0, .int .i64 0, .bool false, .slice none 0 0, .slice none 0 0] 27 (0, 0))) := Lib.hid (block_drew (block_old X1.out _))
  have R2 : Hid ((((w.alloc (.cells #[.int .i64 0, .int .i64 0, .bool false, .slice none 0 0, .slice none 0 0] 27)).alloc (.cells #[.int .i64 (u0 : Int), .int .i64 (u1 : Int), .bool yy, .slice none 0 0, .slice none 0 0] 27)).drew).heap[w.heap.size + 1]? = some (.cells #[.int .i64 (u0 : Int), .int .i64 (u1 : Int), .bool yy, .slice none 0 0, .slice none 0 0] 27 (0, 0))) := Lib.hid (by
    have := block_new (w.alloc (.cells #[.int .i64 0, .int .i64 0, .bool false, .slice none 0 0, .slice none 0 0] 27)) (.cells #[.int .i64 (u0 : Int), .int .i64 (u1 : Int), .bool yy, .slice none 0 0, .slice none 0 0] 27)
    rw [show (w.alloc (.cells #[.int .i64 0, .int .i64 0, .bool false, .slice none 0 0, .slice none 0 0] 27)).heap.size = w.heap.size + 1 by simp] at this
    exact block_drew this)
  have h2 : (((w.alloc (.cells #[.int .i64 0, .int .i64 0, .bool false, .slice none 0 0, .slice none 0 0] 27)).alloc (.cells #[.int .i64 (u0 : Int), .int .i64 (u1 : Int), .bool yy, .slice none 0 0, .slice none 0 0] 27)).drew).heap.size = w.heap.size + 2 := by simp
  have Q1 := Lib.hid (GU.out (((w.alloc (.cells #[.int .i64 0, .int .i64 0, .bool false, .slice none 0 0, .slice none 0 0] 27)).alloc (.cells #[.int .i64 (u0 : Int), .int .i64 (u1 : Int), .bool yy, .slice none 0 0, .slice none 0 0] 27)).drew) A2.out)
  obtain ⟨WS, hWS⟩ : ∃ WS, WS = (((w.alloc (.cells #[.int .i64 0, .int .i64 0, .bool false, .slice none 0 0, .slice none 0 0] 27)).alloc (.cells #[.int .i64 (u0 : Int), .int .i64 (u1 : Int), .bool yy, .slice none 0 0, .slice none 0 0] 27)).drew) := ⟨_, rfl⟩
  rw [← hWS] at A2 X2 R2 h2 Q1
  by_cases hk : chk ⟨u0, u1, yy, l1, l2.map unf⟩ = 0
  · have HR := Lib.hid (HG.out.trans (if_pos hk))
    rw [hk] at PK
    clear HG hk
    have y0 : (w.alloc (.cells #[.int .i64 0, .int .i64 0, .bool false, .slice none 0 0, .slice none 0 0] 27)).cell? ⟨w.heap.size, 0, none⟩ = some (.int .i64 0) := cell_of X1.out 0
    have y1 : (w.alloc (.cells #[.int .i64 0, .int .i64 0, .bool false, .slice none 0 0, .slice none 0 0] 27)).cell? ⟨w.heap.size, 1, none⟩ = some (.int .i64 0) := cell_of X1.out 1
    have y2 : (w.alloc (.cells #[.int .i64 0, .int .i64 0, .bool false, .slice none 0 0, .slice none 0 0] 27)).cell? ⟨w.heap.size, 2, none⟩ = some (.bool false) := cell_of X1.out 2
    have y3 : (w.alloc (.cells #[.int .i64 0, .int .i64 0, .bool false, .slice none 0 0, .slice none 0 0] 27)).cell? ⟨w.heap.size, 3, none⟩ = some (.slice none 0 0) := cell_of X1.out 3
    have y4 : (w.alloc (.cells #[.int .i64 0, .int .i64 0, .bool false, .slice none 0 0, .slice none 0 0] 27)).cell? ⟨w.heap.size, 4, none⟩ = some (.slice none 0 0) := cell_of X1.out 4
    have qf : ∀ i, (w.alloc (.cells #[.int .i64 0, .int .i64 0, .bool false, .slice none 0 0, .slice none 0 0] 27)).frozen? ⟨w.heap.size, i, none⟩ = false := fun i => free_of X1.out i
    go_enter Tryd.func16, Tryd.ntmps16
    go_wp2_with fail
    go_region
    go_wp2_with fail
    rw [← hWS]
    clear y0 y1 y2 y3 y4 qf
    refine (Q1.out).mono ?_; rintro e w3 ⟨hb3, _, hn3⟩
    obtain ⟨a1, c1, rfl, o1⟩ := hn3 _ _ rfl
    have B3 := Lib.hid (A2.out.trans (hb3.mono A2.out.size))
    have X3 := Lib.hid ((hb3.block _ (lt_of_block X2.out)).trans X2.out)
    have R3 := Lib.hid ((hb3.block _ (lt_of_block R2.out)).trans R2.out)
    have g1 : w.heap.size + 2 ≤ w3.heap.size := by have := hb3.size; rw [h2] at this; exact this
    rw [h2] at o1
    have O1 := Lib.hid o1
    have Q2 := Lib.hid (GI.out w3 B3.out)
    clear hb3 hn3 Q1 GU o1 GI
    go_wp2_with fail
    refine (Q2.out).mono ?_; rintro e w4 ⟨hb4, _, hn4⟩
    obtain ⟨a2, c2, rfl, o2⟩ := hn4 _ _ rfl
    have hbB : Below w.heap.size w w4 := B3.out.trans (hb4.mono B3.out.size)
    have X4 := (hb4.block _ (lt_of_block X3.out)).trans X3.out
    have R4 := (hb4.block _ (lt_of_block R3.out)).trans R3.out
    have O1b := O1.out.below hb4
    rw [HN1.out] at O1b
    rw [HN2.out] at o2
    rw [HN1.out, HN2.out]
    have B5 : Hid (Below w.heap.size w ((w4.setCell ⟨w.heap.size + 1, 3, none⟩ (.slice a1 n1 c1)).setCell ⟨w.heap.size + 1, 4, none⟩ (.slice a2 n2 c2))) := Lib.hid ((hbB.setCell (p := ⟨w.heap.size + 1, 3, none⟩) (show w.heap.size ≤ w.heap.size + 1 by omega) _).setCell (p := ⟨w.heap.size + 1, 4, none⟩) (show w.heap.size ≤ w.heap.size + 1 by omega) _)
    have X5 : Hid (((w4.setCell ⟨w.heap.size + 1, 3, none⟩ (.slice a1 n1 c1)).setCell ⟨w.heap.size + 1, 4, none⟩ (.slice a2 n2 c2)).heap[w.heap.size]? = some (.cells #[.int .i64 0, .int .i64 0, .bool false, .slice none 0 0, .slice none 0 0] 27 (0, 0))) := Lib.hid (block_set (p := ⟨w.heap.size + 1, 4, none⟩) (block_set (p := ⟨w.heap.size + 1, 3, none⟩) X4 (show w.heap.size ≠ w.heap.size + 1 by omega) _) (show w.heap.size ≠ w.heap.size + 1 by omega) _)
    have R5 : Hid (((w4.setCell ⟨w.heap.size + 1, 3, none⟩ (.slice a1 n1 c1)).setCell ⟨w.heap.size + 1, 4, none⟩ (.slice a2 n2 c2)).heap[w.heap.size + 1]? = some (.cells #[.int .i64 (u0 : Int), .int .i64 (u1 : Int), .bool yy, .slice a1 n1 c1, .slice a2 n2 c2] 27 (0, 0))) := Lib.hid (set_of (set_of R4 3 _) 4 _)
    have P1 : Hid (OutR 1 (encK .u64) 28 ((w4.setCell ⟨w.heap.size + 1, 3, none⟩ (.slice a1 n1 c1)).setCell ⟨w.heap.size + 1, 4, none⟩ (.slice a2 n2 c2)) (w.heap.size + 2) (.slice a1 n1 c1) (ns l1)) := Lib.hid (out_set (out_set O1b (show w.heap.size + 1 < w.heap.size + 2 by omega) 3 _) (show w.heap.size + 1 < w.heap.size + 2 by omega) 4 _)
    have P2 : Hid (OutR 1 (encK .i64) 2 ((w4.setCell ⟨w.heap.size + 1, 3, none⟩ (.slice a1 n1 c1)).setCell ⟨w.heap.size + 1, 4, none⟩ (.slice a2 n2 c2)) (w.heap.size + 2) (.slice a2 n2 c2) (l2.map unf)) := Lib.hid (out_set (out_set (out_low o2 g1) (show w.heap.size + 1 < w.heap.size + 2 by omega) 3 _) (show w.heap.size + 1 < w.heap.size + 2 by omega) 4 _)
    have PC := Lib.hid (PK.out _ B5.out a1 c1 a2 c2)
    have z0 : w4.cell? ⟨w.heap.size + 1, 0, none⟩ = some (.int .i64 (u0 : Int)) := cell_of R4 0
    have z1 : w4.cell? ⟨w.heap.size + 1, 1, none⟩ = some (.int .i64 (u1 : Int)) := cell_of R4 1
    have z2 : w4.cell? ⟨w.heap.size + 1, 2, none⟩ = some (.bool yy) := cell_of R4 2
    have z3 : w4.cell? ⟨w.heap.size + 1, 3, none⟩ = some (.slice none 0 0) := cell_of R4 3
    have z4 : w4.cell? ⟨w.heap.size + 1, 4, none⟩ = some (.slice none 0 0) := cell_of R4 4
    have rf : ∀ i, w4.frozen? ⟨w.heap.size + 1, i, none⟩ = false := fun i => free_of R4 i
    clear hb4 hn4 Q2 O1 o2 O1b X4 R4 PK hbB
    go_wp2_with fail
    refine (PC.out).mono ?_; rintro e w6 ⟨rfl, hb6⟩
    have B6 := Lib.hid (B5.out.trans (hb6.mono B5.out.size))
    have X6 := Lib.hid ((hb6.block _ (lt_of_block X5.out)).trans X5.out)
    have R6 := Lib.hid ((hb6.block _ (lt_of_block R5.out)).trans R5.out)
    have O6 := Lib.hid (And.intro (P1.out.below hb6) (P2.out.below hb6))
    clear hb6 PC z0 z1 z2 z3 z4 rf P1 P2 X5 R5
    have y0 : w6.cell? ⟨w.heap.size, 0, none⟩ = some (.int .i64 0) := cell_of X6.out 0
    have y1 : w6.cell? ⟨w.heap.size, 1, none⟩ = some (.int .i64 0) := cell_of X6.out 1
    have y2 : w6.cell? ⟨w.heap.size, 2, none⟩ = some (.bool false) := cell_of X6.out 2
    have y3 : w6.cell? ⟨w.heap.size, 3, none⟩ = some (.slice none 0 0) := cell_of X6.out 3
    have y4 : w6.cell? ⟨w.heap.size, 4, none⟩ = some (.slice none 0 0) := cell_of X6.out 4
    have qf : ∀ i, w6.frozen? ⟨w.heap.size, i, none⟩ = false := fun i => free_of X6.out i
    have z0 : w6.cell? ⟨w.heap.size + 1, 0, none⟩ = some (.int .i64 (u0 : Int)) := cell_of R6.out 0
    have z1 : w6.cell? ⟨w.heap.size + 1, 1, none⟩ = some (.int .i64 (u1 : Int)) := cell_of R6.out 1
    have z2 : w6.cell? ⟨w.heap.size + 1, 2, none⟩ = some (.bool yy) := cell_of R6.out 2
    have z3 : w6.cell? ⟨w.heap.size + 1, 3, none⟩ = some (.slice a1 n1 c1) := cell_of R6.out 3
    have z4 : w6.cell? ⟨w.heap.size + 1, 4, none⟩ = some (.slice a2 n2 c2) := cell_of R6.out 4
    go_wp2_with fail
    have Q6 := Lib.hid (And.intro (out5 (x := w.heap.size) O6.out.1 (by omega) (.int .i64 (u0 : Int)) (.int .i64 (u1 : Int)) (.bool yy) (.slice a1 n1 c1) (.slice a2 n2 c2)) (out5 (x := w.heap.size) O6.out.2 (by omega) (.int .i64 (u0 : Int)) (.int .i64 (u1 : Int)) (.bool yy) (.slice a1 n1 c1) (.slice a2 n2 c2)))
    have h7 := set5 X6.out rfl (.int .i64 (u0 : Int)) (.int .i64 (u1 : Int)) (.bool yy) (.slice a1 n1 c1) (.slice a2 n2 c2)
    have B7 := Lib.hid (below5 (x := w.heap.size) B6.out (Nat.le_refl _) (.int .i64 (u0 : Int)) (.int .i64 (u1 : Int)) (.bool yy) (.slice a1 n1 c1) (.slice a2 n2 c2))
    clear y0 y1 y2 y3 y4 qf z0 z1 z2 z3 z4
    generalize hW6 : ((((w6.setCell ⟨w.heap.size, 0, none⟩ (.int .i64 (u0 : Int))).setCell ⟨w.heap.size, 1, none⟩ (.int .i64 (u1 : Int))).setCell ⟨w.heap.size, 2, none⟩ (.bool yy)).setCell ⟨w.heap.size, 3, none⟩ (.slice a1 n1 c1)).setCell ⟨w.heap.size, 4, none⟩ (.slice a2 n2 c2) = W6 at *
    have y0 : W6.cell? ⟨w.heap.size, 0, none⟩ = some (.int .i64 (u0 : Int)) := cell_of h7 0
    have y1 : W6.cell? ⟨w.heap.size, 1, none⟩ = some (.int .i64 (u1 : Int)) := cell_of h7 1
    have y2 : W6.cell? ⟨w.heap.size, 2, none⟩ = some (.bool yy) := cell_of h7 2
    have y3 : W6.cell? ⟨w.heap.size, 3, none⟩ = some (.slice a1 n1 c1) := cell_of h7 3
    have y4 : W6.cell? ⟨w.heap.size, 4, none⟩ = some (.slice a2 n2 c2) := cell_of h7 4
    exact bodyPost_ret (v := .tuple #[.agg #[.int .i64 (u0 : Int), .int .i64 (u1 : Int), .bool yy, .slice a1 n1 c1, .slice a2 n2 c2], .int .i64 (3 + (k1 : Int) + (k2 : Int)), .int .i64 0]) (by clear hW6 h7; simp [results, Tryd.results16, go_sem, y0, y1, y2, y3, y4]) rfl (ges_fin HR.out HN1.out HN2.out Q6.out.1 Q6.out.2 B7.out (by omega) (by omega))
  · have HR := Lib.hid (HG.out.trans (if_neg hk))
    have d5 : (chk ⟨u0, u1, yy, l1, l2.map unf⟩ != 0) = true := by simpa using hk
    clear HG hk
    generalize chk ⟨u0, u1, yy, l1, l2.map unf⟩ = ck at *
    have y0 : (w.alloc (.cells #[.int .i64 0, .int .i64 0, .bool false, .slice none 0 0, .slice none 0 0] 27)).cell? ⟨w.heap.size, 0, none⟩ = some (.int .i64 0) := cell_of X1.out 0
    have y1 : (w.alloc (.cells #[.int .i64 0, .int .i64 0, .bool false, .slice none 0 0, .slice none 0 0] 27)).cell? ⟨w.heap.size, 1, none⟩ = some (.int .i64 0) := cell_of X1.out 1
    have y2 : (w.alloc (.cells #[.int .i64 0, .int .i64 0, .bool false, .slice none 0 0, .slice none 0 0] 27)).cell? ⟨w.heap.size, 2, none⟩ = some (.bool false) := cell_of X1.out 2
    have y3 : (w.alloc (.cells #[.int .i64 0, .int .i64 0, .bool false, .slice none 0 0, .slice none 0 0] 27)).cell? ⟨w.heap.size, 3, none⟩ = some (.slice none 0 0) := cell_of X1.out 3
    have y4 : (w.alloc (.cells #[.int .i64 0, .int .i64 0, .bool false, .slice none 0 0, .slice none 0 0] 27)).cell? ⟨w.heap.size, 4, none⟩ = some (.slice none 0 0) := cell_of X1.out 4
    have qf : ∀ i, (w.alloc (.cells #[.int .i64 0, .int .i64 0, .bool false, .slice none 0 0, .slice none 0 0] 27)).frozen? ⟨w.heap.size, i, none⟩ = false := fun i => free_of X1.out i
    go_enter Tryd.func16, Tryd.ntmps16
    go_wp2_with fail
    go_region
    go_wp2_with fail
    rw [← hWS]
    clear y0 y1 y2 y3 y4 qf
    refine (Q1.out).mono ?_; rintro e w3 ⟨hb3, _, hn3⟩
    obtain ⟨a1, c1, rfl, o1⟩ := hn3 _ _ rfl
    have B3 := Lib.hid (A2.out.trans (hb3.mono A2.out.size))
    have X3 := Lib.hid ((hb3.block _ (lt_of_block X2.out)).trans X2.out)
    have R3 := Lib.hid ((hb3.block _ (lt_of_block R2.out)).trans R2.out)
    have g1 : w.heap.size + 2 ≤ w3.heap.size := by have := hb3.size; rw [h2] at this; exact this
    rw [h2] at o1
    have O1 := Lib.hid o1
    have Q2 := Lib.hid (GI.out w3 B3.out)
    clear hb3 hn3 Q1 GU o1 GI
    go_wp2_with fail
    refine (Q2.out).mono ?_; rintro e w4 ⟨hb4, _, hn4⟩
    obtain ⟨a2, c2, rfl, o2⟩ := hn4 _ _ rfl
    have hbB : Below w.heap.size w w4 := B3.out.trans (hb4.mono B3.out.size)
    have X4 := (hb4.block _ (lt_of_block X3.out)).trans X3.out
    have R4 := (hb4.block _ (lt_of_block R3.out)).trans R3.out
    have O1b := O1.out.below hb4
    rw [HN1.out] at O1b
    rw [HN2.out] at o2
    rw [HN1.out, HN2.out]
    have B5 : Hid (Below w.heap.size w ((w4.setCell ⟨w.heap.size + 1, 3, none⟩ (.slice a1 n1 c1)).setCell ⟨w.heap.size + 1, 4, none⟩ (.slice a2 n2 c2))) := Lib.hid ((hbB.setCell (p := ⟨w.heap.size + 1, 3, none⟩) (show w.heap.size ≤ w.heap.size + 1 by omega) _).setCell (p := ⟨w.heap.size + 1, 4, none⟩) (show w.heap.size ≤ w.heap.size + 1 by omega) _)
    have X5 : Hid (((w4.setCell ⟨w.heap.size + 1, 3, none⟩ (.slice a1 n1 c1)).setCell ⟨w.heap.size + 1, 4, none⟩ (.slice a2 n2 c2)).heap[w.heap.size]? = some (.cells #[.int .i64 0, .int .i64 0, .bool false, .slice none 0 0, .slice none 0 0] 27 (0, 0))) := Lib.hid (block_set (p := ⟨w.heap.size + 1, 4, none⟩) (block_set (p := ⟨w.heap.size + 1, 3, none⟩) X4 (show w.heap.size ≠ w.heap.size + 1 by omega) _) (show w.heap.size ≠ w.heap.size + 1 by omega) _)
    have R5 : Hid (((w4.setCell ⟨w.heap.size + 1, 3, none⟩ (.slice a1 n1 c1)).setCell ⟨w.heap.size + 1, 4, none⟩ (.slice a2 n2 c2)).heap[w.heap.size + 1]? = some (.cells #[.int .i64 (u0 : Int), .int .i64 (u1 : Int), .bool yy, .slice a1 n1 c1, .slice a2 n2 c2] 27 (0, 0))) := Lib.hid (set_of (set_of R4 3 _) 4 _)
    have P1 : Hid (OutR 1 (encK .u64) 28 ((w4.setCell ⟨w.heap.size + 1, 3, none⟩ (.slice a1 n1 c1)).setCell ⟨w.heap.size + 1, 4, none⟩ (.slice a2 n2 c2)) (w.heap.size + 2) (.slice a1 n1 c1) (ns l1)) := Lib.hid (out_set (out_set O1b (show w.heap.size + 1 < w.heap.size + 2 by omega) 3 _) (show w.heap.size + 1 < w.heap.size + 2 by omega) 4 _)
    have P2 : Hid (OutR 1 (encK .i64) 2 ((w4.setCell ⟨w.heap.size + 1, 3, none⟩ (.slice a1 n1 c1)).setCell ⟨w.heap.size + 1, 4, none⟩ (.slice a2 n2 c2)) (w.heap.size + 2) (.slice a2 n2 c2) (l2.map unf)) := Lib.hid (out_set (out_set (out_low o2 g1) (show w.heap.size + 1 < w.heap.size + 2 by omega) 3 _) (show w.heap.size + 1 < w.heap.size + 2 by omega) 4 _)
    have PC := Lib.hid (PK.out _ B5.out a1 c1 a2 c2)
    have z0 : w4.cell? ⟨w.heap.size + 1, 0, none⟩ = some (.int .i64 (u0 : Int)) := cell_of R4 0
    have z1 : w4.cell? ⟨w.heap.size + 1, 1, none⟩ = some (.int .i64 (u1 : Int)) := cell_of R4 1
    have z2 : w4.cell? ⟨w.heap.size + 1, 2, none⟩ = some (.bool yy) := cell_of R4 2
    have z3 : w4.cell? ⟨w.heap.size + 1, 3, none⟩ = some (.slice none 0 0) := cell_of R4 3
    have z4 : w4.cell? ⟨w.heap.size + 1, 4, none⟩ = some (.slice none 0 0) := cell_of R4 4
    have rf : ∀ i, w4.frozen? ⟨w.heap.size + 1, i, none⟩ = false := fun i => free_of R4 i
    clear hb4 hn4 Q2 O1 o2 O1b X4 R4 PK hbB
    go_wp2_with fail
    refine (PC.out).mono ?_; rintro e w6 ⟨rfl, hb6⟩
    have B6 := Lib.hid (B5.out.trans (hb6.mono B5.out.size))
    have X6 := Lib.hid ((hb6.block _ (lt_of_block X5.out)).trans X5.out)
    have R6 := Lib.hid ((hb6.block _ (lt_of_block R5.out)).trans R5.out)
    have O6 := Lib.hid (And.intro (P1.out.below hb6) (P2.out.below hb6))
    clear hb6 PC z0 z1 z2 z3 z4 rf P1 P2 X5 R5
    have y0 : w6.cell? ⟨w.heap.size, 0, none⟩ = some (.int .i64 0) := cell_of X6.out 0
    have y1 : w6.cell? ⟨w.heap.size, 1, none⟩ = some (.int .i64 0) := cell_of X6.out 1
    have y2 : w6.cell? ⟨w.heap.size, 2, none⟩ = some (.bool false) := cell_of X6.out 2
    have y3 : w6.cell? ⟨w.heap.size, 3, none⟩ = some (.slice none 0 0) := cell_of X6.out 3
    have y4 : w6.cell? ⟨w.heap.size, 4, none⟩ = some (.slice none 0 0) := cell_of X6.out 4
    have qf : ∀ i, w6.frozen? ⟨w.heap.size, i, none⟩ = false := fun i => free_of X6.out i
    have z0 : w6.cell? ⟨w.heap.size + 1, 0, none⟩ = some (.int .i64 (u0 : Int)) := cell_of R6.out 0
    have z1 : w6.cell? ⟨w.heap.size + 1, 1, none⟩ = some (.int .i64 (u1 : Int)) := cell_of R6.out 1
    have z2 : w6.cell? ⟨w.heap.size + 1, 2, none⟩ = some (.bool yy) := cell_of R6.out 2
    have z3 : w6.cell? ⟨w.heap.size + 1, 3, none⟩ = some (.slice a1 n1 c1) := cell_of R6.out 3
    have z4 : w6.cell? ⟨w.heap.size + 1, 4, none⟩ = some (.slice a2 n2 c2) := cell_of R6.out 4
    go_wp2_with fail
    have h7 := set5 X6.out rfl (.int .i64 0) (.int .i64 0) (.bool false) (.slice none 0 0) (.slice none 0 0)
    have B7 := Lib.hid (below5 (x := w.heap.size) B6.out (Nat.le_refl _) (.int .i64 0) (.int .i64 0) (.bool false) (.slice none 0 0) (.slice none 0 0))
    clear y0 y1 y2 y3 y4 qf z0 z1 z2 z3 z4
    generalize hW6 : ((((w6.setCell ⟨w.heap.size, 0, none⟩ (.int .i64 0)).setCell ⟨w.heap.size, 1, none⟩ (.int .i64 0)).setCell ⟨w.heap.size, 2, none⟩ (.bool false)).setCell ⟨w.heap.size, 3, none⟩ (.slice none 0 0)).setCell ⟨w.heap.size, 4, none⟩ (.slice none 0 0) = W6 at *
    have y0 : W6.cell? ⟨w.heap.size, 0, none⟩ = some (.int .i64 0) := cell_of h7 0
    have y1 : W6.cell? ⟨w.heap.size, 1, none⟩ = some (.int .i64 0) := cell_of h7 1
    have y2 : W6.cell? ⟨w.heap.size, 2, none⟩ = some (.bool false) := cell_of h7 2
    have y3 : W6.cell? ⟨w.heap.size, 3, none⟩ = some (.slice none 0 0) := cell_of h7 3
    have y4 : W6.cell? ⟨w.heap.size, 4, none⟩ = some (.slice none 0 0) := cell_of h7 4
    exact bodyPost_ret (v := .tuple #[.agg #[.int .i64 0, .int .i64 0, .bool false, .slice none 0 0, .slice none 0 0], .int .i64 0, .int .i64 15]) (by clear hW6 h7; simp [results, Tryd.results16, go_sem, y0, y1, y2, y3, y4]) rfl (ges_bad HR.out B7.out)
theorem pget {w : World} (hE : Env w) {a : Option Addr} {n c : Nat} {b : List Nat} (h : IsK .u8 w a n c (ns b)) (hb : By b) (hn : n ≤ 1000000000) :
    Calls Tryd.prog 16 #[.slice a n c] w (GeS w (getR b)) := by
  by_cases hs : n < 3
  · exact pget_short hE h hb hn hs
  · have hs3 : 3 ≤ n := by omega
    by_cases hy : 1 < b.getD 2 0
    · exact pget_y hE h hb hn hs3 hy
    · cases hc : lst (b.drop 3) with
      | none => exact pget_c hE h hb hn hs3 hy hc
      | some p =>
        obtain ⟨l1, k1⟩ := p
        cases hd : lst (b.drop (3 + k1)) with
        | none => exact pget_d hE h hb hn hs3 hy hc hd
        | some q =>
          obtain ⟨l2, k2⟩ := q
          exact pget_e hE h hb hn hs3 hy hc hd
end Go.Proofs.YtlmdkcpiimpniaaDoor

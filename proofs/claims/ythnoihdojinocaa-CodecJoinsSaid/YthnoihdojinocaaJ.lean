/- The fields of a command are cleared. -/
import Derived.Test.YthnoihdojinocaaI
import Derived.RegionCalls
import Derived.Deep.RegionWith
namespace Go.Proofs.Ythnoihdojinocaa
open Go.ChangeShapes Go.WideShapes Go.ChangeAt Go.RowKit
set_option linter.unusedVariables false
set_option linter.unusedSimpArgs false

theorem clr_u {w : World} {x : Nat} {o : Nat} {b : Option Addr} {v : Value} (hx : w.cell? ⟨x, o, none⟩ = some v) (hf : w.frozen? ⟨x, o, none⟩ = false) :
    Calls Try.prog 67 #[.pointer b, .pointer (some ⟨x, o, none⟩)] w fun e w' => e = .returned (.tuple #[]) ∧ w' = w.setCell ⟨x, o, none⟩ (.int .u64 0) := by
  go_enter Try.func67, Try.ntmps67
  go_wp2_with fail
  go_end0
  exact ⟨rfl, rfl⟩
theorem clr_s {w : World} {x : Nat} {o : Nat} {b : Option Addr} {v : Value} (hx : w.cell? ⟨x, o, none⟩ = some v) (hf : w.frozen? ⟨x, o, none⟩ = false) :
    Calls Try.prog 66 #[.pointer b, .pointer (some ⟨x, o, none⟩)] w fun e w' => e = .returned (.tuple #[]) ∧ w' = w.setCell ⟨x, o, none⟩ (.int .i64 0) := by
  go_enter Try.func66, Try.ntmps66
  go_wp2_with fail
  go_end0
  exact ⟨rfl, rfl⟩
theorem clr_d {w : World} {k x o : Nat} {a : Option Addr} {n c : Nat} {lg : Bool} (hne : x ≠ k) (hk : w.cell? ⟨k, 0, none⟩ = some (.bool lg)) (hkf : w.frozen? ⟨k, 0, none⟩ = false) (hx : w.cell? ⟨x, o, none⟩ = some (.slice a n c)) (hf : w.frozen? ⟨x, o, none⟩ = false) :
    Calls Try.prog 65 #[.pointer (some ⟨k, 0, none⟩), .pointer (some ⟨x, o, none⟩)] w fun e w' => e = .returned (.tuple #[]) ∧ w' = (w.setCell ⟨k, 0, none⟩ (.bool (lg || decide ((16384 : Int) < (n : Int))))).setCell ⟨x, o, none⟩ (.slice none 0 0) := by
  have hx2 : ∀ v, (w.setCell ⟨k, 0, none⟩ v).cell? ⟨x, o, none⟩ = some (.slice a n c) := fun v => by rw [World.cell?_setCell_other _ _ _ _ (fun e => hne (by injection e with e1; exact e1.symm))]; exact hx
  cases lg
  · go_enter Try.func65, Try.ntmps65
    go_wp2_with fail
    go_end0
    exact ⟨rfl, by simp⟩
  · go_enter Try.func65, Try.ntmps65
    go_wp2_with fail
    go_end0
    exact ⟨rfl, by simp⟩
theorem clr_b {w : World} {k x o : Nat} {a : Option Addr} {n c : Nat} {lg : Bool} (hne : x ≠ k) (hk : w.cell? ⟨k, 0, none⟩ = some (.bool lg)) (hkf : w.frozen? ⟨k, 0, none⟩ = false) (hx : w.cell? ⟨x, o, none⟩ = some (.slice a n c)) (hf : w.frozen? ⟨x, o, none⟩ = false) :
    Calls Try.prog 64 #[.pointer (some ⟨k, 0, none⟩), .pointer (some ⟨x, o, none⟩)] w fun e w' => e = .returned (.tuple #[]) ∧ w' = (w.setCell ⟨k, 0, none⟩ (.bool (lg || decide ((1024 : Int) < (n : Int))))).setCell ⟨x, o, none⟩ (.slice none 0 0) := by
  have hx2 : ∀ v, (w.setCell ⟨k, 0, none⟩ v).cell? ⟨x, o, none⟩ = some (.slice a n c) := fun v => by rw [World.cell?_setCell_other _ _ _ _ (fun e => hne (by injection e with e1; exact e1.symm))]; exact hx
  cases lg
  · go_enter Try.func64, Try.ntmps64
    go_wp2_with fail
    go_end0
    exact ⟨rfl, by simp⟩
  · go_enter Try.func64, Try.ntmps64
    go_wp2_with fail
    go_end0
    exact ⟨rfl, by simp⟩
/-- A command's cells. -/
def cmV (c : Cm) (vd vb : Value) : Array Value := #[.int .i64 c.op, .int .u64 c.u, .int .u64 c.v, .int .i64 c.w, .int .i64 c.t, vd, vb]
/-- A command in block x, and a flag in block k; else nothing has changed. -/
structure KC (w0 : World) (k x : Nat) (c : Cm) (lg : Bool) (wr : World) : Prop where
  cells : ∃ ad cd ab cb, wr.heap[x]? = some (.cells (cmV c (.slice ad c.d.length cd) (.slice ab c.b.length cb)) 27 (0, 0))
  flag : wr.heap[k]? = some (.cells #[.bool lg] 58 (0, 0))
  touch : Touch (fun b => b = x ∨ b = k) w0 wr
  ne : x ≠ k
theorem KC.drew {w0 wr : World} {k x : Nat} {c : Cm} {lg : Bool} (h : KC w0 k x c lg wr) : KC w0 k x c lg wr.drew := ⟨h.cells, h.flag, h.touch.drew, h.ne⟩
section
variable {w0 w : World} {k x : Nat} {c : Cm} {lg : Bool}
theorem KC.op (h : KC w0 k x c lg w) : w.cell? ⟨x, 0, none⟩ = some (.int .i64 c.op) := by
  obtain ⟨ad, cd, ab, cb, hc⟩ := h.cells
  exact cell_of hc 0
theorem kc_set (h : KC w0 k x c lg w) {o : Nat} {v : Value} {c' : Cm} (hs : ∀ ad cd ab cb, ∃ ad' cd' ab' cb', (cmV c (.slice ad c.d.length cd) (.slice ab c.b.length cb)).setIfInBounds o v = cmV c' (.slice ad' c'.d.length cd') (.slice ab' c'.b.length cb')) :
    KC w0 k x c' lg (w.setCell ⟨x, o, none⟩ v) := by
  obtain ⟨ad, cd, ab, cb, hc⟩ := h.cells
  obtain ⟨ad', cd', ab', cb', e⟩ := hs ad cd ab cb
  refine ⟨⟨ad', cd', ab', cb', ?_⟩, block_set h.flag (fun e => h.ne e.symm) v, h.touch.setCell (p := ⟨x, o, none⟩) (fun _ => Or.inl rfl) v, h.ne⟩
  rw [set_of hc, e]
theorem kc_flag (h : KC w0 k x c lg w) (b : Bool) : KC w0 k x c b (w.setCell ⟨k, 0, none⟩ (.bool b)) := by
  obtain ⟨ad, cd, ab, cb, hc⟩ := h.cells
  exact ⟨⟨ad, cd, ab, cb, block_set hc h.ne _⟩, by rw [set_of h.flag]; rfl, h.touch.setCell (p := ⟨k, 0, none⟩) (fun _ => Or.inr rfl) _, h.ne⟩
def KCp (w0 : World) (k x : Nat) (c : Cm) (lg : Bool) (e : Ending) (w' : World) : Prop := e = .returned (.tuple #[]) ∧ KC w0 k x c lg w'
theorem kc_u (h : KC w0 k x c lg w) : Calls Try.prog 67 #[.pointer (some ⟨k, 0, none⟩), .pointer (some ⟨x, 1, none⟩)] w (KCp w0 k x (clr c .u) lg) := by
  obtain ⟨ad, cd, ab, cb, hc⟩ := h.cells
  refine (clr_u (v := .int .u64 c.u) (cell_of hc 1) (free_of hc 1)).mono ?_
  rintro e w' ⟨rfl, rfl⟩
  exact ⟨rfl, kc_set h (fun ad cd ab cb => ⟨ad, cd, ab, cb, rfl⟩)⟩
theorem kc_v (h : KC w0 k x c lg w) : Calls Try.prog 67 #[.pointer (some ⟨k, 0, none⟩), .pointer (some ⟨x, 2, none⟩)] w (KCp w0 k x (clr c .v) lg) := by
  obtain ⟨ad, cd, ab, cb, hc⟩ := h.cells
  refine (clr_u (v := .int .u64 c.v) (cell_of hc 2) (free_of hc 2)).mono ?_
  rintro e w' ⟨rfl, rfl⟩
  exact ⟨rfl, kc_set h (fun ad cd ab cb => ⟨ad, cd, ab, cb, rfl⟩)⟩
theorem kc_w (h : KC w0 k x c lg w) : Calls Try.prog 66 #[.pointer (some ⟨k, 0, none⟩), .pointer (some ⟨x, 3, none⟩)] w (KCp w0 k x (clr c .w) lg) := by
  obtain ⟨ad, cd, ab, cb, hc⟩ := h.cells
  refine (clr_s (v := .int .i64 c.w) (cell_of hc 3) (free_of hc 3)).mono ?_
  rintro e w' ⟨rfl, rfl⟩
  exact ⟨rfl, kc_set h (fun ad cd ab cb => ⟨ad, cd, ab, cb, rfl⟩)⟩
theorem kc_t (h : KC w0 k x c lg w) : Calls Try.prog 66 #[.pointer (some ⟨k, 0, none⟩), .pointer (some ⟨x, 4, none⟩)] w (KCp w0 k x (clr c .t) lg) := by
  obtain ⟨ad, cd, ab, cb, hc⟩ := h.cells
  refine (clr_s (v := .int .i64 c.t) (cell_of hc 4) (free_of hc 4)).mono ?_
  rintro e w' ⟨rfl, rfl⟩
  exact ⟨rfl, kc_set h (fun ad cd ab cb => ⟨ad, cd, ab, cb, rfl⟩)⟩
theorem kc_d (h : KC w0 k x c lg w) : Calls Try.prog 65 #[.pointer (some ⟨k, 0, none⟩), .pointer (some ⟨x, 5, none⟩)] w (KCp w0 k x (clr c .d) (lg || decide ((16384 : Int) < (c.d.length : Int)))) := by
  obtain ⟨ad, cd, ab, cb, hc⟩ := h.cells
  refine (clr_d (a := ad) (n := c.d.length) (c := cd) h.ne (cell_of h.flag 0) (free_of h.flag 0) (cell_of hc 5) (free_of hc 5)).mono ?_
  rintro e w' ⟨rfl, rfl⟩
  exact ⟨rfl, kc_set (kc_flag h _) (fun ad cd ab cb => ⟨none, 0, ab, cb, rfl⟩)⟩
theorem kc_b (h : KC w0 k x c lg w) : Calls Try.prog 64 #[.pointer (some ⟨k, 0, none⟩), .pointer (some ⟨x, 6, none⟩)] w (KCp w0 k x (clr c .b) (lg || decide ((1024 : Int) < (c.b.length : Int)))) := by
  obtain ⟨ad, cd, ab, cb, hc⟩ := h.cells
  refine (clr_b (a := ab) (n := c.b.length) (c := cb) h.ne (cell_of h.flag 0) (free_of h.flag 0) (cell_of hc 6) (free_of hc 6)).mono ?_
  rintro e w' ⟨rfl, rfl⟩
  exact ⟨rfl, kc_set (kc_flag h _) (fun ad cd ab cb => ⟨ad, cd, none, 0, rfl⟩)⟩
end
theorem na_c (k : Nat) : (∀ w, (nilAhead 214 61 (.pointer (some ⟨k, 0, none⟩)) "seepage/codec.unsigned").run Try.prog w = .ok (some false) w) ∧ (∀ w, (nilAhead 214 61 (.pointer (some ⟨k, 0, none⟩)) "seepage/codec.signed").run Try.prog w = .ok (some false) w) ∧
    (∀ w, (nilAhead 214 61 (.pointer (some ⟨k, 0, none⟩)) "seepage/codec.draws").run Try.prog w = .ok (some false) w) ∧ (∀ w, (nilAhead 214 61 (.pointer (some ⟨k, 0, none⟩)) "seepage/codec.bounds").run Try.prog w = .ok (some false) w) :=
  ⟨fun _ => by kernel_rfl, fun _ => by kernel_rfl, fun _ => by kernel_rfl, fun _ => by kernel_rfl⟩
theorem me_c (k : Nat) : (∀ w, (method 214 61 (.pointer (some ⟨k, 0, none⟩)) "seepage/codec.unsigned").run Try.prog w = .ok (67, .pointer (some ⟨k, 0, none⟩)) w) ∧ (∀ w, (method 214 61 (.pointer (some ⟨k, 0, none⟩)) "seepage/codec.signed").run Try.prog w = .ok (66, .pointer (some ⟨k, 0, none⟩)) w) ∧
    (∀ w, (method 214 61 (.pointer (some ⟨k, 0, none⟩)) "seepage/codec.draws").run Try.prog w = .ok (65, .pointer (some ⟨k, 0, none⟩)) w) ∧ (∀ w, (method 214 61 (.pointer (some ⟨k, 0, none⟩)) "seepage/codec.bounds").run Try.prog w = .ok (64, .pointer (some ⟨k, 0, none⟩)) w) :=
  ⟨fun _ => by kernel_rfl, fun _ => by kernel_rfl, fun _ => by kernel_rfl, fun _ => by kernel_rfl⟩
end Go.Proofs.Ythnoihdojinocaa

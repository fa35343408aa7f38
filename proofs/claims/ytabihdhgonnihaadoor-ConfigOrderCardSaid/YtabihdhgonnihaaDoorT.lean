/- Parse of the program. -/
import Derived.Test.YtabihdhgonnihaaDoorR
import Derived.Recover
import Derived.RegionDies
namespace Go.Proofs.YtabihdhgonnihaaDoor
open Go.ChangeShapes Go.WideShapes Go.ChangeAt Go.RowKit
set_option linter.unusedVariables false
set_option linter.unusedSimpArgs false

/-- Parse's two results, in blocks g, g + 1. -/
structure R2 (w0 : World) (g : Nat) (f : Cf) (e : Int) (w : World) : Prop where
  c : w.heap[g]? = some (.cells #[.int .i64 f.a, .int .i64 f.b, .int .i64 f.c, .int .i64 f.d] 25 (0, 0))
  e : w.heap[g + 1]? = some (.cells #[.int .i64 e] 28 (0, 0))
  below : Below w0.heap.size w0 w
theorem R2.keep {w0 : World} {g : Nat} {f : Cf} {e : Int} {w w' : World} (h : R2 w0 g f e w) (hb : Below w.heap.size w w') : R2 w0 g f e w' :=
  ⟨(hb.block _ (lt_of_block h.c)).trans h.c, (hb.block _ (lt_of_block h.e)).trans h.e, h.below.trans (hb.mono h.below.size)⟩
theorem R2.set {w0 : World} {g : Nat} {f : Cf} {e : Int} {w : World} (h : R2 w0 g f e w) (hg : w0.heap.size ≤ g) (q : Cf) (e' : Int) :
    R2 w0 g q e' (((((w.setCell ⟨g, 0, none⟩ (.int .i64 q.a)).setCell ⟨g, 1, none⟩ (.int .i64 q.b)).setCell ⟨g, 2, none⟩ (.int .i64 q.c)).setCell ⟨g, 3, none⟩ (.int .i64 q.d)).setCell ⟨g + 1, 0, none⟩ (.int .i64 e')) := by
  refine ⟨block_set (set4 h.c rfl _ _ _ _) (by simp) _, ?_, ((((h.below.setCell (by simp; omega) _).setCell (by simp; omega) _).setCell (by simp; omega) _).setCell (by simp; omega) _).setCell (by simp; omega) _⟩
  rw [set_of (block_set (block_set (block_set (block_set h.e (by simp) _) (by simp) _) (by simp) _) (by simp) _)]
  rfl
structure R2c (g : Nat) (f : Cf) (e : Int) (w : World) : Prop where
  c0 : w.cell? ⟨g, 0, none⟩ = some (.int .i64 f.a)
  c1 : w.cell? ⟨g, 1, none⟩ = some (.int .i64 f.b)
  c2 : w.cell? ⟨g, 2, none⟩ = some (.int .i64 f.c)
  c3 : w.cell? ⟨g, 3, none⟩ = some (.int .i64 f.d)
  e0 : w.cell? ⟨g + 1, 0, none⟩ = some (.int .i64 e)
  f0 : w.frozen? ⟨g, 0, none⟩ = false
  f1 : w.frozen? ⟨g, 1, none⟩ = false
  f2 : w.frozen? ⟨g, 2, none⟩ = false
  f3 : w.frozen? ⟨g, 3, none⟩ = false
  fe : w.frozen? ⟨g + 1, 0, none⟩ = false
theorem R2.cells {w0 : World} {g : Nat} {f : Cf} {e : Int} {w : World} (h : R2 w0 g f e w) : R2c g f e w :=
  ⟨cell_of h.c 0, cell_of h.c 1, cell_of h.c 2, cell_of h.c 3, cell_of h.e 0, free_of h.c 0, free_of h.c 1, free_of h.c 2, free_of h.c 3, free_of h.e 0⟩
/-- Parse's deferred closure, where Parse panics. -/
theorem catch_panicking {w0 : World} {g : Nat} {f : Cf} {e : Int} {w : World} (h : R2 w0 g f e w) (hg : w0.heap.size ≤ g) (u : TypeId) (pv : Value) (older : List PanicEntry) :
    CallsD Tryd.prog 41 #[.pointer (some ⟨g, 0, none⟩), .pointer (some ⟨g + 1, 0, none⟩)] (.panicking ({ v := .iface u pv, recovered := false } :: older)) w fun e u' w' =>
      e = .returned (.tuple #[]) ∧ u' = .panicking ({ v := .iface u pv, recovered := true } :: older) ∧ R2 w0 g zero 15 w' := by
  have D := Lib.hid (h.set hg zero 15)
  obtain ⟨c0, c1, c2, c3, e0, f0, f1, f2, f3, fe⟩ := h.cells
  refine callsD_of_wpS Tryd.func41 rfl fun c₀ cs hu => ?_
  apply wpS_seq
  apply wpS_region
  simp [wpOpsS, go_sem, recoverD, hu, Tryd.ntmps41, Exit.thenS]
  refine wpS_cond (t := true) (by simp [Act.eval, Array.replicate]) ?_
  simp only [if_true]
  refine wpS_of_wp ?_
  clear h
  go_wp2_with fail
  exact ⟨rfl, _, rfl, _, results_none rfl _ _ _, rfl, rfl, D.out⟩
theorem catch_idle (a b : Value) (w : World) :
    CallsD Tryd.prog 41 #[a, b] .returning w fun e u' w' => e = .returned (.tuple #[]) ∧ u' = .returning ∧ w' = w := by
  refine callsD_of_wpS Tryd.func41 rfl fun c₀ cs hu => ?_
  apply wpS_seq
  apply wpS_region
  simp [wpOpsS, go_sem, recoverD, hu, Tryd.ntmps41, Exit.thenS]
  refine wpS_cond (t := false) (by simp [Act.eval, Array.replicate]) ?_
  simp only [Bool.false_eq_true, if_false]
  refine wpS_of_wp (wp_skip ?_)
  cases c₀
  simp_all [bodyPostS, results, Tryd.results41]
def cfV (f : Cf) : Value := .agg #[.int .i64 f.a, .int .i64 f.b, .int .i64 f.c, .int .i64 f.d]
def ParR (w : World) (r : Cf × Int) (e : Ending) (w' : World) : Prop := e = .returned (.tuple #[.agg #[.int .i64 r.1.a, .int .i64 r.1.b, .int .i64 r.1.c, .int .i64 r.1.d], .int .i64 r.2]) ∧ Below w.heap.size w w'
theorem R2.new (w : World) : R2 w w.heap.size zero 0 ((w.alloc (.cells #[.int .i64 0, .int .i64 0, .int .i64 0, .int .i64 0] 25)).alloc (.cells #[.int .i64 0] 28)) :=
  ⟨block_old (block_new _ _) _, by
    have := block_new (w.alloc (.cells #[.int .i64 0, .int .i64 0, .int .i64 0, .int .i64 0] 25)) (.cells #[.int .i64 0] 28)
    rwa [show (w.alloc (.cells #[.int .i64 0, .int .i64 0, .int .i64 0, .int .i64 0] 25)).heap.size = w.heap.size + 1 by simp] at this, (Below.alloc (Below.refl _ _) (Nat.le_refl _) _).alloc (by simp) _⟩
set_option maxRecDepth 100000 in
set_option maxHeartbeats 4000000 in
theorem pparse {w : World} (h : Env w) {s : Str} (hs : s.length ≤ 1000000) : Calls Tryd.prog 17 #[.string ⟨s.toArray⟩] w (ParR w (parse s)) := by
  have R0 := Lib.hid (R2.new w)
  have P := Lib.hid (pread (h.below R0.out.below) hs)
  have hmf : ∀ (fn : Fn) (first cap : Array Value) (w : World), (Instr.makeFunc fn first cap).run Tryd.prog w = .ok (.func fn first cap) w := fun _ _ _ _ => rfl
  have HE := Lib.hid h
  unfold parse
  cases hr : read s with
  | none =>
    rw [hr] at P
    clear h hs hr
    go_enter_defers Tryd.func17, Tryd.ntmps17
    go_wp2_with fail
    refine (P.out).mono ?_; rintro e w1 ⟨rfl, hb1⟩
    have R1 := Lib.hid (R0.out.keep hb1)
    clear hb1 P
    refine leaves_cons (f := 41) (args := #[.pointer (some ⟨w.heap.size, 0, none⟩), .pointer (some ⟨w.heap.size + 1, 0, none⟩)]) (by simp) (by simp [go_sem]) ?_
    refine (catch_panicking R1.out (Nat.le_refl _) 98 _ []).mono ?_
    rintro e u' w'' ⟨rfl, rfl, hr⟩
    have BB := Lib.hid hr.below
    obtain ⟨c0, c1, c2, c3, e0, -, -, -, -, -⟩ := hr.cells
    clear hr
    simp [Leaves, settle, results, Tryd.results17, go_sem, c0, c1, c2, c3, e0]
    exact ⟨rfl, BB.out⟩
  | some f =>
    rw [hr] at P
    have HF := Lib.hid (read_ok hr)
    have W := Lib.hid (fun w' (hb : Below w.heap.size w w') => pwrong (HE.out.below hb) f HF.out)
    unfold parseR
    by_cases hk : wrong f < 0
    · simp only [if_pos hk]
      have e1 : decide (0 ≤ wrong f) = false := by simp; omega
      generalize wrong f = k at *
      clear h hs hr hk
      go_enter_defers Tryd.func17, Tryd.ntmps17
      go_wp2_with fail
      refine (P.out).mono ?_; rintro e w1 ⟨rfl, hb1⟩
      have R1 := Lib.hid ((R0.out.keep hb1).keep (Below.alloc (Below.refl _ _) (Nat.le_refl _) (.cells #[.int .i64 f.a, .int .i64 f.b, .int .i64 f.c, .int .i64 f.d] 60)))
      have PW := Lib.hid (W.out _ R1.out.below)
      have X1 := Lib.hid (block_new w1 (.cells #[.int .i64 f.a, .int .i64 f.b, .int .i64 f.c, .int .i64 f.d] 60))
      clear hb1 P
      go_wp2_with fail
      refine (PW.out).mono ?_; rintro e w2 ⟨rfl, hb2⟩
      have R3 := Lib.hid (R1.out.keep hb2)
      have hx := (hb2.block _ (lt_of_block X1.out)).trans X1.out
      have x0 : w2.cell? ⟨w1.heap.size, 0, none⟩ = some (.int .i64 f.a) := cell_of hx 0
      have x1 : w2.cell? ⟨w1.heap.size, 1, none⟩ = some (.int .i64 f.b) := cell_of hx 1
      have x2 : w2.cell? ⟨w1.heap.size, 2, none⟩ = some (.int .i64 f.c) := cell_of hx 2
      have x3 : w2.cell? ⟨w1.heap.size, 3, none⟩ = some (.int .i64 f.d) := cell_of hx 3
      have J := Lib.hid (pjoin f.a f.b f.c f.d w2)
      clear hb2 PW hx
      go_wp2_with fail
      refine (J.out).mono ?_; rintro e w3 ⟨rfl, hb3⟩
      have R4 := Lib.hid (R3.out.keep hb3)
      have R5 := Lib.hid (R4.out.set (Nat.le_refl _) f 0)
      obtain ⟨c0, c1, c2, c3, e0, f0, f1, f2, f3, fe⟩ := R4.out.cells
      clear hb3 J
      go_wp2_with fail
      refine leaves_cons (f := 41) (args := #[.pointer (some ⟨w.heap.size, 0, none⟩), .pointer (some ⟨w.heap.size + 1, 0, none⟩)]) (by simp) (by simp [go_sem]) ?_
      refine (catch_idle _ _ _).mono ?_
      rintro e u' w'' ⟨rfl, rfl, rfl⟩
      clear c0 c1 c2 c3 e0 f0 f1 f2 f3 fe x0 x1 x2 x3
      have hr := R5.out
      have BB := Lib.hid hr.below
      clear R5
      generalize ((((w3.setCell ⟨w.heap.size, 0, none⟩ (.int .i64 f.a)).setCell ⟨w.heap.size, 1, none⟩ (.int .i64 f.b)).setCell ⟨w.heap.size, 2, none⟩ (.int .i64 f.c)).setCell ⟨w.heap.size, 3, none⟩ (.int .i64 f.d)).setCell ⟨w.heap.size + 1, 0, none⟩ (.int .i64 0) = W6 at *
      obtain ⟨c0, c1, c2, c3, e0, -, -, -, -, -⟩ := hr.cells
      clear hr
      simp [Leaves, settle, results, Tryd.results17, go_sem, c0, c1, c2, c3, e0]
      exact ⟨rfl, BB.out⟩
    · simp only [if_neg hk]
      have e1 : decide (0 ≤ wrong f) = true := by simp; omega
      generalize wrong f = k at *
      clear h hs hr hk
      go_enter_defers Tryd.func17, Tryd.ntmps17
      go_wp2_with fail
      refine (P.out).mono ?_; rintro e w1 ⟨rfl, hb1⟩
      have R1 := Lib.hid ((R0.out.keep hb1).keep (Below.alloc (Below.refl _ _) (Nat.le_refl _) (.cells #[.int .i64 f.a, .int .i64 f.b, .int .i64 f.c, .int .i64 f.d] 60)))
      have PW := Lib.hid (W.out _ R1.out.below)
      clear hb1 P
      go_wp2_with fail
      refine (PW.out).mono ?_; rintro e w2 ⟨rfl, hb2⟩
      have R3 := Lib.hid (R1.out.keep hb2)
      have R5 := Lib.hid (R3.out.set (Nat.le_refl _) zero 2)
      obtain ⟨c0, c1, c2, c3, e0, f0, f1, f2, f3, fe⟩ := R3.out.cells
      clear hb2 PW
      go_wp2_with fail
      refine leaves_cons (f := 41) (args := #[.pointer (some ⟨w.heap.size, 0, none⟩), .pointer (some ⟨w.heap.size + 1, 0, none⟩)]) (by simp) (by simp [go_sem]) ?_
      refine (catch_idle _ _ _).mono ?_
      rintro e u' w'' ⟨rfl, rfl, rfl⟩
      clear c0 c1 c2 c3 e0 f0 f1 f2 f3 fe
      have hr := R5.out
      unfold zero at hr
      dsimp only at hr
      have BB := Lib.hid hr.below
      clear R5
      generalize ((((w2.setCell ⟨w.heap.size, 0, none⟩ (.int .i64 0)).setCell ⟨w.heap.size, 1, none⟩ (.int .i64 0)).setCell ⟨w.heap.size, 2, none⟩ (.int .i64 0)).setCell ⟨w.heap.size, 3, none⟩ (.int .i64 0)).setCell ⟨w.heap.size + 1, 0, none⟩ (.int .i64 2) = W6 at *
      obtain ⟨c0, c1, c2, c3, e0, -, -, -, -, -⟩ := hr.cells
      clear hr
      simp [Leaves, settle, results, Tryd.results17, go_sem, c0, c1, c2, c3, e0]
      exact ⟨rfl, BB.out⟩
end Go.Proofs.YtabihdhgonnihaaDoor

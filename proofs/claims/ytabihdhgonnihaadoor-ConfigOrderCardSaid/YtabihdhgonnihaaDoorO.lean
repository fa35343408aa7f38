/- Clamp of the program. -/
import Derived.Test.YtabihdhgonnihaaDoorN
namespace Go.Proofs.YtabihdhgonnihaaDoor
open Go.ChangeShapes Go.WideShapes Go.ChangeAt Go.RowKit
set_option linter.unusedVariables false
set_option linter.unusedSimpArgs false

/-- The fields below i are clamped. -/
def half (f : Cf) (i : Nat) : Cf := ⟨if 0 < i then clampf f 0 else f.a, if 1 < i then clampf f 1 else f.b, if 2 < i then clampf f 2 else f.c, if 3 < i then clampf f 3 else f.d⟩
structure ClB (w w1 : World) (f : Cf) (i : Nat) (wr : World) : Prop where
  box : wr.heap[w1.heap.size]? = some (.cells #[.int .i64 (half f i).a, .int .i64 (half f i).b, .int .i64 (half f i).c, .int .i64 (half f i).d] 60 (0, 0))
  out : wr.heap[w.heap.size + 1]? = some (.cells #[.int .i64 0, .int .i64 0, .int .i64 0, .int .i64 0] 25 (0, 0))
  below : Below w.heap.size w wr
theorem ClB.next {w w1 : World} {f : Cf} {i : Nat} {wr : World} (h : ClB w w1 f i wr) (hs : w.heap.size + 1 < w1.heap.size) {v : Value} {k : Nat} (o : Obj)
    (hc : (#[.int .i64 (half f i).a, .int .i64 (half f i).b, .int .i64 (half f i).c, .int .i64 (half f i).d] : Array Value).setIfInBounds k v = #[.int .i64 (half f (i + 1)).a, .int .i64 (half f (i + 1)).b, .int .i64 (half f (i + 1)).c, .int .i64 (half f (i + 1)).d]) :
    ClB w w1 f (i + 1) ((wr.setCell ⟨w1.heap.size, k, none⟩ v).alloc o).drew := by
  have h1 := set_of h.box k v
  rw [hc] at h1
  refine ⟨block_drew (block_old h1 _), block_drew (block_old (block_set h.out (by simp; omega) v) _), ?_⟩
  have h2 : Below w.heap.size w (wr.setCell ⟨w1.heap.size, k, none⟩ v) := h.below.setCell (by simp; omega) _
  exact (h2.alloc h2.size _).drew
theorem set4 {w : World} {x : Nat} {cs : Array Value} {t : TypeId} (h : w.heap[x]? = some (.cells cs t (0, 0))) (hs : cs.size = 4) (v0 v1 v2 v3 : Value) :
    ((((w.setCell ⟨x, 0, none⟩ v0).setCell ⟨x, 1, none⟩ v1).setCell ⟨x, 2, none⟩ v2).setCell ⟨x, 3, none⟩ v3).heap[x]? = some (.cells #[v0, v1, v2, v3] t (0, 0)) := by
  have hcs : ∃ a b c d, cs = #[a, b, c, d] := by
    obtain ⟨l⟩ := cs
    match l, hs with
    | [a, b, c, d], _ => exact ⟨a, b, c, d, rfl⟩
  obtain ⟨a, b, c, d, rfl⟩ := hcs
  have h1 := set_of (set_of (set_of (set_of h 0 v0) 1 v1) 2 v2) 3 v3
  simpa using h1
def ClRel (w w1 : World) (f : Cf) (vi : Value) (wr : World) : Prop := ∃ i : Nat, i ≤ 4 ∧ vi = .int .i64 (i : Int) ∧ ClB w w1 f i wr
set_option maxRecDepth 100000 in
set_option maxHeartbeats 4000000 in
theorem pclamp {w : World} (h : Env w) (f : Cf) (hf : f.ok) : Calls Tryd.prog 26 #[.agg #[.int .i64 f.a, .int .i64 f.b, .int .i64 f.c, .int .i64 f.d]] w fun e w' => e = .returned (.agg #[.int .i64 (clamp f).a, .int .i64 (clamp f).b, .int .i64 (clamp f).c, .int .i64 (clamp f).d]) ∧ Below w.heap.size w w' := by
  have A : Hid (Below w.heap.size w ((w.alloc (.cells #[.int .i64 f.a, .int .i64 f.b, .int .i64 f.c, .int .i64 f.d] 25)).alloc (.cells #[.int .i64 0, .int .i64 0, .int .i64 0, .int .i64 0] 25))) := Lib.hid ((new25 w f).alloc (by simp) _)
  have P1 := Lib.hid (psplit f.a f.b f.c f.d ((w.alloc (.cells #[.int .i64 f.a, .int .i64 f.b, .int .i64 f.c, .int .i64 f.d] 25)).alloc (.cells #[.int .i64 0, .int .i64 0, .int .i64 0, .int .i64 0] 25)))
  have EC := Lib.hid (fun w' (hb : Below w.heap.size w w') => (h.below hb).cells)
  have X : Hid (((w.alloc (.cells #[.int .i64 f.a, .int .i64 f.b, .int .i64 f.c, .int .i64 f.d] 25)).alloc (.cells #[.int .i64 0, .int .i64 0, .int .i64 0, .int .i64 0] 25)).heap[w.heap.size + 1]? = some (.cells #[.int .i64 0, .int .i64 0, .int .i64 0, .int .i64 0] 25 (0, 0))) := Lib.hid (by
    have := block_new (w.alloc (.cells #[.int .i64 f.a, .int .i64 f.b, .int .i64 f.c, .int .i64 f.d] 25)) (.cells #[.int .i64 0, .int .i64 0, .int .i64 0, .int .i64 0] 25)
    rwa [show (w.alloc (.cells #[.int .i64 f.a, .int .i64 f.b, .int .i64 f.c, .int .i64 f.d] 25)).heap.size = w.heap.size + 1 by simp] at this)
  have hw0 : 0 < w.heap.size := by obtain ⟨t, f, hr⟩ := h.rows; exact lt_of_block hr
  clear h
  go_enter Tryd.func26, Tryd.ntmps26
  go_wp2_with fail
  refine (P1.out).mono ?_; rintro e w1 ⟨rfl, hb1⟩
  have B1 := Lib.hid (A.out.trans (hb1.mono A.out.size))
  have X1 := Lib.hid ((hb1.block _ (lt_of_block X.out)).trans X.out)
  have hsz := lt_of_block X1.out
  have HSZ := Lib.hid hsz
  have N1 := Lib.hid (B1.out.alloc B1.out.size (.cells #[.int .i64 f.a, .int .i64 f.b, .int .i64 f.c, .int .i64 f.d] 60))
  obtain ⟨c0, c1, c2, c3, c4, c5, c6, c7, c8, c9, c10, c11, c12⟩ := EC.out _ N1.out
  have CL : Hid (ClB w w1 f 0 (w1.alloc (.cells #[.int .i64 f.a, .int .i64 f.b, .int .i64 f.c, .int .i64 f.d] 60))) := Lib.hid ⟨block_new _ _, block_old X1.out _, N1.out⟩
  clear hb1 P1 EC A X hsz hw0
  go_wp2_with fail
  go_loopw [9] (fun v9 wr => ClRel w w1 f v9 wr) (fun v9 _ => 4 - (intOf v9).toNat)
  case atStart => exact ⟨0, by omega, rfl, CL.out⟩
  case round =>
    obtain ⟨i, hi4, rfl, hb⟩ := hrel
    have B := Lib.hid hb
    have hlt := lt_of_block hb.box
    clear c0 c1 c2 c3 c4 c5 c6 c7 c8 c9 c10 c11 c12
    have h5 : i = 0 ∨ i = 1 ∨ i = 2 ∨ i = 3 ∨ i = 4 := by omega
    rcases h5 with rfl | rfl | rfl | rfl | rfl
    · have x0 : wr.cell? ⟨w1.heap.size, 0, none⟩ = some (.int .i64 f.a) := cell_of hb.box 0
      have hfz : wr.frozen? ⟨w1.heap.size, 0, none⟩ = false := free_of hb.box 0
      have hix := idx0
      clear hb
      go_wp2_with fail
      go_region
      go_wp2_with fail
      go_roundw
      case rel => exact ⟨0 + 1, by omega, by go_num, B.out.next HSZ.out _ rfl⟩
      case measure => simp [intOf]
    · have x0 : wr.cell? ⟨w1.heap.size, 1, none⟩ = some (.int .i64 f.b) := cell_of hb.box 1
      have hfz : wr.frozen? ⟨w1.heap.size, 1, none⟩ = false := free_of hb.box 1
      have hix := idx1
      clear hb
      go_wp2_with fail
      go_region
      go_wp2_with fail
      go_roundw
      case rel => exact ⟨1 + 1, by omega, by go_num, B.out.next HSZ.out _ rfl⟩
      case measure => simp [intOf]
    · have x0 : wr.cell? ⟨w1.heap.size, 2, none⟩ = some (.int .i64 f.c) := cell_of hb.box 2
      have hfz : wr.frozen? ⟨w1.heap.size, 2, none⟩ = false := free_of hb.box 2
      have hix := idx2
      clear hb
      go_wp2_with fail
      go_region
      go_wp2_with fail
      go_roundw
      case rel => exact ⟨2 + 1, by omega, by go_num, B.out.next HSZ.out _ rfl⟩
      case measure => simp [intOf]
    · have x0 : wr.cell? ⟨w1.heap.size, 3, none⟩ = some (.int .i64 f.d) := cell_of hb.box 3
      have hfz : wr.frozen? ⟨w1.heap.size, 3, none⟩ = false := free_of hb.box 3
      have hix := idx3
      clear hb
      go_wp2_with fail
      go_region
      go_wp2_with fail
      go_roundw
      case rel => exact ⟨3 + 1, by omega, by go_num, B.out.next HSZ.out _ rfl⟩
      case measure => simp [intOf]
    · have x0 : wr.cell? ⟨w1.heap.size, 0, none⟩ = some (.int .i64 (clamp f).a) := cell_of hb.box 0
      have x1 : wr.cell? ⟨w1.heap.size, 1, none⟩ = some (.int .i64 (clamp f).b) := cell_of hb.box 1
      have x2 : wr.cell? ⟨w1.heap.size, 2, none⟩ = some (.int .i64 (clamp f).c) := cell_of hb.box 2
      have x3 : wr.cell? ⟨w1.heap.size, 3, none⟩ = some (.int .i64 (clamp f).d) := cell_of hb.box 3
      have J := Lib.hid (pjoin (clamp f).a (clamp f).b (clamp f).c (clamp f).d wr)
      have BB : Hid (Below w.heap.size w wr) := Lib.hid hb.below
      have BO := Lib.hid hb.out
      clear hb B
      generalize hq : clamp f = q at *
      have HQ := Lib.hid hq
      clear hq
      go_wp2_with fail
      refine (J.out).mono ?_; rintro e w5 ⟨rfl, hb5⟩
      have B5 := Lib.hid (BB.out.trans (hb5.mono BB.out.size))
      have hx := (hb5.block _ (lt_of_block BO.out)).trans BO.out
      have y0 : w5.cell? ⟨w.heap.size + 1, 0, none⟩ = some (.int .i64 0) := cell_of hx 0
      have y1 : w5.cell? ⟨w.heap.size + 1, 1, none⟩ = some (.int .i64 0) := cell_of hx 1
      have y2 : w5.cell? ⟨w.heap.size + 1, 2, none⟩ = some (.int .i64 0) := cell_of hx 2
      have y3 : w5.cell? ⟨w.heap.size + 1, 3, none⟩ = some (.int .i64 0) := cell_of hx 3
      have z0 : w5.frozen? ⟨w.heap.size + 1, 0, none⟩ = false := free_of hx 0
      have z1 : w5.frozen? ⟨w.heap.size + 1, 1, none⟩ = false := free_of hx 1
      have z2 : w5.frozen? ⟨w.heap.size + 1, 2, none⟩ = false := free_of hx 2
      have z3 : w5.frozen? ⟨w.heap.size + 1, 3, none⟩ = false := free_of hx 3
      have B6 : Hid (Below w.heap.size w ((((w5.setCell ⟨w.heap.size + 1, 0, none⟩ (.int .i64 q.a)).setCell ⟨w.heap.size + 1, 1, none⟩ (.int .i64 q.b)).setCell ⟨w.heap.size + 1, 2, none⟩ (.int .i64 q.c)).setCell ⟨w.heap.size + 1, 3, none⟩ (.int .i64 q.d))) := Lib.hid ((((B5.out.setCell (by simp) _).setCell (by simp) _).setCell (by simp) _).setCell (by simp) _)
      clear hb5 J
      go_wp2_with fail
      have hy := set4 hx rfl (.int .i64 q.a) (.int .i64 q.b) (.int .i64 q.c) (.int .i64 q.d)
      clear y0 y1 y2 y3 z0 z1 z2 z3 x0 x1 x2 x3
      generalize (((w5.setCell ⟨w.heap.size + 1, 0, none⟩ (.int .i64 q.a)).setCell ⟨w.heap.size + 1, 1, none⟩ (.int .i64 q.b)).setCell ⟨w.heap.size + 1, 2, none⟩ (.int .i64 q.c)).setCell ⟨w.heap.size + 1, 3, none⟩ (.int .i64 q.d) = W6 at *
      have y0 : W6.cell? ⟨w.heap.size + 1, 0, none⟩ = some (.int .i64 q.a) := cell_of hy 0
      have y1 : W6.cell? ⟨w.heap.size + 1, 1, none⟩ = some (.int .i64 q.b) := cell_of hy 1
      have y2 : W6.cell? ⟨w.heap.size + 1, 2, none⟩ = some (.int .i64 q.c) := cell_of hy 2
      have y3 : W6.cell? ⟨w.heap.size + 1, 3, none⟩ = some (.int .i64 q.d) := cell_of hy 3
      exact bodyPost_ret (v := .agg #[.int .i64 q.a, .int .i64 q.b, .int .i64 q.c, .int .i64 q.d]) (by simp [results, Tryd.results26, go_sem, y0, y1, y2, y3]) rfl ⟨by rw [HQ.out], B6.out⟩
end Go.Proofs.YtabihdhgonnihaaDoor

/- A whole payload is read by the program. -/
import Derived.Test.YthnoihdojinocaaW
import Derived.Recover
namespace Go.Proofs.Ythnoihdojinocaa
open Go.ChangeShapes Go.WideShapes Go.ChangeAt Go.RowKit
set_option linter.unusedVariables false
set_option linter.unusedSimpArgs false

def KCm (w0 : World) (k : Nat) (o : Option Cm) (e : Ending) (w' : World) : Prop := match o with
  | none => e = PN ∧ Touch (fun i => i = k) w0 w'
  | some c => ∃ ad cd ab cb, e = .returned (.agg (cmV c (.slice ad c.d.length cd) (.slice ab c.b.length cb))) ∧ LsAt w' c ad cd ab cb ∧ Touch (fun i => i = k) w0 w' ∧ (∀ y, ad = some y → w0.heap.size ≤ y.block) ∧ (∀ y, ab = some y → w0.heap.size ≤ y.block)
theorem kcm_no {w0 w' : World} {k : Nat} (h : Touch (fun i => i = k) w0 w') : KCm w0 k none PN w' := ⟨rfl, h⟩
set_option maxRecDepth 100000 in
set_option maxHeartbeats 8000000 in
theorem pcommand_nil {w0 w : World} {k : Nat} (h : KR w0 k [] w) : Calls Try.prog 43 #[.pointer (some ⟨k, 0, none⟩)] w (KCm w0 k none) := by
  obtain ⟨a, n, c, h1, h2, -⟩ := h.row
  obtain rfl : n = 0 := h2.u8
  have k0 : w.cell? ⟨k, 0, none⟩ = some (.slice a 0 c) := cell_of h1 0
  have hkw := lt_of_block h1
  have B := Lib.hid (h.below)
  clear h h1 h2
  go_enter Try.func43, Try.ntmps43
  go_wp2_with fail
  exact ⟨rfl, kcm_no (B.out.alloc _)⟩
/-- The command's cells are laid, and the first byte is taken off. -/
theorem kx_new {w : World} {k o n c b off : Nat} {r : List Nat} (h1 : w.heap[k]? = some (.cells #[.slice (some ⟨b, off, none⟩) n c] 67 (0, 0))) (h2 : IsK .u8 w (some ⟨b, off, none⟩) n c (ns (o :: r))) (hbk : b ≠ k) (hby : By r) (z : Array Value) :
    KX ((w.setCell ⟨k, 0, none⟩ (.slice (part (some ⟨b, off, none⟩) 1 c 1) (n - 1) (c - 1))).alloc (.cells z 27)) k (w.heap.size + 1) (nul (o : Int)) r
      (((w.setCell ⟨k, 0, none⟩ (.slice (part (some ⟨b, off, none⟩) 1 c 1) (n - 1) (c - 1))).alloc (.cells z 27)).alloc (.cells #[.int .i64 (o : Int), .int .u64 0, .int .u64 0, .int .i64 0, .int .i64 0, .slice none 0 0, .slice none 0 0] 27)) := by
  have hkw := lt_of_block h1
  have hn : n = r.length + 1 := h2.u8
  have hS := h2.tail (l := 1) (by omega)
  have hT : Touch (fun i => i = k) w ((w.setCell ⟨k, 0, none⟩ (.slice (part (some ⟨b, off, none⟩) 1 c 1) (n - 1) (c - 1))).alloc (.cells z 27)) := ((Touch.refl (fun i => i = k) w).setCell (p := ⟨k, 0, none⟩) (fun _ => rfl) _).alloc _
  have hP : ∀ y, part (some ⟨b, off, none⟩) 1 c 1 = some y → y.block ≠ k := fun y hy => by
    obtain ⟨x, hx, e⟩ := part_block hy
    cases hx; rw [e]; exact hbk
  refine ⟨⟨⟨part (some ⟨b, off, none⟩) 1 c 1, n - 1, c - 1, block_old (block_old ?_ _) _, ?_, fun _ => hP⟩, (Touch.refl _ _).alloc _, hby⟩, ⟨none, 0, none, 0, ?_, ⟨IsSl.nil _, IsSl.nil _⟩, fun y h => (by cases h), fun y h => (by cases h)⟩, by omega, ?_⟩
  · rw [set_of h1]; rfl
  · exact IsSl.keep (S := fun i => i = k) (by simpa [ns] using hS) hT (fun _ x hx e => hP x hx e)
  · have := block_new ((w.setCell ⟨k, 0, none⟩ (.slice (part (some ⟨b, off, none⟩) 1 c 1) (n - 1) (c - 1))).alloc (.cells z 27)) (.cells #[.int .i64 (o : Int), .int .u64 0, .int .u64 0, .int .i64 0, .int .i64 0, .slice none 0 0, .slice none 0 0] 27)
    rw [show ((w.setCell ⟨k, 0, none⟩ (.slice (part (some ⟨b, off, none⟩) 1 c 1) (n - 1) (c - 1))).alloc (.cells z 27)).heap.size = w.heap.size + 1 by simp] at this
    exact this
  · simp
theorem LsAt.keepT {S : Nat → Prop} {w w' : World} {c : Cm} {ad ab : Option Addr} {cd cb : Nat} (h : LsAt w c ad cd ab cb) (ht : Touch S w w') (h1 : ∀ y, ad = some y → ¬ S y.block) (h2 : ∀ y, ab = some y → ¬ S y.block) : LsAt w' c ad cd ab cb :=
  ⟨h.d.keep ht (fun _ y hy => h1 y hy), h.b.keep ht (fun _ y hy => h2 y hy)⟩
theorem touch7 (w : World) (x : Nat) (v0 v1 v2 v3 v4 v5 v6 : Value) : Touch (fun i => i = x) w (((((((w.setCell ⟨x, 0, none⟩ v0).setCell ⟨x, 1, none⟩ v1).setCell ⟨x, 2, none⟩ v2).setCell ⟨x, 3, none⟩ v3).setCell ⟨x, 4, none⟩ v4).setCell ⟨x, 5, none⟩ v5).setCell ⟨x, 6, none⟩ v6) :=
  (((((((Touch.refl (fun i => i = x) w).setCell (p := ⟨x, 0, none⟩) (fun _ => rfl) v0).setCell (p := ⟨x, 1, none⟩) (fun _ => rfl) v1).setCell (p := ⟨x, 2, none⟩) (fun _ => rfl) v2).setCell (p := ⟨x, 3, none⟩) (fun _ => rfl) v3).setCell (p := ⟨x, 4, none⟩) (fun _ => rfl) v4).setCell (p := ⟨x, 5, none⟩) (fun _ => rfl) v5).setCell (p := ⟨x, 6, none⟩) (fun _ => rfl) v6
theorem set7 {w : World} {x : Nat} {cs : Array Value} {t : TypeId} (h : w.heap[x]? = some (.cells cs t (0, 0))) (hs : cs.size = 7) (v0 v1 v2 v3 v4 v5 v6 : Value) :
    (((((((w.setCell ⟨x, 0, none⟩ v0).setCell ⟨x, 1, none⟩ v1).setCell ⟨x, 2, none⟩ v2).setCell ⟨x, 3, none⟩ v3).setCell ⟨x, 4, none⟩ v4).setCell ⟨x, 5, none⟩ v5).setCell ⟨x, 6, none⟩ v6).heap[x]? = some (.cells #[v0, v1, v2, v3, v4, v5, v6] t (0, 0)) := by
  have hcs : ∃ a b c d e f g, cs = #[a, b, c, d, e, f, g] := by
    obtain ⟨l⟩ := cs
    match l, hs with
    | [a, b, c, d, e, f, g], _ => exact ⟨a, b, c, d, e, f, g, rfl⟩
  obtain ⟨u0, u1, u2, u3, u4, u5, u6, rfl⟩ := hcs
  rw [set_of (set_of (set_of (set_of (set_of (set_of (set_of h 0 v0) 1 v1) 2 v2) 3 v3) 4 v4) 5 v5) 6 v6]
  rfl
def zc : Array Value := #[.int .i64 0, .int .u64 0, .int .u64 0, .int .i64 0, .int .i64 0, .slice none 0 0, .slice none 0 0]
theorem zc_eq : (#[.int .i64 0, .int .u64 0, .int .u64 0, .int .i64 0, .int .i64 0, .slice none 0 0, .slice none 0 0] : Array Value) = zc := rfl
set_option maxRecDepth 100000 in
set_option maxHeartbeats 8000000 in
theorem pcommand_cons {w0 w : World} {k o : Nat} {r : List Nat} (h : KR w0 k (o :: r) w) : Calls Try.prog 43 #[.pointer (some ⟨k, 0, none⟩)] w (KCm w0 k (cmdOf (o :: r))) := by
  obtain ⟨a, n, c, h1, h2', hN⟩ := h.row
  have h2 := KR.sl h2' hN h.below
  obtain ⟨b, off, rfl, hbw, -⟩ := h2.at_ (by simp [ns])
  have hn : n = r.length + 1 := h2.u8
  have x0 := h2.cellK (i := 0) (by simp [ns])
  have k0 : w.cell? ⟨k, 0, none⟩ = some (.slice (some ⟨b, off, none⟩) n c) := cell_of h1 0
  have kf : w.frozen? ⟨k, 0, none⟩ = false := free_of h1 0
  have hkw := lt_of_block h1
  have x1 : w.cell? ⟨b, off, none⟩ = some (.int .u8 (o : Int)) := by simpa [ns] using x0
  have ho : o < 256 := h.bytes o (by simp)
  have hnc := h2.hle; have hmx := h2.hmax
  unfold maxLen at hmx
  have hn0 : 0 < n := by omega
  have e0 : ((n : Int) == 0) = false := by simp; omega
  have e0' : (n == 0) = false := by simp; omega
  have hs := run_from Try.underlying29 size1 (a := some ⟨b, off, none⟩) (len := n) (cap := c) (l := 1) (k := 1) rfl (by omega)
  have HW0 := Lib.hid h.below.size
  have KN := Lib.hid (kx_new h1 h2 (hN (by simp) _ rfl) (fun x hx => h.bytes x (List.mem_cons_of_mem _ hx)) zc)
  have TW : Hid (Touch (fun i => i = k) w0 ((w.setCell ⟨k, 0, none⟩ (.slice (part (some ⟨b, off, none⟩) 1 c 1) (n - 1) (c - 1))).alloc (.cells zc 27))) := Lib.hid ((h.below.setCell (p := ⟨k, 0, none⟩) (fun _ => rfl) _).alloc _)
  have hrow := block_new (w.setCell ⟨k, 0, none⟩ (.slice (part (some ⟨b, off, none⟩) 1 c 1) (n - 1) (c - 1))) (.cells zc 27)
  have RW : Hid (((w.setCell ⟨k, 0, none⟩ (.slice (part (some ⟨b, off, none⟩) 1 c 1) (n - 1) (c - 1))).alloc (.cells zc 27)).heap[w.heap.size]? = some (.cells zc 27 (0, 0))) := Lib.hid (by
    rwa [show (w.setCell ⟨k, 0, none⟩ (.slice (part (some ⟨b, off, none⟩) 1 c 1) (n - 1) (c - 1))).heap.size = w.heap.size by simp] at hrow)
  generalize part (some ⟨b, off, none⟩) 1 c 1 = pa at *
  clear x0 hn h h1 h2 h2' hN hrow
  cases hu : uses (o : Int) with
  | none =>
    have hR : cmdOf (o :: r) = none := by simp only [cmdOf, hu]
    rw [hR]
    have V := Lib.hid (pvr_no KN.out hu)
    clear hu hR KN
    unfold zc at *
    go_enter Try.func43, Try.ntmps43
    go_wp2_with fail
    refine (V.out).mono ?_; rintro e w2 ⟨rfl, hk⟩
    have T2 := Lib.hid (TW.out.trans hk.rd.below)
    clear hk
    go_wp2_with fail
    exact ⟨rfl, kcm_no T2.out⟩
  | some fs =>
    have V := Lib.hid (pvr KN.out rfl rfl hu)
    cases hg : getFs fs (nul (o : Int)) r with
    | none =>
      have hR : cmdOf (o :: r) = none := by simp only [cmdOf, hu, hg]
      rw [hR]
      rw [hg] at V
      clear hu hR KN hg
      unfold zc at *
      go_enter Try.func43, Try.ntmps43
      go_wp2_with fail
      refine (V.out).mono ?_; rintro e w2 ⟨rfl, hk⟩
      have T2 := Lib.hid (TW.out.trans hk)
      clear hk
      go_wp2_with fail
      exact ⟨rfl, kcm_no T2.out⟩
    | some p =>
      obtain ⟨c', r'⟩ := p
      rw [hg] at V
      cases r' with
      | cons x r' =>
        have hR : cmdOf (o :: r) = none := by simp only [cmdOf, hu, hg]
        rw [hR]
        clear hu hR KN hg
        unfold zc at *
        go_enter Try.func43, Try.ntmps43
        go_wp2_with fail
        refine (V.out).mono ?_; rintro e w2 ⟨rfl, hk⟩
        have T2 := Lib.hid (TW.out.trans hk.rd.below)
        obtain ⟨a2, n2, c2, g1, g2, -⟩ := hk.rd.row
        have k2 : w2.cell? ⟨k, 0, none⟩ = some (.slice a2 n2 c2) := cell_of g1 0
        have hn2 : n2 = r'.length + 1 := g2.u8
        have hn20 : 0 < n2 := by omega
        have e2 : decide ((0 : Int) < (n2 : Int)) = true := by simp; omega
        have e2' : decide (0 < n2) = true := by simp; omega
        clear hk g1 g2 hn2 k0 kf
        go_wp2_with fail
        exact ⟨rfl, kcm_no T2.out⟩
      | nil =>
        have hR : cmdOf (o :: r) = some c' := by simp only [cmdOf, hu, hg]
        rw [hR]
        clear hu hR KN hg
        unfold zc at *
        go_enter Try.func43, Try.ntmps43
        go_wp2_with fail
        refine (V.out).mono ?_; rintro e w2 ⟨rfl, hk⟩
        have T2 := Lib.hid (TW.out.trans hk.rd.below)
        obtain ⟨a2, n2, c2, g1, g2, -⟩ := hk.rd.row
        obtain rfl : n2 = 0 := g2.u8
        have k2 : w2.cell? ⟨k, 0, none⟩ = some (.slice a2 0 c2) := cell_of g1 0
        obtain ⟨ad, cd, ab, cb, g3, g4, g5, g6⟩ := hk.cells
        have G5 : Hid ((∀ y, ad = some y → w.heap.size < y.block) ∧ (∀ y, ab = some y → w.heap.size < y.block)) := Lib.hid ⟨fun y hy => by have := g5 y hy; simp at this; omega, fun y hy => by have := g6 y hy; simp at this; omega⟩
        have y0 : w2.cell? ⟨w.heap.size + 1, 0, none⟩ = some (.int .i64 c'.op) := cell_of g3 0
        have y1 : w2.cell? ⟨w.heap.size + 1, 1, none⟩ = some (.int .u64 c'.u) := cell_of g3 1
        have y2 : w2.cell? ⟨w.heap.size + 1, 2, none⟩ = some (.int .u64 c'.v) := cell_of g3 2
        have y3 : w2.cell? ⟨w.heap.size + 1, 3, none⟩ = some (.int .i64 c'.w) := cell_of g3 3
        have y4 : w2.cell? ⟨w.heap.size + 1, 4, none⟩ = some (.int .i64 c'.t) := cell_of g3 4
        have y5 : w2.cell? ⟨w.heap.size + 1, 5, none⟩ = some (.slice ad c'.d.length cd) := cell_of g3 5
        have y6 : w2.cell? ⟨w.heap.size + 1, 6, none⟩ = some (.slice ab c'.b.length cb) := cell_of g3 6
        have hR2 := hk.rd.below.keep RW.out (by omega)
        have RC := Lib.hid hR2
        have rf : ∀ i, w2.frozen? ⟨w.heap.size, i, none⟩ = false := fun i => free_of hR2 i
        have z0 : w2.cell? ⟨w.heap.size, 0, none⟩ = some (.int .i64 0) := cell_of hR2 0
        have z1 : w2.cell? ⟨w.heap.size, 1, none⟩ = some (.int .u64 0) := cell_of hR2 1
        have z2 : w2.cell? ⟨w.heap.size, 2, none⟩ = some (.int .u64 0) := cell_of hR2 2
        have z3 : w2.cell? ⟨w.heap.size, 3, none⟩ = some (.int .i64 0) := cell_of hR2 3
        have z4 : w2.cell? ⟨w.heap.size, 4, none⟩ = some (.int .i64 0) := cell_of hR2 4
        have z5 : w2.cell? ⟨w.heap.size, 5, none⟩ = some (.slice none 0 0) := cell_of hR2 5
        have z6 : w2.cell? ⟨w.heap.size, 6, none⟩ = some (.slice none 0 0) := cell_of hR2 6
        have LS := Lib.hid g4
        clear hk g1 g2 g3 g4 g5 g6 hR2 k0 kf
        go_wp2_with fail
        refine bodyPost_ret (v := .agg (cmV c' (.slice ad c'.d.length cd) (.slice ab c'.b.length cb))) ?_ rfl ?_
        · have h7 := set7 RC.out rfl (.int .i64 c'.op) (.int .u64 c'.u) (.int .u64 c'.v) (.int .i64 c'.w) (.int .i64 c'.t) (.slice ad c'.d.length cd) (.slice ab c'.b.length cb)
          have q0 := cell_of h7 0
          have q1 := cell_of h7 1
          have q2 := cell_of h7 2
          have q3 := cell_of h7 3
          have q4 := cell_of h7 4
          have q5 := cell_of h7 5
          have q6 := cell_of h7 6
          clear h7 x1 k2 y0 y1 y2 y3 y4 y5 y6 z0 z1 z2 z3 z4 z5 z6
          simp [results, Try.results43, go_sem, cmV, q0, q1, q2, q3, q4, q5, q6]
        · have h7 := touch7 w2 w.heap.size (.int .i64 c'.op) (.int .u64 c'.u) (.int .u64 c'.v) (.int .i64 c'.w) (.int .i64 c'.t) (.slice ad c'.d.length cd) (.slice ab c'.b.length cb)
          refine ⟨ad, cd, ab, cb, rfl, LS.out.keepT h7 (fun y hy e => ?_) (fun y hy e => ?_), T2.out.trans' h7 (fun i hi e => ?_), fun y hy => ?_, fun y hy => ?_⟩
          · have := G5.out.1 y hy; omega
          · have := G5.out.2 y hy; omega
          · have := HW0.out; omega
          · have := G5.out.1 y hy; have := HW0.out; omega
          · have := G5.out.2 y hy; have := HW0.out; omega
theorem pcommand {w0 w : World} {k : Nat} {p : List Nat} (h : KR w0 k p w) : Calls Try.prog 43 #[.pointer (some ⟨k, 0, none⟩)] w (KCm w0 k (cmdOf p)) := by
  cases p with
  | nil => exact pcommand_nil h
  | cons o r => exact pcommand_cons h
end Go.Proofs.Ythnoihdojinocaa

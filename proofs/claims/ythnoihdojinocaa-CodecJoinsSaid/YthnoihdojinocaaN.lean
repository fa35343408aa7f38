/- The fields of a command are written. -/
import Derived.Test.YthnoihdojinocaaM
namespace Go.Proofs.Ythnoihdojinocaa
open Go.ChangeShapes Go.WideShapes Go.ChangeAt Go.RowKit
set_option linter.unusedVariables false
set_option linter.unusedSimpArgs false

theorem OutR.touch {α : Type} {sz : Nat} {enc : α → List Value} {e : TypeId} {S : Nat → Prop} {w w' : World} {B : Nat} {v : Value} {zs : List α} (h : OutR sz enc e w B v zs) (ht : Touch S w w') (hs : ∀ g, v.ownBlock = some g → ¬ S g) : OutR sz enc e w' B v zs := ⟨ownsRow_touch h.row ht hs, h.blk⟩
/-- A writer in block k, with its bytes; below B nothing has changed. -/
structure KW (w0 : World) (B k : Nat) (zs : List Nat) (wr : World) : Prop where
  row : ∃ v, wr.heap[k]? = some (.cells #[v] 75 (0, 0)) ∧ OutR 1 (encK .u8) 5 wr B v (ns zs) ∧ v.ownBlock ≠ some k
  below : Below B w0 wr
  le : B ≤ k
theorem KW.drew {w0 wr : World} {B k : Nat} {zs : List Nat} (h : KW w0 B k zs wr) : KW w0 B k zs wr.drew := by
  obtain ⟨⟨v, h1, h2, h3⟩, h4, h5⟩ := h
  exact ⟨⟨v, h1, h2.touch (Touch.refl (fun _ => False) wr).drew (fun _ _ h => h), h3⟩, ⟨h4.os, h4.tape, h4.output, h4.size, h4.block⟩, h5⟩
def KWp (w0 : World) (B k : Nat) (zs : List Nat) (e : Ending) (w' : World) : Prop := e = .returned (.tuple #[]) ∧ KW w0 B k zs w'
theorem kw_next {w0 w w1 : World} {B k : Nat} {v v' : Value} {z2 : List Nat} (hb : Below B w0 w) (hk : B ≤ k) (hc : w.heap[k]? = some (.cells #[v] 75 (0, 0))) (hne : v.ownBlock ≠ some k) (h : ApW B v w v' z2 w1) :
    w1.heap[k]? = some (.cells #[v] 75 (0, 0)) ∧ KW w0 B k z2 (w1.setCell ⟨k, 0, none⟩ v') := by
  have h1 : w1.heap[k]? = some (.cells #[v] 75 (0, 0)) := h.touch.keep hc hne
  have hne' : v'.ownBlock ≠ some k := fun e => (h.blk k e).elim hne (fun e => by have := lt_of_block hc; omega)
  refine ⟨h1, ⟨⟨v', by rw [set_of h1]; rfl, ?_, hne'⟩, (hb.trans h.below).setCell (p := ⟨k, 0, none⟩) hk _, hk⟩⟩
  exact h.out.touch ((Touch.refl (fun b => b = k) w1).setCell (p := ⟨k, 0, none⟩) (fun _ => rfl) v') (fun g hg e => hne' (by rw [hg, e]))
section
variable {w0 w : World} {B k : Nat} {zs : List Nat}
set_option maxRecDepth 100000 in
set_option maxHeartbeats 4000000 in
theorem kw_u (h : KW w0 B k zs w) {b o n : Nat} (hc : w0.cell? ⟨b, o, none⟩ = some (.int .u64 (n : Int))) (hb : b < B) (hn : n < 18446744073709551616) (hl : zs.length ≤ 10000000) (hB : B ≤ w0.heap.size) :
    Calls Try.prog 77 #[.pointer (some ⟨k, 0, none⟩), .pointer (some ⟨b, o, none⟩)] w (KWp w0 B k (zs ++ vi n)) := by
  obtain ⟨⟨v, h1, h2, h3⟩, h4, h5⟩ := h
  obtain ⟨av, cv, rfl⟩ := own_shape h2.row
  have x0 : w.cell? ⟨b, o, none⟩ = some (.int .u64 (n : Int)) := by rw [h4.cell (p := ⟨b, o, none⟩) hb]; exact hc
  have k0 : w.cell? ⟨k, 0, none⟩ = some (.slice av (ns zs).length cv) := cell_of h1 0
  have P := Lib.hid (pau (w := w.drew) (h2.touch (Touch.refl (fun _ => False) w).drew (fun _ _ h => h)) (Nat.le_trans hB h4.size) hn hl)
  have H1 := Lib.hid h1; have H3 := Lib.hid h3; have H4 := Lib.hid h4
  clear h1 h2 h3 h4
  go_enter Try.func77, Try.ntmps77
  go_region_with (go_at_call 45; refine (P.out).mono ?_; rintro e w1 ⟨v1, rfl, hap⟩; obtain ⟨a1, c1, rfl⟩ := own_shape hap.out.row; obtain ⟨g1, g2⟩ := kw_next (w := w.drew) (B := B) (k := k) (w0 := w0) ⟨H4.out.os, H4.out.tape, H4.out.output, H4.out.size, H4.out.block⟩ h5 H1.out H3.out hap; have G2 := Lib.hid g2; have c0 : w1.cell? ⟨k, 0, none⟩ = some (.slice av (ns zs).length cv) := cell_of g1 0; have f1 := free_of g1 0; clear g1 g2 hap)
  all_goals (go_end0; exact ⟨rfl, G2.out⟩)
set_option maxRecDepth 100000 in
set_option maxHeartbeats 4000000 in
theorem kw_s (h : KW w0 B k zs w) {b o : Nat} {n : Int} (hc : w0.cell? ⟨b, o, none⟩ = some (.int .i64 n)) (hb : b < B) (hn : -9223372036854775808 ≤ n ∧ n ≤ 9223372036854775807) (hl : zs.length ≤ 10000000) (hB : B ≤ w0.heap.size) :
    Calls Try.prog 76 #[.pointer (some ⟨k, 0, none⟩), .pointer (some ⟨b, o, none⟩)] w (KWp w0 B k (zs ++ vf n)) := by
  obtain ⟨⟨v, h1, h2, h3⟩, h4, h5⟩ := h
  obtain ⟨av, cv, rfl⟩ := own_shape h2.row
  have x0 : w.cell? ⟨b, o, none⟩ = some (.int .i64 n) := by rw [h4.cell (p := ⟨b, o, none⟩) hb]; exact hc
  have k0 : w.cell? ⟨k, 0, none⟩ = some (.slice av (ns zs).length cv) := cell_of h1 0
  have P := Lib.hid (pau (w := w.drew) (h2.touch (Touch.refl (fun _ => False) w).drew (fun _ _ h => h)) (Nat.le_trans hB h4.size) (fold_lt hn) hl)
  have P2 := Lib.hid (pfold hn w.drew)
  have H1 := Lib.hid h1; have H3 := Lib.hid h3; have H4 := Lib.hid h4
  clear h1 h2 h3 h4
  unfold vf
  generalize vi (fold n) = vn at *
  generalize fold n = fn at *
  go_enter Try.func76, Try.ntmps76
  go_region_with (first | (go_at_call 46; refine (P2.out).mono ?_; rintro e w1 ⟨rfl, rfl⟩) | (go_at_call 45; refine (P.out).mono ?_; rintro e w1 ⟨v1, rfl, hap⟩; obtain ⟨a1, c1, rfl⟩ := own_shape hap.out.row; obtain ⟨g1, g2⟩ := kw_next (w := w.drew) (B := B) (k := k) (w0 := w0) ⟨H4.out.os, H4.out.tape, H4.out.output, H4.out.size, H4.out.block⟩ h5 H1.out H3.out hap; have G2 := Lib.hid g2; have c0 : w1.cell? ⟨k, 0, none⟩ = some (.slice av (ns zs).length cv) := cell_of g1 0; have f1 := free_of g1 0; clear g1 g2 hap))
  all_goals (go_end0; exact ⟨rfl, G2.out⟩)
end
end Go.Proofs.Ythnoihdojinocaa

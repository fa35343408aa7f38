/- The fields of a command that lies in memory are written. -/
import Derived.Test.YthnoihdojinocaaP
namespace Go.Proofs.Ythnoihdojinocaa
open Go.ChangeShapes Go.WideShapes Go.ChangeAt Go.RowKit
set_option linter.unusedVariables false
set_option linter.unusedSimpArgs false

/-- A command in block x, below B, with its lists. -/
structure CmAt (w0 : World) (B x : Nat) (c : Cm) : Prop where
  cells : ∃ ad cd ab cb, w0.heap[x]? = some (.cells (cmV c (.slice ad c.d.length cd) (.slice ab c.b.length cb)) 27 (0, 0)) ∧ IsK .u64 w0 ad c.d.length cd (ns c.d) ∧ IsK .i64 w0 ab c.b.length cb c.b ∧ (c.d ≠ [] → ∀ y, ad = some y → y.block < B) ∧ (c.b ≠ [] → ∀ y, ab = some y → y.block < B)
  lt : x < B
  le : B ≤ w0.heap.size
  ok : c.ok
  hd : c.d.length ≤ 16384
  hb : c.b.length ≤ 1024
/-- The writer, with a bound on its bytes. -/
def KWb (w0 : World) (B k : Nat) (zs : List Nat) (N : Nat) (wr : World) : Prop := KW w0 B k zs wr ∧ zs.length ≤ N
theorem KWb.drew {w0 wr : World} {B k N : Nat} {zs : List Nat} (h : KWb w0 B k zs N wr) : KWb w0 B k zs N wr.drew := ⟨h.1.drew, h.2⟩
def KWq (w0 : World) (B k : Nat) (zs : List Nat) (N : Nat) (e : Ending) (w' : World) : Prop := e = .returned (.tuple #[]) ∧ KWb w0 B k zs N w'
section
variable {w0 w : World} {B k x N : Nat} {zs : List Nat} {c : Cm}
theorem kwq (C : CmAt w0 B x c) (f : Fd) {e : Ending} {w' : World} (hz : zs.length ≤ N) (h : KWp w0 B k (zs ++ encF c f) e w') : KWq w0 B k (zs ++ encF c f) (N + 163850) e w' :=
  ⟨h.1, h.2, by have := encF_len C.ok C.hd C.hb f; rw [List.length_append]; omega⟩
theorem kwf_u (C : CmAt w0 B x c) (hN : N ≤ 1000000) (h : KWb w0 B k zs N w) : Calls Try.prog 77 #[.pointer (some ⟨k, 0, none⟩), .pointer (some ⟨x, 1, none⟩)] w (KWq w0 B k (zs ++ encF c .u) (N + 163850)) := by
  obtain ⟨ad, cd, ab, cb, hc, hd, hb, h1, h2⟩ := C.cells
  exact (kw_u h.1 (cell_of hc 1) C.lt C.ok.u (by have := h.2; omega) C.le).mono fun e w' => kwq C .u h.2
theorem kwf_v (C : CmAt w0 B x c) (hN : N ≤ 1000000) (h : KWb w0 B k zs N w) : Calls Try.prog 77 #[.pointer (some ⟨k, 0, none⟩), .pointer (some ⟨x, 2, none⟩)] w (KWq w0 B k (zs ++ encF c .v) (N + 163850)) := by
  obtain ⟨ad, cd, ab, cb, hc, hd, hb, h1, h2⟩ := C.cells
  exact (kw_u h.1 (cell_of hc 2) C.lt C.ok.v (by have := h.2; omega) C.le).mono fun e w' => kwq C .v h.2
theorem kwf_w (C : CmAt w0 B x c) (hN : N ≤ 1000000) (h : KWb w0 B k zs N w) : Calls Try.prog 76 #[.pointer (some ⟨k, 0, none⟩), .pointer (some ⟨x, 3, none⟩)] w (KWq w0 B k (zs ++ encF c .w) (N + 163850)) := by
  obtain ⟨ad, cd, ab, cb, hc, hd, hb, h1, h2⟩ := C.cells
  exact (kw_s h.1 (cell_of hc 3) C.lt C.ok.w (by have := h.2; omega) C.le).mono fun e w' => kwq C .w h.2
theorem kwf_t (C : CmAt w0 B x c) (hN : N ≤ 1000000) (h : KWb w0 B k zs N w) : Calls Try.prog 76 #[.pointer (some ⟨k, 0, none⟩), .pointer (some ⟨x, 4, none⟩)] w (KWq w0 B k (zs ++ encF c .t) (N + 163850)) := by
  obtain ⟨ad, cd, ab, cb, hc, hd, hb, h1, h2⟩ := C.cells
  exact (kw_s h.1 (cell_of hc 4) C.lt C.ok.t (by have := h.2; omega) C.le).mono fun e w' => kwq C .t h.2
theorem kwf_d (C : CmAt w0 B x c) (hN : N ≤ 1000000) (h : KWb w0 B k zs N w) : Calls Try.prog 75 #[.pointer (some ⟨k, 0, none⟩), .pointer (some ⟨x, 5, none⟩)] w (KWq w0 B k (zs ++ encF c .d) (N + 163850)) := by
  obtain ⟨ad, cd, ab, cb, hc, hd, hb, h1, h2⟩ := C.cells
  exact (kw_d h.1 (cell_of hc 5) C.lt hd h1 C.ok.d (by have := C.hd; omega) (by have := h.2; omega) C.le).mono fun e w' => kwq C .d h.2
theorem kwf_b (C : CmAt w0 B x c) (hN : N ≤ 1000000) (h : KWb w0 B k zs N w) : Calls Try.prog 74 #[.pointer (some ⟨k, 0, none⟩), .pointer (some ⟨x, 6, none⟩)] w (KWq w0 B k (zs ++ encF c .b) (N + 163850)) := by
  obtain ⟨ad, cd, ab, cb, hc, hd, hb, h1, h2⟩ := C.cells
  exact (kw_b h.1 (cell_of hc 6) C.lt hb h2 C.ok.b (by have := C.hb; omega) (by have := h.2; omega) C.le).mono fun e w' => kwq C .b h.2
theorem CmAt.op (C : CmAt w0 B x c) (h : KWb w0 B k zs N w) : w.cell? ⟨x, 0, none⟩ = some (.int .i64 c.op) := by
  obtain ⟨ad, cd, ab, cb, hc, _⟩ := C.cells
  rw [h.1.below.cell (p := ⟨x, 0, none⟩) C.lt]
  exact cell_of hc 0
end
end Go.Proofs.Ythnoihdojinocaa

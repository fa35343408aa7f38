/- The document's Reading. -/
import Derived.Test.YthnoihdojinocaaZd
namespace Go.Proofs.Ythnoihdojinocaa
open Go.ChangeShapes Go.WideShapes Go.ChangeAt Go.RowKit
set_option linter.unusedVariables false
set_option linter.unusedSimpArgs false

/-- A Reading in block k; of the blocks of w0 none has changed. -/
structure KD (w0 : World) (k : Nat) (r : List Nat) (wg : Bool) (wr : World) : Prop where
  row : ∃ a n c, wr.heap[k]? = some (.cells #[.slice a n c, .bool wg] 90 (0, 0)) ∧ IsK .u8 w0 a n c (ns r)
  below : Below w0.heap.size w0 wr
  le : w0.heap.size ≤ k
  bytes : By r
theorem KD.keep {w0 w w' : World} {k : Nat} {r : List Nat} {wg : Bool} {S : Nat → Prop} (h : KD w0 k r wg w) (ht : Touch S w w') (hk : ¬ S k) (hs : ∀ i, S i → w0.heap.size ≤ i) : KD w0 k r wg w' := by
  obtain ⟨⟨a, n, c, h1, h2⟩, h3, h4, h5⟩ := h
  exact ⟨⟨a, n, c, ht.keep h1 hk, h2⟩, h3.trans (ht.below h3.size (fun i hi e => by have := hs i e; omega)), h4, h5⟩
def KDu (w0 : World) (k : Nat) (w : World) (r : List Nat) (wg : Bool) (ik : IntKind) (f : Nat → Int) (e : Ending) (w' : World) : Prop := match gu r with
  | none => e = .returned (.int ik 0) ∧ KD w0 k r true w' ∧ Touch (fun i => i = k) w w'
  | some (x, m) => e = .returned (.int ik (f x)) ∧ KD w0 k (r.drop m) wg w' ∧ Touch (fun i => i = k) w w'
theorem kd_set {w0 w : World} {k n c m : Nat} {r : List Nat} {wg : Bool} {a : Option Addr} (hk : w.heap[k]? = some (.cells #[.slice a n c, .bool wg] 90 (0, 0))) (hS : IsK .u8 w0 a n c (ns r)) (hB : Below w0.heap.size w0 w) (hle : w0.heap.size ≤ k) (hby : By r) (hm : m ≤ n) :
    KD w0 k (r.drop m) wg (w.setCell ⟨k, 0, none⟩ (.slice (part a m c 1) (n - m) (c - m))) := by
  refine ⟨⟨_, _, _, by rw [set_of hk]; rfl, ?_⟩, hB.setCell (p := ⟨k, 0, none⟩) hle _, hle, hby.drop m⟩
  have := hS.tail hm
  rwa [show (ns r).drop m = ns (r.drop m) by simp [ns, List.map_drop]] at this
theorem kd_bad {w0 w : World} {k n c : Nat} {r : List Nat} {wg : Bool} {a : Option Addr} (hk : w.heap[k]? = some (.cells #[.slice a n c, .bool wg] 90 (0, 0))) (hS : IsK .u8 w0 a n c (ns r)) (hB : Below w0.heap.size w0 w) (hle : w0.heap.size ≤ k) (hby : By r) :
    KD w0 k r true (w.setCell ⟨k, 1, none⟩ (.bool true)) := ⟨⟨_, _, _, by rw [set_of hk]; rfl, hS⟩, hB.setCell (p := ⟨k, 1, none⟩) hle _, hle, hby⟩
section
variable {w0 w : World} {k : Nat} {r : List Nat} {wg : Bool}
set_option maxRecDepth 100000 in
set_option maxHeartbeats 4000000 in
theorem rd_u (h : KD w0 k r wg w) : Calls Try.prog 47 #[.pointer (some ⟨k, 0, none⟩)] w (KDu w0 k w r wg .u64 (fun x => (x : Int))) := by
  obtain ⟨⟨a, n, c, hk, hS⟩, hB, hle, hby⟩ := h
  have k0 : w.cell? ⟨k, 0, none⟩ = some (.slice a n c) := cell_of hk 0
  have k1 : w.cell? ⟨k, 1, none⟩ = some (.bool wg) := cell_of hk 1
  have kf : ∀ i, w.frozen? ⟨k, i, none⟩ = false := fun i => free_of hk i
  have P := Lib.hid (rgu (hS.below hB) hby)
  unfold KDu
  cases hg : gu r with
  | none =>
    rw [hg] at P
    have D := Lib.hid (kd_bad hk hS hB hle hby)
    clear hk hS hB hg hle
    go_enter Try.func47, Try.ntmps47
    go_wp2_with fail
    refine (P.out).mono ?_; rintro e w1 ⟨rfl, rfl⟩
    unfold guV
    go_wp2_with fail
    go_ret
    exact ⟨rfl, D.out, (Touch.refl (fun i => i = k) w).setCell (p := ⟨k, 1, none⟩) (fun _ => rfl) _⟩
  | some p =>
    obtain ⟨x, m⟩ := p
    rw [hg] at P
    have hml := (gu_le hby hg).2.1
    have hnl := hS.u8
    have hmn : m ≤ n := by omega
    have hnc := hS.hle; have hmx := hS.hmax
    unfold maxLen at hmx
    have D := Lib.hid (kd_set (m := m) hk hS hB hle hby hmn)
    have hs := run_from Try.underlying29 size1 (a := a) (len := n) (cap := c) (l := (m : Int)) (k := m) rfl hmn
    generalize part a m c 1 = pa at *
    clear hk hS hB hg hml hnl hle
    go_enter Try.func47, Try.ntmps47
    go_wp2_with fail
    refine (P.out).mono ?_; rintro e w1 ⟨rfl, rfl⟩
    unfold guV
    go_wp2_with fail
    go_ret
    exact ⟨rfl, D.out, (Touch.refl (fun i => i = k) w).setCell (p := ⟨k, 0, none⟩) (fun _ => rfl) _⟩
set_option maxRecDepth 100000 in
set_option maxHeartbeats 4000000 in
theorem rd_s (h : KD w0 k r wg w) : Calls Try.prog 48 #[.pointer (some ⟨k, 0, none⟩)] w (KDu w0 k w r wg .i64 (fun x => unf x)) := by
  obtain ⟨⟨a, n, c, hk, hS⟩, hB, hle, hby⟩ := h
  have k0 : w.cell? ⟨k, 0, none⟩ = some (.slice a n c) := cell_of hk 0
  have k1 : w.cell? ⟨k, 1, none⟩ = some (.bool wg) := cell_of hk 1
  have kf : ∀ i, w.frozen? ⟨k, i, none⟩ = false := fun i => free_of hk i
  have P := Lib.hid (rgi (hS.below hB) hby)
  unfold KDu
  cases hg : gu r with
  | none =>
    rw [hg] at P
    have D := Lib.hid (kd_bad hk hS hB hle hby)
    clear hk hS hB hg hle
    go_enter Try.func48, Try.ntmps48
    go_wp2_with fail
    refine (P.out).mono ?_; rintro e w1 ⟨rfl, rfl⟩
    unfold giV
    go_wp2_with fail
    go_ret
    exact ⟨rfl, D.out, (Touch.refl (fun i => i = k) w).setCell (p := ⟨k, 1, none⟩) (fun _ => rfl) _⟩
  | some p =>
    obtain ⟨x, m⟩ := p
    rw [hg] at P
    have hml := (gu_le hby hg).2.1
    have hnl := hS.u8
    have hmn : m ≤ n := by omega
    have hnc := hS.hle; have hmx := hS.hmax
    unfold maxLen at hmx
    have D := Lib.hid (kd_set (m := m) hk hS hB hle hby hmn)
    have hs := run_from Try.underlying29 size1 (a := a) (len := n) (cap := c) (l := (m : Int)) (k := m) rfl hmn
    generalize part a m c 1 = pa at *
    clear hk hS hB hg hml hnl hle
    go_enter Try.func48, Try.ntmps48
    go_wp2_with fail
    refine (P.out).mono ?_; rintro e w1 ⟨rfl, rfl⟩
    unfold giV
    go_wp2_with fail
    go_ret
    exact ⟨rfl, D.out, (Touch.refl (fun i => i = k) w).setCell (p := ⟨k, 0, none⟩) (fun _ => rfl) _⟩
end
end Go.Proofs.Ythnoihdojinocaa

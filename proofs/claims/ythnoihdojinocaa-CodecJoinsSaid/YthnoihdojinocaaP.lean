/- The lists of a command are written. -/
import Derived.Test.YthnoihdojinocaaO
namespace Go.Proofs.Ythnoihdojinocaa
open Go.ChangeShapes Go.WideShapes Go.ChangeAt Go.RowKit
set_option linter.unusedVariables false
set_option linter.unusedSimpArgs false

theorem kw_d {w0 w : World} {B k : Nat} {zs : List Nat} {a : Option Addr} {n c b o : Nat} {l : List Nat} (h : KW w0 B k zs w) (hx : w0.cell? ⟨b, o, none⟩ = some (.slice a n c)) (hb : b < B) (hS : IsK .u64 w0 a n c (ns l)) (hab : l ≠ [] → ∀ x, a = some x → x.block < B) (hl : ∀ x ∈ l, x < 18446744073709551616) (hn : l.length ≤ 100000) (hz : zs.length ≤ 1000000) (hB : B ≤ w0.heap.size) :
    Calls Try.prog 75 #[.pointer (some ⟨k, 0, none⟩), .pointer (some ⟨b, o, none⟩)] w (KWp w0 B k (zs ++ encL vi l)) := by
  have x0 : w.cell? ⟨b, o, none⟩ = some (.slice a n c) := by rw [h.below.cell (p := ⟨b, o, none⟩) hb]; exact hx
  have P := Lib.hid (kw_all h hS hab hl hn hz hB)
  have hmf : ∀ (fn : Fn) (first cap : Array Value) (w : World), (Instr.makeFunc fn first cap).run Try.prog w = .ok (.func fn first cap) w := fun _ _ _ _ => rfl
  clear h hS hab hl hx
  go_enter Try.func75, Try.ntmps75
  go_wp2_with fail
  refine (P.out).mono ?_; rintro e w5 ⟨rfl, hk5⟩
  have K5 := Lib.hid hk5
  clear hk5
  go_wp2_with fail
  go_end0
  exact ⟨rfl, K5.out⟩
theorem kw_b {w0 w : World} {B k : Nat} {zs : List Nat} {a : Option Addr} {n c b o : Nat} {l : List Int} (h : KW w0 B k zs w) (hx : w0.cell? ⟨b, o, none⟩ = some (.slice a n c)) (hb : b < B) (hS : IsK .i64 w0 a n c l) (hab : l ≠ [] → ∀ x, a = some x → x.block < B) (hl : ∀ x ∈ l, -9223372036854775808 ≤ x ∧ x ≤ 9223372036854775807) (hn : l.length ≤ 100000) (hz : zs.length ≤ 1000000) (hB : B ≤ w0.heap.size) :
    Calls Try.prog 74 #[.pointer (some ⟨k, 0, none⟩), .pointer (some ⟨b, o, none⟩)] w (KWp w0 B k (zs ++ encL vf l)) := by
  have x0 : w.cell? ⟨b, o, none⟩ = some (.slice a n c) := by rw [h.below.cell (p := ⟨b, o, none⟩) hb]; exact hx
  have P := Lib.hid (kw_alls h hS hab hl hn hz hB)
  have hmf : ∀ (fn : Fn) (first cap : Array Value) (w : World), (Instr.makeFunc fn first cap).run Try.prog w = .ok (.func fn first cap) w := fun _ _ _ _ => rfl
  clear h hS hab hl hx
  go_enter Try.func74, Try.ntmps74
  go_wp2_with fail
  refine (P.out).mono ?_; rintro e w5 ⟨rfl, hk5⟩
  have K5 := Lib.hid hk5
  clear hk5
  go_wp2_with fail
  go_end0
  exact ⟨rfl, K5.out⟩
end Go.Proofs.Ythnoihdojinocaa

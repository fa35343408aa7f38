/- A command that came in, by value. -/
import Derived.Test.YthnoihdojinocaaZp
import Derived.Lib.SmallJoins
import Derived.ChangeSlices
namespace Go.Proofs.Ythnoihdojinocaa
open Go.ChangeShapes Go.WideShapes Go.ChangeAt Go.RowKit
set_option linter.unusedVariables false
set_option linter.unusedSimpArgs false

theorem ints_u64 {w : World} {a : Option Addr} {n c : Nat} {zs : List Int} (h : IsInts .u64 w a n c zs) : ∃ b : List Nat, IsK .u64 w a n c (ns b) ∧ (∀ x ∈ b, x < 18446744073709551616) := by
  have hw : ∀ x ∈ zs, 0 ≤ x ∧ x < 18446744073709551616 := fun x hx => by
    have := h.wf x hx
    simp only [Lit.wf, Bool.and_eq_true, decide_eq_true_eq] at this
    rw [show IntKind.u64.min = 0 from rfl, show IntKind.u64.max = 18446744073709551615 from rfl] at this
    omega
  have hz : zs = ns (zs.map Int.toNat) := by
    unfold ns
    rw [List.map_map]
    conv => lhs; rw [← List.map_id zs]
    refine List.map_congr_left (fun x hx => ?_)
    have := hw x hx
    show x = ((x.toNat : Nat) : Int)
    omega
  refine ⟨zs.map Int.toNat, by rw [← hz]; exact h.sl, fun x hx => ?_⟩
  obtain ⟨y, hy, rfl⟩ := List.mem_map.1 hx
  have := hw y hy
  omega
theorem field_ints {H : Type} {enc : TypeId × Value → H} {W : World} {k : IntKind} {t e : TypeId} {fuel : Nat} {v : Value} {x : DataW H × List MemPlace} (ht : Try.prog.underlying t = some (.slice e)) (he : Try.prog.underlying e = some (.int k)) (hc : Try.prog.cellsOf e = 1)
    (h : DataW.trod enc Try.prog W 0 (fun _ => true) true fuel t [v] = some x) : ∃ a n c zs, v = .slice a n c ∧ IsInts k W a n c zs := by
  rcases open_ints ht he hc h with ⟨hcs, _⟩ | ⟨x, l, c, zs, hcs, _, hl, hm, hz, _, hcell, hwz⟩
  · simp at hcs
    exact ⟨none, 0, 0, [], hcs, IsInts.nil _ _⟩
  · simp at hcs
    exact ⟨_, _, _, _, hcs, IsInts.mk' hl hm (by simpa using hz) hcell hwz⟩
theorem openCmd {H : Type} {enc : TypeId × Value → H} {W : World} {base : Nat} {v : Value} {d : DataW H} {p : List MemPlace} (hv : Value.okWide Try.prog W .any base 27 v)
    (h : DataW.Trod enc Try.prog W 0 (fun _ => true) true 27 v d p) : ∃ (c : Cm) (ad : Option Addr) (cd : Nat) (ab : Option Addr) (cb : Nat), v = .agg (cmV c (.slice ad c.d.length cd) (.slice ab c.b.length cb)) ∧ LsAt W c ad cd ab cb ∧ c.ok := by
  obtain ⟨cs, rfl, hsz⟩ := okWide_struct Try.underlying27 hv
  obtain ⟨fuel, hf⟩ := h
  obtain ⟨xs, n, _, _, _, hlen, hfl⟩ := DataW.trod_struct Try.underlying27 hf
  have h7 : cs.size = 7 := hsz.trans (by kernel_rfl)
  obtain ⟨c0, c1, c2, c3, c4, c5, c6, rfl⟩ : ∃ a b c d e f g, cs = #[a, b, c, d, e, f, g] := by
    obtain ⟨l⟩ := cs
    match l, h7 with
    | [a, b, c, d, e, f, g], _ => exact ⟨a, b, c, d, e, f, g, rfl⟩
  obtain ⟨y0, y1, y2, y3, y4, y5, y6, rfl⟩ : ∃ a b c d e f g, xs = [a, b, c, d, e, f, g] := by
    match xs, hlen with
    | [a, b, c, d, e, f, g], _ => exact ⟨a, b, c, d, e, f, g, rfl⟩
  have k22 : Try.prog.cellsOf 22 = 1 := by kernel_rfl
  have k23 : Try.prog.cellsOf 23 = 1 := by kernel_rfl
  have k2 : Try.prog.cellsOf 2 = 1 := by kernel_rfl
  have k24 : Try.prog.cellsOf 24 = 1 := by kernel_rfl
  have k25 : Try.prog.cellsOf 25 = 1 := by kernel_rfl
  have h0 : DataW.trod enc Try.prog W 0 (fun _ => true) true n 22 [c0] = some y0 := by simpa [Value.cells, k22] using hfl 0 _ rfl
  have h1 : DataW.trod enc Try.prog W 0 (fun _ => true) true n 23 [c1] = some y1 := by simpa [Value.cells, k23] using hfl 1 _ rfl
  have h2 : DataW.trod enc Try.prog W 0 (fun _ => true) true n 23 [c2] = some y2 := by simpa [Value.cells, k23] using hfl 2 _ rfl
  have h3 : DataW.trod enc Try.prog W 0 (fun _ => true) true n 2 [c3] = some y3 := by simpa [Value.cells, k2] using hfl 3 _ rfl
  have h4 : DataW.trod enc Try.prog W 0 (fun _ => true) true n 2 [c4] = some y4 := by simpa [Value.cells, k2] using hfl 4 _ rfl
  have h5 : DataW.trod enc Try.prog W 0 (fun _ => true) true n 24 [c5] = some y5 := by simpa [Value.cells, k24] using hfl 5 _ rfl
  have h6 : DataW.trod enc Try.prog W 0 (fun _ => true) true n 25 [c6] = some y6 := by simpa [Value.cells, k25] using hfl 6 _ rfl
  obtain ⟨n0, q0, _, w0⟩ := DataW.trod_int (k := .i64) (by kernel_rfl) h0
  obtain ⟨n1, q1, _, w1⟩ := DataW.trod_int (k := .u64) (by kernel_rfl) h1
  obtain ⟨n2, q2, _, w2⟩ := DataW.trod_int (k := .u64) (by kernel_rfl) h2
  obtain ⟨n3, q3, _, w3⟩ := DataW.trod_int (k := .i64) (by kernel_rfl) h3
  obtain ⟨n4, q4, _, w4⟩ := DataW.trod_int (k := .i64) (by kernel_rfl) h4
  obtain ⟨a5, l5, p5, z5, rfl, i5⟩ := field_ints Try.underlying24 Try.underlying23 k23 h5
  obtain ⟨a6, l6, p6, z6, rfl, i6⟩ := field_ints Try.underlying25 Try.underlying2 k2 h6
  obtain ⟨b5, s5, u5⟩ := ints_u64 i5
  obtain ⟨m1, e1, f1⟩ := u64_of w1
  obtain ⟨m2, e2, f2⟩ := u64_of w2
  have hl5 : l5 = b5.length := by rw [s5.hlen, ns_len]
  have hl6 : l6 = z6.length := i6.sl.hlen
  simp at q0 q1 q2 q3 q4
  subst q0 q1 q2 q3 q4 e1 e2 hl5 hl6
  refine ⟨⟨n0, m1, m2, n3, n4, b5, z6⟩, a5, p5, a6, p6, rfl, ⟨s5, i6.sl⟩, ⟨i64_of w0, f1, f2, i64_of w3, i64_of w4, u5, fun x hx => i64_of (i6.wf x hx)⟩⟩
end Go.Proofs.Ythnoihdojinocaa

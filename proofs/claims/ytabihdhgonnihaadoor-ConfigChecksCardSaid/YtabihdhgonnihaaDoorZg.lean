/- ConfigClamps: a configuration by value. -/
import Derived.Test.YtabihdhgonnihaaDoorF
import Derived.Test.YtabihdhgonnihaaDoorB
import Derived.ChangeMaps5
import Derived.Lib.SmallJoins
namespace Go.Proofs.YtabihdhgonnihaaDoor
open Go.ChangeShapes Go.WideShapes Go.ChangeAt Go.RowKit Go.Deep
set_option linter.unusedVariables false
set_option linter.unusedSimpArgs false

set_option maxRecDepth 100000 in
/-- A configuration, by value: it reads the same in every world. -/
theorem openRec {H : Type} {enc : TypeId × Value → H} {W : World} {base : Nat} {v : Value} {d : DataW H} {p : List MemPlace} (hv : Value.okWide Tryd.prog W .any base 25 v)
    (h : DataW.Trod enc Tryd.prog W 0 (fun _ => true) true 25 v d p) : ∃ r : {f : Cf // f.ok}, v = .agg #[.int .i64 r.1.a, .int .i64 r.1.b, .int .i64 r.1.c, .int .i64 r.1.d] ∧ ∀ (W' : World) (sp : Nat → Bool), DataW.Trod enc Tryd.prog W' 0 sp true 25 (.agg #[.int .i64 r.1.a, .int .i64 r.1.b, .int .i64 r.1.c, .int .i64 r.1.d]) d p := by
  obtain ⟨v0, v1, v2, v3, y0, y1, y2, y3, n, rfl, rfl, rfl, h0, h1, h2, h3⟩ := Joins.open_agg4 Tryd.underlying25 (by kernel_rfl) (by kernel_rfl) hv h
  obtain ⟨n0, q0, e0, w0⟩ := DataW.trod_int (k := .i64) (by kernel_rfl) h0
  obtain ⟨n1, q1, e1, w1⟩ := DataW.trod_int (k := .i64) (by kernel_rfl) h1
  obtain ⟨n2, q2, e2, w2⟩ := DataW.trod_int (k := .i64) (by kernel_rfl) h2
  obtain ⟨n3, q3, e3, w3⟩ := DataW.trod_int (k := .i64) (by kernel_rfl) h3
  simp at q0 q1 q2 q3
  subst q0 q1 q2 q3 e0 e1 e2 e3
  have b (n : Int) (w : (Lit.int .i64 n).wf = true) : -9223372036854775808 ≤ n ∧ n ≤ 9223372036854775807 := by
    simp [Lit.wf, IntKind.min, IntKind.max, IntKind.bits, IntKind.signed] at w
    omega
  refine ⟨⟨⟨n0, n1, n2, n3⟩, ⟨(b _ w0).1, (b _ w0).2, (b _ w1).1, (b _ w1).2, (b _ w2).1, (b _ w2).2, (b _ w3).1, (b _ w3).2⟩⟩, rfl, fun W' sp => ?_⟩
  exact Joins.shut_agg4 Tryd.underlying25 (by kernel_rfl) (by kernel_rfl) ⟨1, trod_int_mk 0 (by kernel_rfl) w0⟩ ⟨1, trod_int_mk 0 (by kernel_rfl) w1⟩ ⟨1, trod_int_mk 0 (by kernel_rfl) w2⟩ ⟨1, trod_int_mk 0 (by kernel_rfl) w3⟩
end Go.Proofs.YtabihdhgonnihaaDoor

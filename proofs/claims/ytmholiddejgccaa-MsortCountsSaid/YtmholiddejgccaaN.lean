/- Records among a law's arguments. -/
import Derived.Test.YtmholiddejgccaaC
import Derived.Deep.Slices
import Derived.ChangeSame
import Derived.Lib.SmallJoins
namespace Go.Proofs.Ytmholiddejgccaa
open Go.ChangeShapes Go.WideShapes Go.ChangeAt Go.RowKit Go.Deep

instance : Inhabited Rc := ⟨⟨0, 0, 0, 0⟩⟩
theorem openRecs {H : Type} {enc : TypeId × Value → H} {W : World} {a : Option Addr} {len cap : Nat} {d : DataW H} {p : List MemPlace}
    (h : DataW.Trod enc Try.prog W 0 (fun _ => true) true 31 (.slice a len cap) d p) : ∃ zs, IsSl 4 encR W a len cap zs := by
  obtain ⟨fuel, hf⟩ := h
  rcases open_slice Try.underlying31 hf with ⟨hcs, _⟩ | ⟨x, l, c, m, n, D, Pl, hcs, _, hl, hm, hmm, _, hx⟩
  · simp [Value.cells] at hcs
    obtain ⟨rfl, rfl, rfl⟩ := hcs
    exact ⟨[], IsSl.nil W⟩
  · simp [Value.cells] at hcs
    obtain ⟨rfl, rfl, rfl⟩ := hcs
    have hmc : m = cap := by simpa using hmm
    subst hmc
    have ce : Try.prog.cellsOf 24 = 4 := by kernel_rfl
    have c22 : Try.prog.cellsOf 22 = 1 := by kernel_rfl
    have c2 : Try.prog.cellsOf 2 = 1 := by kernel_rfl
    have each : ∀ i, i < len → ∃ q : Rc, W.cell? (x.add (i * 4)) = some (.int .u64 q.u) ∧ W.cell? (x.add (i * 4 + 1)) = some (.int .u64 q.v) ∧ W.cell? (x.add (i * 4 + 2)) = some (.int .i64 q.w) ∧ W.cell? (x.add (i * 4 + 3)) = some (.int .i64 q.t) := by
      intro i hi
      obtain ⟨cs', h1, h2⟩ := hx i (by omega)
      rw [ce] at h1
      obtain ⟨_, hlen, hcell⟩ := World.cells?_some h1
      obtain ⟨xs, k, _, _, _, hxl, hf⟩ := DataW.trod_struct Try.underlying24 h2
      match xs, hxl, cs', hlen with
      | [y0, y1, y2, y3], _, [v0, v1, v2, v3], _ =>
        have g0 := hf 0 _ rfl
        have g1 := hf 1 _ rfl
        have g2 := hf 2 _ rfl
        have g3 := hf 3 _ rfl
        simp [c22, c2] at g0 g1 g2 g3
        obtain ⟨n0, q0, _⟩ := DataW.trod_int (k := .u64) (by kernel_rfl) g0
        obtain ⟨n1, q1, _⟩ := DataW.trod_int (k := .u64) (by kernel_rfl) g1
        obtain ⟨n2, q2, _⟩ := DataW.trod_int (k := .i64) (by kernel_rfl) g2
        obtain ⟨n3, q3, _⟩ := DataW.trod_int (k := .i64) (by kernel_rfl) g3
        simp at q0 q1 q2 q3
        have e0 := hcell 0 (by omega)
        have e1 := hcell 1 (by omega)
        have e2 := hcell 2 (by omega)
        have e3 := hcell 3 (by omega)
        rw [add_add] at e0 e1 e2 e3
        subst q0 q1 q2 q3
        exact ⟨⟨n0, n1, n2, n3⟩, by simpa using e0, by simpa using e1, by simpa using e2, by simpa using e3⟩
    obtain ⟨f, hf'⟩ := choose_lt each
    obtain ⟨b, off, spot⟩ := x
    refine ⟨(List.range len).map f, by simp, hl, hm, fun h => (by cases h), fun hne => ?_⟩
    have h0 : 0 < len := by
      rcases Nat.eq_zero_or_pos len with h | h
      · subst h; simp at hne
      · exact h
    have hspot : spot = none := by simpa [Addr.add] using World.cell?_spot (hf' 0 h0).1
    subst hspot
    have e0 := (hf' 0 h0).1
    rw [addr_add] at e0
    refine ⟨b, off, rfl, lt_of_cell e0, fun i hi j hj => ?_⟩
    simp at hi
    obtain ⟨h1, h2, h3, h4⟩ := hf' i hi
    rw [addr_add] at h1 h2 h3 h4
    simp only [List.getElem_map, List.getElem_range, encR]
    match j, hj with
    | 0, _ => simpa using h1
    | 1, _ => rw [show off + i * 4 + 1 = off + (i * 4 + 1) by omega, h2]; rfl
    | 2, _ => rw [show off + i * 4 + 2 = off + (i * 4 + 2) by omega, h3]; rfl
    | 3, _ => rw [show off + i * 4 + 3 = off + (i * 4 + 3) by omega, h4]; rfl
theorem openArg0 {H : Type} {enc : TypeId × Value → H} {W : World} {a : Option Addr} {len cap : Nat} {d : DataW H} {p : List MemPlace}
    (h : DataW.Trod enc Try.prog W 0 (fun _ => true) true 31 (.slice a len cap) d p) : ∃ zs, IsSl 4 encR W a len cap zs := openRecs h
theorem openArg1 {H : Type} {enc : TypeId × Value → H} {W : World} {a : Option Addr} {len cap : Nat} {d : DataW H} {p : List MemPlace}
    (h : DataW.Trod enc Try.prog W 0 (fun _ => true) true 31 (.slice a len cap) d p) : ∃ zs, IsSl 4 encR W a len cap zs := openRecs h
/-- A record, by value: it reads the same in every world. -/
theorem openRec {H : Type} {enc : TypeId × Value → H} {W : World} {base : Nat} {v : Value} {d : DataW H} {p : List MemPlace} (hv : Value.okWide Try.prog W .any base 24 v)
    (h : DataW.Trod enc Try.prog W 0 (fun _ => true) true 24 v d p) : ∃ r : Rc, v = r.agg ∧ ∀ (W' : World) (sp : Nat → Bool), DataW.Trod enc Try.prog W' 0 sp true 24 r.agg d p := by
  obtain ⟨v0, v1, v2, v3, y0, y1, y2, y3, n, rfl, rfl, rfl, h0, h1, h2, h3⟩ := Joins.open_agg4 Try.underlying24 (by kernel_rfl) (by kernel_rfl) hv h
  obtain ⟨n0, q0, e0, w0⟩ := DataW.trod_int (k := .u64) (by kernel_rfl) h0
  obtain ⟨n1, q1, e1, w1⟩ := DataW.trod_int (k := .u64) (by kernel_rfl) h1
  obtain ⟨n2, q2, e2, w2⟩ := DataW.trod_int (k := .i64) (by kernel_rfl) h2
  obtain ⟨n3, q3, e3, w3⟩ := DataW.trod_int (k := .i64) (by kernel_rfl) h3
  simp at q0 q1 q2 q3
  subst q0 q1 q2 q3 e0 e1 e2 e3
  refine ⟨⟨n0, n1, n2, n3⟩, rfl, fun W' sp => ?_⟩
  exact Joins.shut_agg4 Try.underlying24 (by kernel_rfl) (by kernel_rfl) ⟨1, trod_int_mk 0 (by kernel_rfl) w0⟩ ⟨1, trod_int_mk 0 (by kernel_rfl) w1⟩ ⟨1, trod_int_mk 0 (by kernel_rfl) w2⟩ ⟨1, trod_int_mk 0 (by kernel_rfl) w3⟩
end Go.Proofs.Ytmholiddejgccaa

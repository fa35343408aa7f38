/- Lists of commands in memory, and among a law's arguments. -/
import Derived.Test.YthnoihdojinocaaZq
import Derived.Test.YthnoihdojinocaaZu
import Derived.Deep.Slices
import Derived.ChangeSame
namespace Go.Proofs.Ythnoihdojinocaa
open Go.ChangeShapes Go.WideShapes Go.ChangeAt Go.RowKit Go.Deep
set_option linter.unusedVariables false
set_option linter.unusedSimpArgs false

/-- A command, and where its lists lie. -/
structure RV where
  c : Cm
  ad : Option Addr
  cd : Nat
  ab : Option Addr
  cb : Nat
instance : Inhabited RV := ⟨⟨nul 0, none, 0, none, 0⟩⟩
def RV.cells (r : RV) : Array Value := cmV r.c (.slice r.ad r.c.d.length r.cd) (.slice r.ab r.c.b.length r.cb)
def enc7 (r : RV) : List Value := r.cells.toList
def LsR (w : World) (r : RV) : Prop := LsAt w r.c r.ad r.cd r.ab r.cb
theorem enc7_len (r : RV) : (enc7 r).length = 7 := rfl
theorem enc7_one (r : RV) : ∀ u ∈ enc7 r, u.oneCell' = true := fun u hu => by
  simp [enc7, RV.cells, cmV] at hu
  rcases hu with rfl | rfl | rfl | rfl | rfl | rfl | rfl <;> rfl
/-- A list of commands. -/
structure Cms (w : World) (a : Option Addr) (n cap : Nat) (zs : List RV) : Prop where
  sl : IsSl 7 enc7 w a n cap zs
  ls : ∀ r ∈ zs, LsR w r
  ok : ∀ r ∈ zs, r.c.ok
theorem Cms.below {w w' : World} {a : Option Addr} {n cap : Nat} {zs : List RV} (h : Cms w a n cap zs) (hb : Below w.heap.size w w') : Cms w' a n cap zs := ⟨h.sl.below hb, fun r hr => (h.ls r hr).keep hb, h.ok⟩
theorem cmd_cells {H : Type} {enc : TypeId × Value → H} {W : World} {fuel : Nat} {cs : List Value} {x : DataW H × List MemPlace} (h : DataW.trod enc Try.prog W 0 (fun _ => true) true fuel 27 cs = some x) : ∃ r : RV, cs = enc7 r ∧ LsR W r ∧ r.c.ok := by
  obtain ⟨xs, n, _, _, hl, hlen, hfl⟩ := DataW.trod_struct Try.underlying27 h
  have h7 : cs.length = 7 := hl.trans (by kernel_rfl)
  obtain ⟨c0, c1, c2, c3, c4, c5, c6, rfl⟩ : ∃ a b c d e f g, cs = [a, b, c, d, e, f, g] := by
    match cs, h7 with
    | [a, b, c, d, e, f, g], _ => exact ⟨a, b, c, d, e, f, g, rfl⟩
  obtain ⟨y0, y1, y2, y3, y4, y5, y6, rfl⟩ : ∃ a b c d e f g, xs = [a, b, c, d, e, f, g] := by
    match xs, hlen with
    | [a, b, c, d, e, f, g], _ => exact ⟨a, b, c, d, e, f, g, rfl⟩
  have k22 : Try.prog.cellsOf 22 = 1 := by kernel_rfl
  have k23 : Try.prog.cellsOf 23 = 1 := by kernel_rfl
  have k2 : Try.prog.cellsOf 2 = 1 := by kernel_rfl
  have k24 : Try.prog.cellsOf 24 = 1 := by kernel_rfl
  have k25 : Try.prog.cellsOf 25 = 1 := by kernel_rfl
  have h0 : DataW.trod enc Try.prog W 0 (fun _ => true) true n 22 [c0] = some y0 := by simpa [k22] using hfl 0 _ rfl
  have h1 : DataW.trod enc Try.prog W 0 (fun _ => true) true n 23 [c1] = some y1 := by simpa [k23] using hfl 1 _ rfl
  have h2 : DataW.trod enc Try.prog W 0 (fun _ => true) true n 23 [c2] = some y2 := by simpa [k23] using hfl 2 _ rfl
  have h3 : DataW.trod enc Try.prog W 0 (fun _ => true) true n 2 [c3] = some y3 := by simpa [k2] using hfl 3 _ rfl
  have h4 : DataW.trod enc Try.prog W 0 (fun _ => true) true n 2 [c4] = some y4 := by simpa [k2] using hfl 4 _ rfl
  have h5 : DataW.trod enc Try.prog W 0 (fun _ => true) true n 24 [c5] = some y5 := by simpa [k24] using hfl 5 _ rfl
  have h6 : DataW.trod enc Try.prog W 0 (fun _ => true) true n 25 [c6] = some y6 := by simpa [k25] using hfl 6 _ rfl
  obtain ⟨n0, q0, _, w0⟩ := DataW.trod_int (k := .i64) (by kernel_rfl) h0
  obtain ⟨n1, q1, _, w1⟩ := DataW.trod_int (k := .u64) (by kernel_rfl) h1
  obtain ⟨n2, q2, _, w2⟩ := DataW.trod_int (k := .u64) (by kernel_rfl) h2
  obtain ⟨n3, q3, _, w3⟩ := DataW.trod_int (k := .i64) (by kernel_rfl) h3
  obtain ⟨n4, q4, _, w4⟩ := DataW.trod_int (k := .i64) (by kernel_rfl) h4
  obtain ⟨a5, l5, p5, z5, rfl, i5⟩ := field_ints Try.underlying24 Try.underlying23 k23 h5
  obtain ⟨a6, l6, p6, z6, rfl, i6⟩ := field_ints Try.underlying25 Try.underlying2 k2 h6
  obtain ⟨b5, s5, u5⟩ := ints_u64 i5
  obtain ⟨m1, e1, f1⟩ := u64_of w1
  obtain ⟨m2, e2, f2⟩ := u64_of w2
  have hl5 : l5 = b5.length := by rw [s5.hlen, ns_len]
  have hl6 : l6 = z6.length := i6.sl.hlen
  simp at q0 q1 q2 q3 q4
  subst q0 q1 q2 q3 q4 e1 e2 hl5 hl6
  exact ⟨⟨⟨n0, m1, m2, n3, n4, b5, z6⟩, a5, p5, a6, p6⟩, rfl, ⟨s5, i6.sl⟩, ⟨i64_of w0, f1, f2, i64_of w3, i64_of w4, u5, fun x hx => i64_of (i6.wf x hx)⟩⟩
theorem openCmds {H : Type} {enc : TypeId × Value → H} {W : World} {a : Option Addr} {len cap : Nat} {d : DataW H} {p : List MemPlace}
    (h : DataW.Trod enc Try.prog W 0 (fun _ => true) true 49 (.slice a len cap) d p) : ∃ zs, Cms W a len cap zs := by
  obtain ⟨fuel, hf⟩ := h
  rcases open_slice Try.underlying49 hf with ⟨hcs, _⟩ | ⟨x, l, c, m, n, D, Pl, hcs, _, hl, hm, hmm, _, hx⟩
  · simp [Value.cells] at hcs
    obtain ⟨rfl, rfl, rfl⟩ := hcs
    exact ⟨[], IsSl.nil W, fun r hr => (by cases hr), fun r hr => (by cases hr)⟩
  · simp [Value.cells] at hcs
    obtain ⟨rfl, rfl, rfl⟩ := hcs
    have hmc : m = cap := by simpa using hmm
    subst hmc
    have ce : Try.prog.cellsOf 27 = 7 := by kernel_rfl
    have each : ∀ i, i < len → ∃ q : RV, (∀ j, j < 7 → W.cell? (x.add (i * 7 + j)) = (enc7 q)[j]?) ∧ LsR W q ∧ q.c.ok := by
      intro i hi
      obtain ⟨cs', h1, h2⟩ := hx i (by omega)
      rw [ce] at h1
      obtain ⟨_, hlen, hcell⟩ := World.cells?_some h1
      obtain ⟨r, rfl, hr1, hr2⟩ := cmd_cells h2
      refine ⟨r, fun j hj => ?_, hr1, hr2⟩
      have := hcell j hj
      rw [add_add] at this
      rw [this]
    obtain ⟨f, hf'⟩ := choose_lt each
    obtain ⟨b, off, spot⟩ := x
    refine ⟨(List.range len).map f, ⟨by simp, hl, hm, fun h => (by cases h), fun hne => ?_⟩, fun r hr => ?_, fun r hr => ?_⟩
    · have h0 : 0 < len := by
        rcases Nat.eq_zero_or_pos len with h | h
        · subst h; simp at hne
        · exact h
      have e1 : W.cell? ((⟨b, off, spot⟩ : Addr).add 0) = (enc7 (f 0))[0]? := (hf' 0 h0).1 0 (by omega)
      obtain ⟨u, hu⟩ : ∃ u, (enc7 (f 0))[0]? = some u := ⟨_, rfl⟩
      have e0 := e1.trans hu
      have hspot : spot = none := by simpa [Addr.add] using World.cell?_spot e0
      subst hspot
      rw [addr_add] at e0
      refine ⟨b, off, rfl, lt_of_cell e0, fun i hi j hj => ?_⟩
      simp at hi
      have := (hf' i hi).1 j hj
      rw [addr_add] at this
      simp only [List.getElem_map, List.getElem_range]
      rw [← this, Nat.add_assoc]
    · obtain ⟨i, hi, rfl⟩ := List.mem_map.1 hr
      exact (hf' i (List.mem_range.1 hi)).2.1
    · obtain ⟨i, hi, rfl⟩ := List.mem_map.1 hr
      exact (hf' i (List.mem_range.1 hi)).2.2
end Go.Proofs.Ythnoihdojinocaa

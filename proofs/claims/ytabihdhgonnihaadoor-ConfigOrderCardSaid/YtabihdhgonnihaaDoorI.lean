/- What the listed variables hold, and the library's functions over it. -/
import Derived.Test.YtabihdhgonnihaaDoorD
import Derived.Test.YtabihdhgonnihaaDoorB
import Derived.Test.YtabihdhgonnihaaDoorH
import Derived.LaidMore
import Derived.LaidLaws
import Derived.Lib.LaidTab
import Derived.Lib.SmallJoins
namespace Go.Proofs.YtabihdhgonnihaaDoor
open Go.ChangeShapes Go.WideShapes Go.ChangeAt Go.RowKit
set_option linter.unusedVariables false
set_option linter.unusedSimpArgs false

theorem laid_get {P : Program} {W : World} : ∀ {L : List (String × DataW Unit)} {ps : List MemPlace}, DataW.LaidVars P W L ps → ∀ {n : String} {d : DataW Unit}, (n, d) ∈ L →
    ∃ g t cs fuel p, P.globalNamed n = some g ∧ (P.globals[g]?).map (·.type) = some t ∧ W.var? P n = some cs ∧ DataW.trod (fun _ => ()) P W 0 (fun _ => true) false fuel t cs.toList = some (d, p)
  | [], _, _, n, d, hm => by cases hm
  | (n0, d0) :: r, ps, h, n, d, hm => by
    obtain ⟨g, t, cs, fuel, p, q, h1, h2, h3, h4, h5, _⟩ := h
    rcases List.mem_cons.1 hm with e | e
    · cases e; exact ⟨g, t, cs, fuel, p, h1, h2, h3, h4⟩
    · exact laid_get h5 e
def mkS (l : Str) : Value := .string ⟨l.toArray⟩
theorem mkS_of (s : ByteArray) : Value.string s = mkS s.data.toList := by cases s; rfl
/-- The table of the fields. -/
def rowCells : Array Value := #[mkS (nm 0), .int .i64 1, .int .i64 9223372036854775807, mkS (nm 1), .int .i64 1, .int .i64 16384, mkS (nm 2), .int .i64 2, .int .i64 4096, mkS (nm 3), .int .i64 0, .int .i64 16384]
structure Env (w : World) : Prop where
  rows : ∃ t f, w.heap[0]? = some (.cells rowCells t f)
  pow : Lib.TabIs Tryd.prog w "internal/strconv.uint64pow10" .u64 Lib.pow10Tab
  syn : ∃ te pe, w.cell? ⟨6, 0, none⟩ = some (.iface te pe)
  rng : ∃ te pe, w.cell? ⟨7, 0, none⟩ = some (.iface te pe)
  mx : ∃ m, w.cell? ⟨2, 0, none⟩ = some (.int .i64 m)
theorem g0 : Tryd.prog.globalNamed "seepage/config.rows" = some 0 := by kernel_rfl
theorem g5 : Tryd.prog.globalNamed "internal/strconv.uint64pow10" = some 5 := by kernel_rfl
theorem g6 : Tryd.prog.globalNamed "strconv.ErrSyntax" = some 6 := by kernel_rfl
theorem g7 : Tryd.prog.globalNamed "strconv.ErrRange" = some 7 := by kernel_rfl
theorem Env.below {w w' : World} (h : Env w) (hb : Below w.heap.size w w') : Env w' := by
  have cell : ∀ {g : Nat} {v : Value}, w.cell? ⟨g, 0, none⟩ = some v → w'.cell? ⟨g, 0, none⟩ = some v := fun {g v} hc => by
    rw [(bcell hb).1 g 0 (lt_of_cell hc)]; exact hc
  obtain ⟨t, f, hr⟩ := h.rows
  obtain ⟨a, b, hs⟩ := h.syn
  obtain ⟨c, d, hg⟩ := h.rng
  obtain ⟨m, hm⟩ := h.mx
  exact ⟨⟨t, f, (hb.block 0 (lt_of_block hr)).trans hr⟩, Go.Joins.tab_stays g5 h.pow hb (Nat.le_refl _), ⟨a, b, cell hs⟩, ⟨c, d, cell hg⟩, ⟨m, cell hm⟩⟩
theorem var_block {P : Program} {W : World} {n : String} {g : Nat} {cs : Array Value} (hg : P.globalNamed n = some g) (h : W.var? P n = some cs) : ∃ t f, W.heap[g]? = some (.cells cs t f) := by
  unfold World.var? at h
  rw [hg] at h
  simp only [Option.bind_some] at h
  split at h
  · rename_i cs' t f hh
    cases h
    exact ⟨t, f, hh⟩
  · cases h
set_option maxRecDepth 100000 in
theorem row_of {W : World} {fuel : Nat} {cs : List Value} {s : List UInt8} {a b : Int} {p : List MemPlace}
    (h : DataW.trod (H := Unit) (fun _ => ()) Tryd.prog W 0 (fun _ => true) false fuel 64 cs = some (.agg [.lit (.string s), .lit (.int .i64 a), .lit (.int .i64 b)], p)) : cs = [mkS s, .int .i64 a, .int .i64 b] := by
  obtain ⟨xs, n, _, hx, hl, hlen, hfl⟩ := DataW.trod_struct Tryd.underlying64 h
  have h3 : cs.length = 3 := hl.trans (by kernel_rfl)
  obtain ⟨c0, c1, c2, rfl⟩ : ∃ a b c, cs = [a, b, c] := by
    match cs, h3 with
    | [a, b, c], _ => exact ⟨a, b, c, rfl⟩
  obtain ⟨y0, y1, y2, rfl⟩ : ∃ a b c, xs = [a, b, c] := by
    match xs, hlen with
    | [a, b, c], _ => exact ⟨a, b, c, rfl⟩
  have k9 : Tryd.prog.cellsOf 9 = 1 := by kernel_rfl
  have k2 : Tryd.prog.cellsOf 2 = 1 := by kernel_rfl
  have h0 : DataW.trod (H := Unit) (fun _ => ()) Tryd.prog W 0 (fun _ => true) false n 9 [c0] = some y0 := by simpa [k9] using hfl 0 _ rfl
  have h1 : DataW.trod (H := Unit) (fun _ => ()) Tryd.prog W 0 (fun _ => true) false n 2 [c1] = some y1 := by simpa [k2] using hfl 1 _ rfl
  have h2 : DataW.trod (H := Unit) (fun _ => ()) Tryd.prog W 0 (fun _ => true) false n 2 [c2] = some y2 := by simpa [k2] using hfl 2 _ rfl
  obtain ⟨s0, q0, r0, _⟩ := DataW.trod_string (by kernel_rfl) h0
  obtain ⟨n1, q1, r1, _⟩ := DataW.trod_int (k := .i64) (by kernel_rfl) h1
  obtain ⟨n2, q2, r2, _⟩ := DataW.trod_int (k := .i64) (by kernel_rfl) h2
  subst r0 r1 r2
  simp at q0 q1 q2 hx
  obtain ⟨⟨e0, e1, e2⟩, _⟩ := hx
  subst q0 q1 q2 e0 e1 e2
  rw [mkS_of]
set_option maxRecDepth 100000 in
theorem rows_of {W : World} {fuel : Nat} {cs : List Value} {p : List MemPlace}
    (h : DataW.trod (H := Unit) (fun _ => ()) Tryd.prog W 0 (fun _ => true) false fuel 65 cs = some (Rows.laid_seepage_config_rows, p)) : cs = rowCells.toList := by
  obtain ⟨xs, n, _, hx, hl, hlen, hfl⟩ := DataW.trod_array Tryd.underlying65 h
  have h12 : cs.length = 12 := hl.trans (by kernel_rfl)
  have k64 : Tryd.prog.cellsOf 64 = 3 := by kernel_rfl
  obtain ⟨c0, c1, c2, c3, c4, c5, c6, c7, c8, c9, c10, c11, rfl⟩ : ∃ a b c d e f g h i j k l, cs = [a, b, c, d, e, f, g, h, i, j, k, l] := by
    match cs, h12 with
    | [a, b, c, d, e, f, g, h, i, j, k, l], _ => exact ⟨a, b, c, d, e, f, g, h, i, j, k, l, rfl⟩
  obtain ⟨y0, y1, y2, y3, rfl⟩ : ∃ a b c d, xs = [a, b, c, d] := by
    match xs, hlen with
    | [a, b, c, d], _ => exact ⟨a, b, c, d, rfl⟩
  have h0 := hfl 0 (by decide)
  have h1 := hfl 1 (by decide)
  have h2 := hfl 2 (by decide)
  have h3 := hfl 3 (by decide)
  rw [k64] at h0 h1 h2 h3
  simp at h0 h1 h2 h3
  have hd := congrArg Prod.fst hx
  unfold Rows.laid_seepage_config_rows at hd
  simp only [List.map_cons, List.map_nil, DataW.agg.injEq, List.cons.injEq, and_true] at hd
  obtain ⟨e0, e1, e2, e3⟩ := hd
  obtain ⟨z0, p0⟩ := y0
  obtain ⟨z1, p1⟩ := y1
  obtain ⟨z2, p2⟩ := y2
  obtain ⟨z3, p3⟩ := y3
  simp only at e0 e1 e2 e3
  subst e0 e1 e2 e3
  have r0 := row_of h0
  have r1 := row_of h1
  have r2 := row_of h2
  have r3 := row_of h3
  simp only [List.cons.injEq, and_true] at r0 r1 r2 r3
  obtain ⟨rfl, rfl, rfl⟩ := r0
  obtain ⟨rfl, rfl, rfl⟩ := r1
  obtain ⟨rfl, rfl, rfl⟩ := r2
  obtain ⟨rfl, rfl, rfl⟩ := r3
  rfl
end Go.Proofs.YtabihdhgonnihaaDoor

/- What the listed variables hold, and the library's functions over it. -/
import Derived.Test.YtlmdkcpiimpniaaDoorD
import Derived.Test.YtlmdkcpiimpniaaDoorPj
import Derived.Test.YtlmdkcpiimpniaaDoorH
import Derived.LaidMore
import Derived.LaidLaws
import Derived.Lib.LaidTab
import Derived.Lib.SmallJoins
import Derived.Shelf.Vars
import Derived.HandedShaped
import Derived.MakeChecks
import Derived.WalkSmall
import Derived.BigCall
import Derived.BigGuard
namespace Go.Proofs.YtlmdkcpiimpniaaDoor
open Go.ChangeShapes Go.WideShapes Go.ChangeAt Go.RowKit
set_option linter.unusedVariables false
set_option linter.unusedSimpArgs false

theorem laid_get {P : Program} {W : World} : ∀ {L : List (String × DataW Unit)} {ps : List MemPlace}, DataW.LaidVars P W L ps → ∀ {n : String} {d : DataW Unit}, (n, d) ∈ L →
    ∃ g t cs fuel p, P.globalNamed n = some g ∧ (P.globals[g]?).map (·.type) = some t ∧ W.var? P n = some cs ∧ DataW.trod (fun _ => ()) P W 0 (fun _ => true) false fuel t cs.toList = some (d, p)
  | [], _, _, n, d, hm => by cases hm
  | (n0, d0) :: r, ps, h, n, d, hm => by
    obtain ⟨g, t, cs, fuel, p, q, h1, h2, h3, h4, h5, _⟩ := h
    rcases List.mem_cons.1 hm with e | e
    · cases e; exact ⟨g, t, cs, fuel, p, h1, h2, h3, h4⟩
    · exact laid_get h5 e
def mkS (l : Str) : Value := .string ⟨l.toArray⟩
theorem mkS_of (s : ByteArray) : Value.string s = mkS s.data.toList := by cases s; rfl
/-- The cells of a kind in the table. -/
def kcell (k : Nat) : List Value := [mkS (kwS k), .int .i64 (ki k : Nat), .int .i64 (kn k : Nat), .int .i64 (ke k : Nat)]
def kdat (k : Nat) : DataW Unit := .agg [.lit (.string (kwS k)), .lit (.int .i64 (ki k : Nat)), .lit (.int .i64 (kn k : Nat)), .lit (.int .i64 (ke k : Nat))]
structure Env (w : World) : Prop where
  rows : ∃ cs t f, w.heap[0]? = some (.cells cs t f) ∧ ∀ k, k < 16 → ∀ j, j < 4 → cs[k * 4 + j]? = (kcell k)[j]?
  pow : Lib.TabIs Tryd.prog w "internal/strconv.uint64pow10" .u64 Lib.pow10Tab
  syn : ∃ te pe, w.cell? ⟨5, 0, none⟩ = some (.iface te pe)
  rng : ∃ te pe, w.cell? ⟨6, 0, none⟩ = some (.iface te pe)
  mx : ∃ m, w.cell? ⟨1, 0, none⟩ = some (.int .i64 m)
theorem g0 : Tryd.prog.globalNamed "seepage/reply.kinds" = some 0 := by kernel_rfl
theorem g2 : Tryd.prog.globalNamed "internal/strconv.uint64pow10" = some 2 := by kernel_rfl
theorem g5 : Tryd.prog.globalNamed "strconv.ErrSyntax" = some 5 := by kernel_rfl
theorem g6 : Tryd.prog.globalNamed "strconv.ErrRange" = some 6 := by kernel_rfl
theorem Env.below {w w' : World} (h : Env w) (hb : Below w.heap.size w w') : Env w' := by
  have cell : ∀ {g : Nat} {v : Value}, w.cell? ⟨g, 0, none⟩ = some v → w'.cell? ⟨g, 0, none⟩ = some v := fun {g v} hc => by
    rw [(bcell hb).1 g 0 (lt_of_cell hc)]; exact hc
  obtain ⟨cs, t, f, hr, hk⟩ := h.rows
  obtain ⟨a, b, hs⟩ := h.syn
  obtain ⟨c, d, hg⟩ := h.rng
  obtain ⟨m, hm⟩ := h.mx
  exact ⟨⟨cs, t, f, (hb.block 0 (lt_of_block hr)).trans hr, hk⟩, Go.Joins.tab_stays g2 h.pow hb (Nat.le_refl _), ⟨a, b, cell hs⟩, ⟨c, d, cell hg⟩, ⟨m, cell hm⟩⟩
/-- A kind's cells. -/
theorem Env.kind {w : World} (h : Env w) {k : Nat} (hk : k < 16) : w.cell? ⟨0, k * 4, none⟩ = some (.string ⟨(kwS k).toArray⟩) ∧ w.cell? ⟨0, k * 4 + 1, none⟩ = some (.int .i64 (ki k : Nat)) ∧ w.cell? ⟨0, k * 4 + 2, none⟩ = some (.int .i64 (kn k : Nat)) ∧ w.cell? ⟨0, k * 4 + 3, none⟩ = some (.int .i64 (ke k : Nat)) := by
  obtain ⟨cs, t, f, hr, hc⟩ := h.rows
  have h0 := hc k hk 0 (by decide)
  have h1 := hc k hk 1 (by decide)
  have h2 := hc k hk 2 (by decide)
  have h3 := hc k hk 3 (by decide)
  rw [cell_of hr, cell_of hr, cell_of hr, cell_of hr]
  exact ⟨h0, h1, h2, h3⟩
theorem var_block {P : Program} {W : World} {n : String} {g : Nat} {cs : Array Value} (hg : P.globalNamed n = some g) (h : W.var? P n = some cs) : ∃ t f, W.heap[g]? = some (.cells cs t f) := by
  unfold World.var? at h
  rw [hg] at h
  simp only [Option.bind_some] at h
  split at h
  · rename_i cs' t f hh
    cases h
    exact ⟨t, f, hh⟩
  · cases h
set_option maxRecDepth 100000 in
theorem row_of {W : World} {fuel : Nat} {cs : List Value} {s : List UInt8} {a b c : Int} {p : List MemPlace}
    (h : DataW.trod (H := Unit) (fun _ => ()) Tryd.prog W 0 (fun _ => true) false fuel 57 cs = some (.agg [.lit (.string s), .lit (.int .i64 a), .lit (.int .i64 b), .lit (.int .i64 c)], p)) : cs = [mkS s, .int .i64 a, .int .i64 b, .int .i64 c] := by
  obtain ⟨xs, n, _, hx, hl, hlen, hfl⟩ := DataW.trod_struct Tryd.underlying57 h
  have h4 : cs.length = 4 := hl.trans (by kernel_rfl)
  obtain ⟨c0, c1, c2, c3, rfl⟩ : ∃ a b c d, cs = [a, b, c, d] := by
    match cs, h4 with
    | [a, b, c, d], _ => exact ⟨a, b, c, d, rfl⟩
  obtain ⟨y0, y1, y2, y3, rfl⟩ : ∃ a b c d, xs = [a, b, c, d] := by
    match xs, hlen with
    | [a, b, c, d], _ => exact ⟨a, b, c, d, rfl⟩
  have k9 : Tryd.prog.cellsOf 9 = 1 := by kernel_rfl
  have k3 : Tryd.prog.cellsOf 3 = 1 := by kernel_rfl
  have h0 : DataW.trod (H := Unit) (fun _ => ()) Tryd.prog W 0 (fun _ => true) false n 9 [c0] = some y0 := by simpa [k9] using hfl 0 _ rfl
  have h1 : DataW.trod (H := Unit) (fun _ => ()) Tryd.prog W 0 (fun _ => true) false n 3 [c1] = some y1 := by simpa [k3] using hfl 1 _ rfl
  have h2 : DataW.trod (H := Unit) (fun _ => ()) Tryd.prog W 0 (fun _ => true) false n 3 [c2] = some y2 := by simpa [k3] using hfl 2 _ rfl
  have h3 : DataW.trod (H := Unit) (fun _ => ()) Tryd.prog W 0 (fun _ => true) false n 3 [c3] = some y3 := by simpa [k3] using hfl 3 _ rfl
  obtain ⟨s0, q0, r0, _⟩ := DataW.trod_string (by kernel_rfl) h0
  obtain ⟨n1, q1, r1, _⟩ := DataW.trod_int (k := .i64) (by kernel_rfl) h1
  obtain ⟨n2, q2, r2, _⟩ := DataW.trod_int (k := .i64) (by kernel_rfl) h2
  obtain ⟨n3, q3, r3, _⟩ := DataW.trod_int (k := .i64) (by kernel_rfl) h3
  subst r0 r1 r2 r3
  simp at q0 q1 q2 q3 hx
  obtain ⟨⟨e0, e1, e2, e3⟩, _⟩ := hx
  subst q0 q1 q2 q3 e0 e1 e2 e3
  rw [mkS_of]
theorem kinds_dat : (Rows.laid_seepage_reply_kinds : DataW Unit) = .agg ((List.range 16).map kdat) := by unfold Rows.laid_seepage_reply_kinds; rfl
set_option maxRecDepth 100000 in
theorem kinds_of {W : World} {fuel : Nat} {cs : List Value} {p : List MemPlace}
    (h : DataW.trod (H := Unit) (fun _ => ()) Tryd.prog W 0 (fun _ => true) false fuel 58 cs = some (Rows.laid_seepage_reply_kinds, p)) : ∀ k, k < 16 → ∀ j, j < 4 → cs[k * 4 + j]? = (kcell k)[j]? := by
  obtain ⟨xs, n, _, hx, hl, hlen, hfl⟩ := DataW.trod_array Tryd.underlying58 h
  have k57 : Tryd.prog.cellsOf 57 = 4 := by kernel_rfl
  intro k hk j hj
  have h0 := hfl k hk
  have hd := congrArg Prod.fst hx
  rw [kinds_dat] at hd
  simp only [DataW.agg.injEq] at hd
  have hk2 : k < xs.length := by rw [hlen]; exact hk
  have h1 : (xs[k]'hk2).1 = kdat k := by
    have h2 : ((List.range 16).map kdat)[k]? = (xs.map (·.1))[k]? := by rw [hd]
    simpa [hk, hk2] using h2.symm
  rw [List.getElem?_eq_getElem hk2, k57] at h0
  generalize xs[k]'hk2 = dq at h0 h1
  obtain ⟨d, q⟩ := dq
  simp only at h1
  subst h1
  have h3 := row_of h0
  have h4 : ((cs.drop (k * 4)).take 4)[j]? = (kcell k)[j]? := by rw [h3]; rfl
  rw [List.getElem?_take, if_pos hj, List.getElem?_drop] at h4
  exact h4
end Go.Proofs.YtlmdkcpiimpniaaDoor
/- From a row's conditions to what the walks ask of the world: the listed variables, and the shape of the world. -/
namespace Go.Proofs.YtlmdkcpiimpniaaDoor
open Go.ChangeShapes Go.WideShapes Go.ChangeAt Go.RowKit
set_option linter.unusedVariables false
set_option linter.unusedSimpArgs false

theorem mx_of {W : World} (h : W.ShapedOpen Tryd.prog) : ∃ m, W.cell? ⟨1, 0, none⟩ = some (.int .i64 m) :=
  Go.Proofs.cell_of_shapedOpen_int (zero := #[.int .i64 0]) (t := 3) h (of_decide_eq_true (by kernel_rfl)) (by kernel_rfl) rfl (by kernel_rfl) (by kernel_rfl) Tryd.underlying3
theorem iface_var {W : World} {L : List (String × DataW Unit)} {ps : List MemPlace} (h : DataW.LaidVars Tryd.prog W L ps) {n nm : String} {d : DataW Unit} {g : Nat} (hm : (n, DataW.iface nm d) ∈ L) (hg : Tryd.prog.globalNamed n = some g)
    (hty : (Tryd.prog.globals[g]?).map (·.type) = some 109) : ∃ te pe, W.cell? ⟨g, 0, none⟩ = some (.iface te pe) := by
  obtain ⟨g', t, cs, fuel, p, h1, h2, h3, h4⟩ := laid_get h hm
  obtain rfl := Option.some.inj (hg.symm.trans h1)
  obtain rfl := Option.some.inj (hty.symm.trans h2)
  obtain ⟨fuel', u, v, hcs, _, _⟩ := iface_of_trod (ms := #[("Error", 151)]) (by kernel_rfl) h4
  obtain ⟨t, f, hb⟩ := var_block hg h3
  refine ⟨u, v, ?_⟩
  rw [cell_of hb]
  rw [show cs[0]? = cs.toList[0]? by simp, hcs]
  rfl
theorem env_of {W : World} {L : List (String × DataW Unit)} (h : laidMet Tryd.prog L W) (hs : W.ShapedOpen Tryd.prog)
    (h1 : ("seepage/reply.kinds", Rows.laid_seepage_reply_kinds) ∈ L) (h2 : ("internal/strconv.uint64pow10", Rows.laid_internal_strconv_uint64pow10) ∈ L)
    (h3 : ("strconv.ErrSyntax", Rows.laid_strconv_ErrSyntax) ∈ L) (h4 : ("strconv.ErrRange", Rows.laid_strconv_ErrRange) ∈ L) : Env W := by
  obtain ⟨ps, hl, _, _⟩ := h
  refine ⟨?_, ?_, iface_var hl h3 g5 (by kernel_rfl), iface_var hl h4 g6 (by kernel_rfl), mx_of hs⟩
  · obtain ⟨g', t, cs, fuel, p, k1, k2, k3, k4⟩ := laid_get hl h1
    obtain rfl := Option.some.inj (g0.symm.trans k1)
    obtain rfl := Option.some.inj ((show (Tryd.prog.globals[0]?).map (·.type) = some 58 by kernel_rfl).symm.trans k2)
    obtain ⟨t, f, hb⟩ := var_block g0 k3
    exact ⟨cs, t, f, hb, fun k hk j hj => by rw [← kinds_of k4 k hk j hj]; simp⟩
  · obtain ⟨g', t, cs, fuel, p, k1, k2, k3, k4⟩ := laid_get hl h2
    obtain rfl := Option.some.inj (g2.symm.trans k1)
    have hd : (Rows.laid_internal_strconv_uint64pow10 : DataW Unit) = Lib.tabData .u64 Lib.pow10Tab := by
      unfold Rows.laid_internal_strconv_uint64pow10 Lib.tabData Lib.pow10Tab
      rfl
    rw [hd] at k4
    obtain rfl := Option.some.inj ((show (Tryd.prog.globals[2]?).map (·.type) = some 118 by kernel_rfl).symm.trans k2)
    have e := Lib.cells_of_tab (n := 20) (e := 28) Tryd.underlying118 Tryd.underlying28 (by kernel_rfl) (by kernel_rfl) k4
    show W.var? Tryd.prog "internal/strconv.uint64pow10" = _
    rw [k3, ← e]
/-- A row with listed variables, its world's shape kept. -/
theorem handed_laid {H : Type} {enc : TypeId × Value → H} {a : Assume} {C : Checked} {os : Os} {f : FuncId} {fn : Func} {s : ChangeSpec} {conds : List PathCond} {apart fresh handsOn again : Bool} {X : World → Array Value → Prop}
    (hX : ∀ (w w' : World) (args : Array Value), w.heap = w'.heap → X w args → X w' args)
    (own : ownKnob C.prog.godebug = none) (started : os.Started) (noInit : C.prog.inits.idxOf? f = none) (hfn : C.prog.funcs[f]? = some fn)
    (witness : ∃ (w : World) (tape : Tape) (i : Input), w.os = os ∧ (w.forCall tape i).Shaped C.prog ∧ i.vars = [] ∧ Input.okWide C.prog (w.forCall tape i) .any w.heap.size f i ∧
      ((s.pre enc C.prog fn conds apart (w.forCall tape i).memory i.args ∧ X (w.forCall tape i).memory i.args) ∧ sizedMet enc C.prog fn (OpenSpec.ofChange s) apart (w.forCall tape i).memory i.args) ∧ a.holds C.prog (lone (Frame.enter C.prog f i.args .normal) [] (w.forCall tape i)))
    (contract : ∀ (W : World) (base : Nat) (args : Array Value) (ds gs : List (DataW H)) (before : List MemPlace),
      (∀ (j : Nat) t v, fn.params[j]? = some t → args[j]? = some v → Value.okWide C.prog W .any base t v) →
      DataW.Whole enc C.prog fn.params.toList s.vars apart W args.toList ds gs before → X W args → W.ShapedOpen C.prog →
      Calls C.prog f args W fun e W' => ∃ v, e = .returned v ∧ s.post enc C.prog fn apart fresh handsOn again W args v W') :
    ReturnsInHanded a C os f .any (fun w args => (s.pre enc C.prog fn conds apart w args ∧ X w args) ∧ sizedMet enc C.prog fn (OpenSpec.ofChange s) apart w args) (s.post enc C.prog fn apart fresh handsOn again) := by
  refine returnsInHanded_of_calls own started noInit witness fun w tape i _ hsh _ hok hpre _ => ?_
  obtain ⟨_, _, _, g, hg, _, _, _, _, hval⟩ := hok
  obtain rfl : g = fn := Option.some.inj (hg.symm.trans hfn)
  obtain ⟨⟨⟨ds, gs, before, hw, _⟩, hx⟩, _⟩ := hpre
  refine (contract (w.forCall tape i) w.heap.size i.args ds gs before hval (DataW.Whole.of_heap (w' := w.forCall tape i) (by rfl) hw) (hX _ _ _ (by rfl) hx) hsh).mono fun e W' hh => ?_
  obtain ⟨v, rfl, hp⟩ := hh
  exact ChangeSpec.post_blind hp
end Go.Proofs.YtlmdkcpiimpniaaDoor
/- The library's functions at lists of bytes: numbers read and written; strings.Split and Count at a space; unsigned and signed of the program. -/
namespace Go.Proofs.YtlmdkcpiimpniaaDoor
open Go.ChangeShapes Go.WideShapes Go.ChangeAt Go.RowKit Go.Sort
set_option linter.unusedVariables false
set_option linter.unusedSimpArgs false

theorem l_fmt {w : World} (h : Env w) {n : Int} (h0 : -9223372036854775808 ≤ n) (h1 : n ≤ 9223372036854775807) :
    Calls Tryd.prog 79 #[.int .i64 n, .int .i64 10] w fun e w' => e = .returned (.string ⟨(Lib.itoa n).toArray⟩) ∧ Below w.heap.size w w' := by
  refine (Any.strconv_FormatInt_10 Tryd.laysM173 n h0 h1 w h.pow).mono fun e w' hh => ?_
  obtain ⟨he, k, os, rfl⟩ := hh
  exact ⟨he, Lib.below_grow w.heap.size w (Nat.le_refl _) k os⟩
set_option maxRecDepth 100000 in
set_option maxHeartbeats 12800000 in
theorem l_fmtui {w : World} (h : Env w) {u : Nat} (hu64 : u < 18446744073709551616) :
    Calls Tryd.prog 106 #[.int .u64 (u : Int), .int .i64 10] w fun e w' => e = .returned (.string ⟨(Lib.decDigits u).toArray⟩) ∧ Below w.heap.size w w' := by
  have htab := h.pow
  by_cases hs : u < 100
  · clear h htab
    go_enter Tryd.func106, Tryd.ntmps106
    go_wp2_with (go_at_call 73; refine (Any.internal_strconv_small Tryd.lays283 u hs _).mono ?_; rintro e w' ⟨rfl, rfl⟩)
    go_ret
    exact ⟨rfl, Below.refl _ _⟩
  · have hu1 : 1 ≤ u := by omega
    have hnd20 : Lib.nDigits u ≤ 20 := by have := Lib.numDigits_eq u hu1 hu64; split at this <;> omega
    have hal : Tryd.prog.arrayLen 103 = 24 := by simp [Program.arrayLen, Tryd.underlying103]
    have hsl : ∀ W, (Instr.sliceAt 103 (.pointer (some ⟨w.heap.size, 0, none⟩)) none (some (.int .i64 (Lib.nDigits u : Int))) none).run Tryd.prog W = .ok (.slice (some ⟨w.heap.size, 0, none⟩) (Lib.nDigits u) 24) W := fun W => by
      rw [run_sliceAt_array_h W 103 ⟨w.heap.size, 0, none⟩ (by simp [Program.arrayLen, Program.elem, Tryd.underlying103]) .i64 (Lib.nDigits u : Int) (by omega) (by rw [hal]; omega)]
      go_simp
    have hH0 := Lib.holds_zero0 w 103 (Lib.nDigits u) (by omega)
    have hfmt := Any.internal_strconv_formatBase10 Tryd.lays285 w.heap.size 0 24 u (Array.replicate (Lib.nDigits u) 0) (w.alloc (.cells Lib.zeros24 103)) hH0 (by rw [Array.size_replicate]; exact Lib.lt_pow_nDigits u) hu64 (by rw [Array.size_replicate]; omega)
    rw [Array.size_replicate] at hfmt
    have HH0 := Lib.hid hH0
    have iu : (100 : Int) ≤ (u : Int) := by omega
    clear hH0 hal h
    go_enter Tryd.func106, Tryd.ntmps106
    go_wp2_with (first
      | (go_at_call 74; refine (Any.internal_strconv_numDigits Tryd.laysM284 u hu1 hu64 _ (Lib.tabIs_alloc htab _)).mono ?_; rintro e w' ⟨rfl, rfl⟩))
    go_at_call 75
    refine hfmt.mono ?_
    rintro e w' ⟨rfl, k, v', dk, rfl, hF⟩
    have hcv : (convert 31 9 (.slice (some ⟨w.heap.size, 0, none⟩) (Lib.nDigits u) 24)).run Tryd.prog ((putRow (fun (b : UInt8) => Value.int .u8 (b.toNat : Int)) (w.alloc (.cells Lib.zeros24 103)) w.heap.size 0 dk).drewN k) = .ok (.string ⟨(Lib.decDigits u).toArray⟩) ((putRow (fun (b : UInt8) => Value.int .u8 (b.toNat : Int)) (w.alloc (.cells Lib.zeros24 103)) w.heap.size 0 dk).drewN k) := by
      have h := run_convert_bytes_back (P := Tryd.prog) ((putRow (fun (b : UInt8) => Value.int .u8 (b.toNat : Int)) (w.alloc (.cells Lib.zeros24 103)) w.heap.size 0 dk).drewN k) 31 9 5 ⟨w.heap.size, 0, none⟩ 24 (Lib.decDigits u) Tryd.underlying31 Tryd.underlying5 Tryd.underlying9 (fun j hj => by
        rw [Lib.row_is_numeral hF j hj, Lib.add_plain, World.cell?_drewN]
        exact cell?_putRow (fun (b : UInt8) => Value.int .u8 (b.toNat : Int)) _ w.heap.size 0 _ dk HH0.out (by rw [hF.size, Array.size_replicate]) j (by rw [hF.size]; rw [Lib.decDigits_length] at hj; exact hj))
      rw [Lib.decDigits_length] at h
      exact h
    obtain ⟨os, eo⟩ := Lib.fin_at w (.cells Lib.zeros24 103) dk k 0
    have hb : Below w.heap.size w ((putRow (fun (b : UInt8) => Value.int .u8 (b.toNat : Int)) (w.alloc (.cells Lib.zeros24 103)) w.heap.size 0 dk).drewN k) := by rw [eo]; exact Lib.below_grow w.heap.size w (Nat.le_refl _) k os
    generalize (putRow (fun (b : UInt8) => Value.int .u8 (b.toNat : Int)) (w.alloc (.cells Lib.zeros24 103)) w.heap.size 0 dk).drewN k = W2 at hcv hb ⊢
    have HB := Lib.hid hb
    clear eo HH0 hfmt hb
    go_wp2
    go_ret
    exact ⟨rfl, HB.out⟩
theorem l_fmtu {w : World} (h : Env w) {u : Nat} (hu64 : u < 18446744073709551616) :
    Calls Tryd.prog 95 #[.int .u64 (u : Int), .int .i64 10] w fun e w' => e = .returned (.string ⟨(Lib.decDigits u).toArray⟩) ∧ Below w.heap.size w w' := by
  have P := Lib.hid (l_fmtui h hu64)
  clear h
  go_enter Tryd.func95, Tryd.ntmps95
  go_wp2_with fail
  refine (P.out).mono ?_; rintro e w1 ⟨rfl, hb1⟩
  have B := Lib.hid hb1
  clear hb1
  go_wp2_with fail
  go_ret
  exact ⟨rfl, B.out⟩
theorem l_parse_ok {w : World} (h : Env w) {s : Str} (hs : s.length ≤ 281474976710656) {v : Int} (hp : Lib.parseIntB 64 s = .ok v) :
    Calls Tryd.prog 78 #[.string ⟨s.toArray⟩, .int .i64 10, .int .i64 64] w fun e w' => e = .returned (.tuple #[.int .i64 v, .nilIface]) ∧ Below w.heap.size w w' := by
  refine (Any.strconv_ParseInt_10_at64_ok Tryd.laysC174 ⟨s.toArray⟩ (by simp [ByteArray.size]; omega) v hp w).mono fun e w' hh => ?_
  obtain ⟨he, rfl | ⟨t, rfl⟩⟩ := hh
  · exact ⟨he, Below.refl _ _⟩
  · exact ⟨he, Lib.bytesWorld_below _ _ _⟩
theorem l_parse_bad {w : World} (h : Env w) {s : Str} (hs : s.length ≤ 281474976710656) (hp : ∀ v, Lib.parseIntB 64 s ≠ .ok v) :
    Calls Tryd.prog 78 #[.string ⟨s.toArray⟩, .int .i64 10, .int .i64 64] w fun e w' => ∃ x p, e = .returned (.tuple #[.int .i64 x, .iface 133 (.pointer p)]) ∧ Below w.heap.size w w' := by
  obtain ⟨ts, ps, hsyn⟩ := h.syn
  obtain ⟨tr, pr, hrng⟩ := h.rng
  rcases hq : Lib.parseIntB 64 s with v | _ | _
  · exact absurd hq (hp v)
  · first
    | refine (Any.strconv_ParseInt_10_at64_syntax Tryd.laysC174 ⟨s.toArray⟩ (by simpa [ByteArray.size] using hs) hq _ w hsyn (Or.inr ⟨_, _, rfl⟩)).mono fun e w' hh => ?_
      obtain ⟨N, he, _, _, hb⟩ := hh
      exact ⟨_, _, he, hb⟩
    | refine (Any.strconv_ParseInt_10_at64_range Tryd.laysC174 ⟨s.toArray⟩ (by simpa [ByteArray.size] using hs) hq _ w hrng (Or.inr ⟨_, _, rfl⟩)).mono fun e w' hh => ?_
      obtain ⟨N, he, _, _, hb⟩ := hh
      exact ⟨_, _, he, hb⟩
  · first
    | refine (Any.strconv_ParseInt_10_at64_syntax Tryd.laysC174 ⟨s.toArray⟩ (by simpa [ByteArray.size] using hs) hq _ w hsyn (Or.inr ⟨_, _, rfl⟩)).mono fun e w' hh => ?_
      obtain ⟨N, he, _, _, hb⟩ := hh
      exact ⟨_, _, he, hb⟩
    | refine (Any.strconv_ParseInt_10_at64_range Tryd.laysC174 ⟨s.toArray⟩ (by simpa [ByteArray.size] using hs) hq _ w hrng (Or.inr ⟨_, _, rfl⟩)).mono fun e w' hh => ?_
      obtain ⟨N, he, _, _, hb⟩ := hh
      exact ⟨_, _, he, hb⟩
theorem l_parseu_ok {w : World} (h : Env w) {s : Str} (hs : s.length ≤ 281474976710656) {u : Nat} (hp : Lib.parseUintB 64 s = .ok u) :
    Calls Tryd.prog 94 #[.string ⟨s.toArray⟩, .int .i64 10, .int .i64 64] w fun e w' => e = .returned (.tuple #[.int .u64 (u : Int), .nilIface]) ∧ Below w.heap.size w w' := by
  refine (Any.strconv_ParseUint_10_at64_ok Tryd.laysPu14 ⟨s.toArray⟩ (by simp [ByteArray.size]; omega) u hp w).mono fun e w' hh => ?_
  obtain ⟨he, rfl | rfl⟩ := hh
  · exact ⟨he, Below.refl _ _⟩
  · exact ⟨he, Lib.bytesWorld_below _ _ _⟩
theorem l_parseu_bad {w : World} (h : Env w) {s : Str} (hs : s.length ≤ 281474976710656) (hp : ∀ v, Lib.parseUintB 64 s ≠ .ok v) :
    Calls Tryd.prog 94 #[.string ⟨s.toArray⟩, .int .i64 10, .int .i64 64] w fun e w' => ∃ x p, e = .returned (.tuple #[.int .u64 x, .iface 133 (.pointer p)]) ∧ Below w.heap.size w w' := by
  obtain ⟨ts, ps, hsyn⟩ := h.syn
  obtain ⟨tr, pr, hrng⟩ := h.rng
  rcases hq : Lib.parseUintB 64 s with v | _ | _
  · exact absurd hq (hp v)
  · first
    | refine (Any.strconv_ParseUint_10_at64_syntax Tryd.laysPu14 ⟨s.toArray⟩ (by simpa [ByteArray.size] using hs) hq _ w hsyn (Or.inr ⟨_, _, rfl⟩)).mono fun e w' hh => ?_
      obtain ⟨N, he, _, _, hb⟩ := hh
      exact ⟨_, _, he, hb⟩
    | refine (Any.strconv_ParseUint_10_at64_range Tryd.laysPu14 ⟨s.toArray⟩ (by simpa [ByteArray.size] using hs) hq _ w hrng (Or.inr ⟨_, _, rfl⟩)).mono fun e w' hh => ?_
      obtain ⟨N, he, _, _, hb⟩ := hh
      exact ⟨_, _, he, hb⟩
  · first
    | refine (Any.strconv_ParseUint_10_at64_syntax Tryd.laysPu14 ⟨s.toArray⟩ (by simpa [ByteArray.size] using hs) hq _ w hsyn (Or.inr ⟨_, _, rfl⟩)).mono fun e w' hh => ?_
      obtain ⟨N, he, _, _, hb⟩ := hh
      exact ⟨_, _, he, hb⟩
    | refine (Any.strconv_ParseUint_10_at64_range Tryd.laysPu14 ⟨s.toArray⟩ (by simpa [ByteArray.size] using hs) hq _ w hrng (Or.inr ⟨_, _, rfl⟩)).mono fun e w' hh => ?_
      obtain ⟨N, he, _, _, hb⟩ := hh
      exact ⟨_, _, he, hb⟩
theorem str_inj {a b : Str} (h : (⟨a.toArray⟩ : ByteArray) = ⟨b.toArray⟩) : a = b := by
  have := congrArg (fun x : ByteArray => x.data.toList) h
  simpa using this
theorem beq_str {a b : Str} (h : a ≠ b) : (a == b) = false := by simpa using h
end Go.Proofs.YtlmdkcpiimpniaaDoor

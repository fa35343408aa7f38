/- From a row's conditions to what the walks ask of the world: the listed variables, and the shape of the world. -/
import Derived.Test.YtabihdhgonnihaaDoorI
import Derived.Shelf.Vars
import Derived.HandedShaped
import Derived.MakeChecks
namespace Go.Proofs.YtabihdhgonnihaaDoor
open Go.ChangeShapes Go.WideShapes Go.ChangeAt Go.RowKit
set_option linter.unusedVariables false
set_option linter.unusedSimpArgs false

theorem mx_of {W : World} (h : W.ShapedOpen Tryd.prog) : ∃ m, W.cell? ⟨2, 0, none⟩ = some (.int .i64 m) :=
  Go.Proofs.cell_of_shapedOpen_int (zero := #[.int .i64 0]) (t := 3) h (of_decide_eq_true (by kernel_rfl)) (by kernel_rfl) rfl (by kernel_rfl) (by kernel_rfl) Tryd.underlying3
theorem iface_var {W : World} {L : List (String × DataW Unit)} {ps : List MemPlace} (h : DataW.LaidVars Tryd.prog W L ps) {n nm : String} {d : DataW Unit} {g : Nat} (hm : (n, DataW.iface nm d) ∈ L) (hg : Tryd.prog.globalNamed n = some g)
    (hty : (Tryd.prog.globals[g]?).map (·.type) = some 73) : ∃ te pe, W.cell? ⟨g, 0, none⟩ = some (.iface te pe) := by
  obtain ⟨g', t, cs, fuel, p, h1, h2, h3, h4⟩ := laid_get h hm
  obtain rfl := Option.some.inj (hg.symm.trans h1)
  obtain rfl := Option.some.inj (hty.symm.trans h2)
  obtain ⟨fuel', u, v, hcs, _, _⟩ := iface_of_trod (ms := #[("Error", 76)]) (by kernel_rfl) h4
  obtain ⟨t, f, hb⟩ := var_block hg h3
  refine ⟨u, v, ?_⟩
  rw [cell_of hb]
  rw [show cs[0]? = cs.toList[0]? by simp, hcs]
  rfl
theorem env_of {W : World} {L : List (String × DataW Unit)} (h : laidMet Tryd.prog L W) (hs : W.ShapedOpen Tryd.prog)
    (h1 : ("seepage/config.rows", Rows.laid_seepage_config_rows) ∈ L) (h2 : ("internal/strconv.uint64pow10", Rows.laid_internal_strconv_uint64pow10) ∈ L)
    (h3 : ("strconv.ErrSyntax", Rows.laid_strconv_ErrSyntax) ∈ L) (h4 : ("strconv.ErrRange", Rows.laid_strconv_ErrRange) ∈ L) : Env W := by
  obtain ⟨ps, hl, _, _⟩ := h
  refine ⟨?_, ?_, iface_var hl h3 g6 (by kernel_rfl), iface_var hl h4 g7 (by kernel_rfl), mx_of hs⟩
  · obtain ⟨g', t, cs, fuel, p, k1, k2, k3, k4⟩ := laid_get hl h1
    obtain rfl := Option.some.inj (g0.symm.trans k1)
    obtain rfl := Option.some.inj ((show (Tryd.prog.globals[0]?).map (·.type) = some 65 by kernel_rfl).symm.trans k2)
    obtain ⟨t, f, hb⟩ := var_block g0 k3
    have e := rows_of k4
    have e2 : cs = rowCells := Array.toList_inj.1 e
    exact ⟨t, f, by rw [hb, e2]⟩
  · obtain ⟨g', t, cs, fuel, p, k1, k2, k3, k4⟩ := laid_get hl h2
    obtain rfl := Option.some.inj (g5.symm.trans k1)
    have hd : (Rows.laid_internal_strconv_uint64pow10 : DataW Unit) = Lib.tabData .u64 Lib.pow10Tab := by
      unfold Rows.laid_internal_strconv_uint64pow10 Lib.tabData Lib.pow10Tab
      rfl
    rw [hd] at k4
    obtain rfl := Option.some.inj ((show (Tryd.prog.globals[5]?).map (·.type) = some 139 by kernel_rfl).symm.trans k2)
    have e := Lib.cells_of_tab (n := 20) (e := 22) Tryd.underlying139 Tryd.underlying22 (by kernel_rfl) (by kernel_rfl) k4
    show W.var? Tryd.prog "internal/strconv.uint64pow10" = _
    rw [k3, ← e]
/-- A row with listed variables, its world's shape kept. -/
theorem handed_laid {H : Type} {enc : TypeId × Value → H} {a : Assume} {C : Checked} {os : Os} {f : FuncId} {fn : Func} {s : ChangeSpec} {conds : List PathCond} {apart fresh handsOn again : Bool} {X : World → Array Value → Prop}
    (hX : ∀ (w w' : World) (args : Array Value), w.heap = w'.heap → X w args → X w' args)
    (own : ownKnob C.prog.godebug = none) (started : os.Started) (noInit : C.prog.inits.idxOf? f = none) (hfn : C.prog.funcs[f]? = some fn)
    (witness : ∃ (w : World) (tape : Tape) (i : Input), w.os = os ∧ (w.forCall tape i).Shaped C.prog ∧ i.vars = [] ∧ Input.okWide C.prog (w.forCall tape i) .any w.heap.size f i ∧
      ((s.pre enc C.prog fn conds apart (w.forCall tape i).memory i.args ∧ X (w.forCall tape i).memory i.args) ∧ sizedMet enc C.prog fn (OpenSpec.ofChange s) apart (w.forCall tape i).memory i.args) ∧ a.holds C.prog (lone (Frame.enter C.prog f i.args .normal) [] (w.forCall tape i)))
    (contract : ∀ (W : World) (base : Nat) (args : Array Value) (ds gs : List (DataW H)) (before : List MemPlace),
      (∀ (j : Nat) t v, fn.params[j]? = some t → args[j]? = some v → Value.okWide C.prog W .any base t v) →
      DataW.Whole enc C.prog fn.params.toList s.vars apart W args.toList ds gs before → X W args → W.ShapedOpen C.prog →
      Calls C.prog f args W fun e W' => ∃ v, e = .returned v ∧ s.post enc C.prog fn apart fresh handsOn again W args v W') :
    ReturnsInHanded a C os f .any (fun w args => (s.pre enc C.prog fn conds apart w args ∧ X w args) ∧ sizedMet enc C.prog fn (OpenSpec.ofChange s) apart w args) (s.post enc C.prog fn apart fresh handsOn again) := by
  refine returnsInHanded_of_calls own started noInit witness fun w tape i _ hsh _ hok hpre _ => ?_
  obtain ⟨_, _, _, g, hg, _, _, _, _, hval⟩ := hok
  obtain rfl : g = fn := Option.some.inj (hg.symm.trans hfn)
  obtain ⟨⟨⟨ds, gs, before, hw, _⟩, hx⟩, _⟩ := hpre
  refine (contract (w.forCall tape i) w.heap.size i.args ds gs before hval (DataW.Whole.of_heap (w' := w.forCall tape i) (by rfl) hw) (hX _ _ _ (by rfl) hx) hsh).mono fun e W' hh => ?_
  obtain ⟨v, rfl, hp⟩ := hh
  exact ChangeSpec.post_blind hp
end Go.Proofs.YtabihdhgonnihaaDoor

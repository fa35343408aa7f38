/- Cycles of both. -/
import Derived.Test.YtejleobpohpdpaaDoorN
namespace Go.Proofs.YtejleobpohpdpaaDoor
open Go.ChangeShapes Go.WideShapes Go.ChangeAt Go.RowKit

/-- Values as elements. -/
def encV (v : Value) : List Value := [v]
theorem encV_len (v : Value) : (encV v).length = 1 := rfl
def lenV (v : Value) : Nat := match v with | .slice _ n _ => n | _ => 0
theorem info24 : (Tryd.prog.info? 24).map (fun i => (i.zero, i.size, i.bytes)) = some (some (.slice none 0 0), 1, 24) := by kernel_rfl
/-- The rows of a slice of slices: each of its own, none of them the block of the slices. -/
structure AllR (w : World) (B : Nat) (vo : Value) (vals : List Value) (l : List (List Nat)) : Prop where
  len : vals.length = l.length
  row : ∀ i, i < l.length → OutR 1 (encK .i64) 3 w B (vals.getD i undef) (ns (l.getD i []))
  ap : ∀ i, i < l.length → ∀ g, (vals.getD i undef).ownBlock = some g → vo.ownBlock ≠ some g
/-- Apart from another row. -/
def Apart (vals : List Value) (vo v : Value) : Prop := (∀ i, i < vals.length → ∀ g, (vals.getD i undef).ownBlock = some g → v.ownBlock ≠ some g) ∧ ∀ g, vo.ownBlock = some g → v.ownBlock ≠ some g
theorem AllR.touch {S : Nat → Prop} {w w' : World} {B : Nat} {vo : Value} {vals : List Value} {l : List (List Nat)} (h : AllR w B vo vals l) (ht : Touch S w w') (hs : ∀ i, i < vals.length → ∀ g, (vals.getD i undef).ownBlock = some g → ¬ S g) : AllR w' B vo vals l :=
  ⟨h.len, fun i hi => ⟨ownsRow_touch (h.row i hi).row ht (fun g hg => hs i (by rw [h.len]; exact hi) g hg), (h.row i hi).blk⟩, h.ap⟩
theorem OutR.touch {α : Type} {sz : Nat} {enc : α → List Value} {e : TypeId} {S : Nat → Prop} {w w' : World} {B : Nat} {v : Value} {zs : List α} (h : OutR sz enc e w B v zs) (ht : Touch S w w') (hs : ∀ g, v.ownBlock = some g → ¬ S g) : OutR sz enc e w' B v zs := ⟨ownsRow_touch h.row ht hs, h.blk⟩
/-- An append of one slice to a slice of slices. -/
theorem wpList_appV {P : Program} {wr : World} {ops : Array Oper} {rest : List Oper} {o : Oper} {a : Act} {Q : Exit → Act → World → Prop} (hgd : o.guard = none) (s x : Operand) (t : TypeId)
    (ho : o.op = .call { callee := .builtin .append, args := #[s, x], argTypes := #[t, t] })
    (e : TypeId) (i : TypeInfo) (z : Value) (bytes : Nat) (ht : P.underlying t = some (.slice e)) (hi : P.info? e = some i) (hz : i.zero = some z) (hzs : z.cells.size = 1)
    (hsize : i.size = 1) (hby : i.bytes = bytes) (hb8 : bytes ≤ 32)
    {B : Nat} {v : Value} {zs : List Value} (hs : a.eval s = v) (hO : OutR 1 encV e wr B v zs) (hB : B ≤ wr.heap.size) (y : Value) (hy : y.oneCell' = true)
    (hx : a.eval x = .slice (some ⟨wr.heap.size, 0, none⟩) 1 1) (hlen : zs.length + 1 ≤ 1099511627776)
    (h : ∀ v' w', OutR 1 encV e w' B v' (zs ++ [y]) → Touch (fun b => v.ownBlock = some b) wr w' → Below B wr w' → (∀ g, v'.ownBlock = some g → v.ownBlock = some g ∨ wr.heap.size ≤ g) → wpList P ops Q rest (a.put o.dst v') w') :
    wpList P ops Q (o :: rest) a (wr.alloc (.cells #[y] e)) := by
  refine wpList_append_slice _ hgd s x t ho e i z 1 bytes ht hi hz hsize hby hzs (by decide) v zs.length (flat encV zs) hs (hO.row.alloc _) (some ⟨wr.heap.size, 0, none⟩) 1 1 (encV y) hx rfl (fun h => by cases h) ?_ (fun u hu => by simp [encV] at hu; subst hu; exact hy) ?_ ?_ ?_
  · intro a ha; cases ha
    intro j u hj
    rw [addr_add, cell_of (block_new _ _), Nat.zero_add]
    simpa [encV] using hj
  · unfold maxLen; omega
  · have := Nat.mul_le_mul (Nat.le_refl (zs.length + 1)) hb8; omega
  · intro v1 w1 hr1 hg1 hn1
    obtain ⟨h1, h2, h3, h4⟩ := hO.grow (ys := [y]) (Below.alloc (Below.refl _ _) (Nat.le_refl _) _) hB (by simpa [flat] using hr1) hg1 hn1
    exact h v1 w1 h1 h2 h3 h4
/-- As wpList_app, where the walk writes the heap's size otherwise. -/
theorem wpList_app' {P : Program} {wr : World} {ops : Array Oper} {rest : List Oper} {o : Oper} {a : Act} {Q : Exit → Act → World → Prop} (hgd : o.guard = none) (s x : Operand) (t : TypeId)
    (ho : o.op = .call { callee := .builtin .append, args := #[s, x], argTypes := #[t, t] })
    (e : TypeId) (i : TypeInfo) (k : IntKind) (bytes : Nat) (ht : P.underlying t = some (.slice e)) (hi : P.info? e = some i) (hz : i.zero = some (.int k 0))
    (hsize : i.size = 1) (hby : i.bytes = bytes) (hb8 : bytes ≤ 8)
    {B : Nat} {v : Value} {zs : List Int} (hs : a.eval s = v) (hO : OutR 1 (encK k) e wr B v zs) (hB : B ≤ wr.heap.size) (y : Int) {H : Nat} (hH : wr.heap.size = H)
    (hx : a.eval x = .slice (some ⟨H, 0, none⟩) 1 1) (hlen : zs.length + 1 ≤ 1099511627776)
    (h : ∀ v' w', OutR 1 (encK k) e w' B v' (zs ++ [y]) → Touch (fun b => v.ownBlock = some b) wr w' → Below B wr w' → (∀ g, v'.ownBlock = some g → v.ownBlock = some g ∨ wr.heap.size ≤ g) → wpList P ops Q rest (a.put o.dst v') w') :
    wpList P ops Q (o :: rest) a (wr.alloc (.cells #[.int k y] e)) := by
  subst hH
  exact wpList_app hgd s x t ho e i k bytes ht hi hz hsize hby hb8 hs hO hB y hx hlen h
theorem getD_snoc {vals : List Value} {v : Value} {i : Nat} (h : i < vals.length) : (vals ++ [v]).getD i undef = vals.getD i undef := by
  simp [List.getD_eq_getElem?_getD, List.getElem?_append_left h]
theorem getD_snoc' {α : Type} {l : List α} {v d : α} {i : Nat} (h : i < l.length) : (l ++ [v]).getD i d = l.getD i d := by
  simp [List.getD_eq_getElem?_getD, List.getElem?_append_left h]
theorem getD_last {α : Type} {l : List α} {v d : α} : (l ++ [v]).getD l.length d = v := by simp
theorem AllR.snoc {w : World} {B : Nat} {vo : Value} {vals : List Value} {l : List (List Nat)} (h : AllR w B vo vals l) {v : Value} {c : List Nat} (hr : OutR 1 (encK .i64) 3 w B v (ns c)) (ha : ∀ g, v.ownBlock = some g → vo.ownBlock ≠ some g) : AllR w B vo (vals ++ [v]) (l ++ [c]) := by
  refine ⟨by simp [h.len], fun i hi => ?_, fun i hi g hg => ?_⟩
  · simp at hi
    rcases Nat.lt_or_ge i l.length with hl | hl
    · rw [getD_snoc (by rw [h.len]; exact hl), getD_snoc' hl]; exact h.row i hl
    · obtain rfl : i = l.length := by omega
      rw [← h.len, getD_last, h.len, getD_last]; exact hr
  · simp at hi
    rcases Nat.lt_or_ge i l.length with hl | hl
    · rw [getD_snoc (by rw [h.len]; exact hl)] at hg; exact h.ap i hl g hg
    · obtain rfl : i = l.length := by omega
      rw [← h.len, getD_last] at hg; exact ha g hg
def CyRel (w : World) (gs : Nat) (p : List Nat) (vo vi : Value) (wr : World) : Prop :=
  ∃ (k : Nat) (G : List Bool) (vals : List Value) (l : List (List Nat)), k ≤ p.length ∧ vi = .int .i64 k ∧ G.length = p.length ∧ wr.heap[gs]? = some (.cells (bls G) 4 (0, 0)) ∧ l ++ outer p (p.length - k) k G = cycs p ∧ l.length ≤ k ∧
    OutR 1 encV 24 wr (gs + 1) vo vals ∧ AllR wr (gs + 1) vo vals l ∧ Below w.heap.size w wr ∧ gs + 1 ≤ wr.heap.size
def CyRel2 (w : World) (gs : Nat) (p : List Nat) (T : List Nat × List Bool) (vo : Value) (vals : List Value) (l : List (List Nat)) (vc vx : Value) (wr : World) : Prop :=
  ∃ (c : List Nat) (f : Nat) (G : List Bool) (x : Nat), vx = .int .i64 x ∧ x < p.length ∧ frees G ≤ f ∧ c.length + frees G ≤ p.length ∧ c ++ (run p f G x).1 = T.1 ∧ (run p f G x).2 = T.2 ∧ G.length = p.length ∧ wr.heap[gs]? = some (.cells (bls G) 4 (0, 0)) ∧
    OutR 1 (encK .i64) 3 wr (gs + 1) vc (ns c) ∧ OutR 1 encV 24 wr (gs + 1) vo vals ∧ AllR wr (gs + 1) vo vals l ∧ Apart vals vo vc ∧ Below w.heap.size w wr ∧ gs + 1 ≤ wr.heap.size
theorem run_len (p : List Nat) : ∀ (f : Nat) (G : List Bool) (x : Nat), (run p f G x).2.length = G.length
  | 0, _, _ => rfl
  | f + 1, G, x => by
    cases h : G.getD x true
    · rw [run_new h]; show (run p f (G.set x true) _).2.length = _; rw [run_len p f]; simp
    · rw [run_seen h]
set_option maxRecDepth 100000 in
set_option maxHeartbeats 8000000 in
theorem pcyc_ok {p : List Nat} (hp : IsP p) (hl : p.length ≤ 16384) {w : World} {aa : Option Addr} {la ca : Nat} (h : IsK .i64 w aa la ca (ns p)) :
    Calls Tryd.prog 24 #[.slice aa la ca] w fun e w' => ∃ vo vals, e = .returned (.tuple #[vo, .int .i64 0]) ∧ OutR 1 encV 24 w' w.heap.size vo vals ∧ AllR w' w.heap.size vo vals (cycs p) ∧ Below w.heap.size w w' := by
  have hal := h.hlen; have hac := h.hle; have ham := h.hmax
  rw [ns_len] at hal
  unfold maxLen at ham
  have HC := Lib.hid (pcheck h)
  rw [chk_yes (okP_ns hp hl)] at HC
  have H := Lib.hid h; have HAL := Lib.hid hal; have HP := Lib.hid hp
  obtain ⟨CI, hCI⟩ : ∃ C, C = madeCells #[Value.bool false] la := ⟨_, rfl⟩
  have m1 := make_b la (by omega)
  rw [← hCI] at m1
  have HCI := Lib.hid hCI
  obtain ⟨i0, hi, hz0, hz1, hz2⟩ := info_parts info3
  obtain ⟨j0, hj, hy0, hy1, hy2⟩ := info_parts info24
  have hnot : ∀ (x : Bool) (w : World), (Op.unary .not (.bool x)).run Tryd.prog w = .ok (.bool (!x)) w := fun _ _ => rfl
  clear h hal hCI hp
  go_enter Tryd.func24, Tryd.ntmps24
  go_wp2_with fail
  refine (HC.out).mono ?_; rintro e w1 ⟨rfl, hb⟩
  have B1 := Lib.hid hb
  have hw1 := hb.size
  clear hb
  go_wp2_with fail
  obtain ⟨w3, hw3⟩ : ∃ W, W = w1.alloc (.cells CI 4) := ⟨_, rfl⟩
  have B3 : Hid (Below w.heap.size w w3) := Lib.hid (by rw [hw3]; exact B1.out.alloc hw1 _)
  have G3 : Hid (w3.heap[w1.heap.size]? = some (.cells (bls (List.replicate p.length false)) 4 (0, 0))) := Lib.hid (by rw [hw3, ← HAL.out, ← bls_0, ← HCI.out]; exact block_new _ _)
  have hs3 : w3.heap.size = w1.heap.size + 1 := by rw [hw3]; simp
  have HS3 := Lib.hid hs3
  rw [← hw3]
  clear hw3 m1 hs3
  generalize w1.heap.size = gs at *
  go_loopw [5, 7, 8, 9, 20] (fun vo v7 v8 v9 vi wr => CyRel w gs p vo vi wr) (fun vo v7 v8 v9 vi _ => la - (intOf vi).toNat)
  case atStart => exact ⟨0, _, [], [], Nat.zero_le _, rfl, by simp, G3.out, rfl, Nat.le_refl _, ⟨World.ownsRow_nil _ _ _ _, fun g h => by cases h⟩, ⟨rfl, fun i hi => by simp at hi, fun i hi => by simp at hi⟩, B3.out, by rw [HS3.out]; exact Nat.le_refl _⟩
  case round =>
    clear G3 B3 B1 HS3
    obtain ⟨k, G, vals, l, hk, rfl, hGl, hg, hcy, hlk, ho, har, hbl, hsz⟩ := hrel
    have BL := Lib.hid hbl; have O := Lib.hid ho; have HG := Lib.hid hg; have CY := Lib.hid hcy; have AR := Lib.hid har; have GL := Lib.hid hGl
    clear hbl ho hg hcy har hGl
    by_cases hlt : k < la
    · have hkp : k < p.length := by have := HAL.out; omega
      have cg : wr.cell? ⟨gs, k, none⟩ = some (.bool (G.getD k true)) := by rw [cell_of HG.out, bls_cell (by have := GL.out; omega)]
      obtain ⟨m, hm⟩ : ∃ m, p.length - k = m + 1 := ⟨p.length - k - 1, by omega⟩
      have HM := Lib.hid hm
      clear hm
      cases hf : G.getD k true
      · rw [hf] at cg
        have hcy2 := CY.out
        rw [HM.out, outer_new hf] at hcy2
        have hTl := run_len p p.length G k
        have HFG := Lib.hid (frees_le G)
        obtain ⟨T, hT⟩ : ∃ T, T = run p p.length G k := ⟨_, rfl⟩
        rw [← hT] at hcy2 hTl
        have HT := Lib.hid hT; have CY2 := Lib.hid hcy2; have TL := Lib.hid hTl
        clear hT hcy2 hTl hf
        go_wp2_with fail
        obtain ⟨wo, rfl⟩ : ∃ wo : World, wo = wr := ⟨_, rfl⟩
        go_loopw [8, 9] (fun vc vx wr => CyRel2 w gs p T u5 vals l vc vx wr) (fun vc _ _ => p.length - lenV vc)
        case atStart => exact ⟨[], p.length, G, k, rfl, hkp, by rw [← GL.out]; exact HFG.out, by have := HFG.out; have := GL.out; simp; omega, by rw [HT.out]; rfl, by rw [HT.out], GL.out, HG.out, ⟨World.ownsRow_nil _ _ _ _, fun g h => by cases h⟩, O.out, AR.out, ⟨fun i hi g hg h => (by cases h), fun g hg h => (by cases h)⟩, BL.out, hsz⟩
        case round =>
          clear HG BL O AR HFG cg GL HT CY TL
          clear G
          obtain ⟨c, f, G, x, rfl, hxl, hfr, hcf, hT1, hT2, hGl, hg, hoc, ho, har, hap, hbl, hsz⟩ := hrel
          have BL := Lib.hid hbl; have O := Lib.hid ho; have HG := Lib.hid hg; have AR := Lib.hid har; have GL := Lib.hid hGl; have T1 := Lib.hid hT1; have T2 := Lib.hid hT2; have OC := Lib.hid hoc; have AP := Lib.hid hap
          clear hbl ho hg har hGl hT1 hT2 hoc hap
          have hxa : x < la := by have := HAL.out; omega
          have cg : wr.cell? ⟨gs, x, none⟩ = some (.bool (G.getD x true)) := by rw [cell_of HG.out, bls_cell (by have := GL.out; omega)]
          have fg := free_of HG.out x
          cases hf : G.getD x true
          · rw [hf] at cg
            have hfs := frees_set (G := G) (i := x) (by have := GL.out; omega) hf
            obtain ⟨f, rfl⟩ : ∃ f', f = f' + 1 := ⟨f - 1, by omega⟩
            have t1 := T1.out; have t2 := T2.out
            rw [run_new hf] at t1 t2
            have T1' := Lib.hid t1; have T2' := Lib.hid t2
            have hfs2 : frees (G.set x true) ≤ f := by omega
            have hcf2 : c.length + 1 + frees (G.set x true) ≤ p.length := by omega
            have hG4 := set_of HG.out x (.bool true)
            rw [bls_set] at hG4
            have HG4 := Lib.hid hG4
            obtain ⟨ac, cc, rfl, _⟩ := OC.out.sl
            rw [ns_len] at *
            have TS := Lib.hid ((Touch.refl (fun kk => kk = gs) wr).setCell (p := ⟨gs, x, none⟩) (fun _ => rfl) (.bool true))
            have OC4 := Lib.hid (OC.out.touch TS.out (fun g hg e => by have := OC.out.blk g hg; omega))
            have O4 := Lib.hid (O.out.touch TS.out (fun g hg e => by have := O.out.blk g hg; omega))
            have AR4 := Lib.hid (AR.out.touch TS.out (fun i hi' g hg e => by have := (AR.out.row i (by rw [← AR.out.len]; exact hi')).blk g hg; omega))
            have BL4 := Lib.hid (BL.out.setCell (p := ⟨gs, x, none⟩) (by show w.heap.size ≤ gs; exact hw1) (.bool true))
            have hsz4 : gs + 1 ≤ (wr.setCell ⟨gs, x, none⟩ (.bool true)).heap.size := by simpa using hsz
            have HSZ4 := Lib.hid hsz4
            clear hsz4
            clear hG4 hf t1 t2 TS OC O AR BL HG T1 T2 hfs
            have hclen : c.length + 1 ≤ 16384 := by omega
            obtain ⟨b, off, rfl, _, _⟩ := H.out.at_ (by intro h; have h1 := ns_len p; rw [h] at h1; simp at h1; omega)
            have hnx := HP.out.get_lt hxl
            go_wp2_with (at_builtin; refine wpList_app' rfl (.tmp 40) (.tmp 42) 24 rfl 3 i0 .i64 8 Tryd.underlying24 hi hz0 hz1 hz2 (by decide) rfl OC4.out HSZ4.out (x : Int) (H := wr.heap.size) (by simp) rfl (by rw [ns_len]; omega) ?_)
            intro v5 w5 h1 h2 h3 h4
            have OC5 : Hid (OutR 1 (encK .i64) 3 w5 (gs + 1) v5 (ns (c ++ [x]))) := Lib.hid (by rw [← ns_app]; exact h1)
            have O5 := Lib.hid (O4.out.touch h2 (fun g hg e => AP.out.2 g hg e))
            have AR5 := Lib.hid (AR4.out.touch h2 (fun i hi' g hg e => AP.out.1 i hi' g hg e))
            have HG5 := Lib.hid (h2.keep HG4.out (fun e => by have := OC4.out.blk _ e; omega))
            have AP5 : Hid (Apart vals u5 v5) := Lib.hid ⟨fun i hi' g hg e => (h4 g e).elim (fun e' => AP.out.1 i hi' g hg e') (fun e' => by have := own_lt (AR4.out.row i (by rw [← AR4.out.len]; exact hi')).row hg; simp at this; omega), fun g hg e => (h4 g e).elim (fun e' => AP.out.2 g hg e') (fun e' => by have := own_lt O4.out.row hg; simp at this; omega)⟩
            have BL5 := Lib.hid (BL4.out.trans (h3.mono (by omega)))
            have hsz5 : gs + 1 ≤ w5.heap.size := Nat.le_trans HSZ4.out h2.size
            have hl5 : lenV v5 = c.length + 1 := by obtain ⟨a5, c5, e5, _⟩ := OC5.out.sl; rw [e5, ns_len]; simp [lenV]
            have HL5 := Lib.hid hl5
            clear h1 h2 h3 h4 hl5 OC4 O4 AR4 BL4 HG4 cg fg
            have x0 := (H.out.below BL5.out).cellK (i := x) (by rw [ns_len]; exact hxl)
            rw [ns_get] at x0
            generalize p.getD x 0 = y at *
            go_wp2_with fail
            go_roundw
            case rel => exact ⟨c ++ [x], f, G.set x true, y, rfl, hnx, hfs2, by simp; omega, by rw [List.append_assoc]; exact T1'.out, T2'.out, by simp [GL.out], HG5.out, OC5.out, O5.out, AR5.out, AP5.out, BL5.out, hsz5⟩
            case measure => rw [HL5.out]; simp only [lenV]; omega
          · rw [hf] at cg
            have t1 := T1.out; have t2 := T2.out
            rw [run_seen hf] at t1 t2
            rw [List.append_nil] at t1
            have T1' := Lib.hid t1; have T2' := Lib.hid t2
            have hll : l.length + 1 ≤ 16384 := by omega
            have hvl := AR.out.len
            have HVL := Lib.hid hvl
            obtain ⟨ac, cc, rfl, _⟩ := OC.out.sl
            rw [ns_len] at *
            clear t1 t2 hf hvl
            go_wp2_with (at_builtin; refine wpList_appV rfl (.tmp 44) (.tmp 46) 42 rfl 24 j0 (.slice none 0 0) 24 Tryd.underlying42 hj hy0 rfl hy1 hy2 (by decide) rfl O.out hsz _ rfl rfl (by have := HVL.out; omega) ?_)
            intro v5 w5 h1 h2 h3 h4
            have O5 := Lib.hid h1
            have OC5 := Lib.hid (OC.out.touch h2 (fun g hg e => AP.out.2 g e hg))
            have AR5a := Lib.hid (AR.out.touch h2 (fun i hi' g hg e => AR.out.ap i (by rw [← AR.out.len]; exact hi') g hg e))
            have HG5 := Lib.hid (h2.keep HG.out (fun e => by have := O.out.blk _ e; omega))
            have AR5 : Hid (AllR w5 (gs + 1) v5 (vals ++ [.slice ac c.length cc]) (l ++ [c])) := Lib.hid (by
              have hb : AllR w5 (gs + 1) v5 vals l := ⟨AR5a.out.len, AR5a.out.row, fun i hi' g hg e => (h4 g e).elim (fun e' => AR.out.ap i hi' g hg e') (fun e' => by have := own_lt (AR.out.row i hi').row hg; omega)⟩
              exact hb.snoc OC5.out (fun g hg e => (h4 g e).elim (fun e' => AP.out.2 g e' hg) (fun e' => by have := own_lt OC.out.row hg; omega)))
            have BL5 := Lib.hid (BL.out.trans (h3.mono (by omega)))
            have hsz5 : gs + 1 ≤ w5.heap.size := Nat.le_trans hsz h2.size
            have CY5 : Hid ((l ++ [c]) ++ outer p (p.length - (k + 1)) (k + 1) G = cycs p) := Lib.hid (by
              have h1 := CY2.out
              rw [← T1'.out, ← T2'.out] at h1
              rw [show p.length - (k + 1) = m by have := HM.out; omega, ← h1]; simp)
            clear h1 h2 h3 h4 O AR5a AR BL HG
            go_wp2_with fail
            go_roundw
            case rel => exact ⟨k + 1, G, vals ++ [.slice ac c.length cc], l ++ [c], by omega, by go_num, GL.out, HG5.out, CY5.out, by simp; omega, O5.out, AR5.out, BL5.out, hsz5⟩
            case measure => simp [intOf]; omega
      · rw [hf] at cg
        have CY5 : Hid (l ++ outer p (p.length - (k + 1)) (k + 1) G = cycs p) := Lib.hid (by
          have h1 := CY.out
          rw [HM.out, outer_seen hf] at h1
          rw [show p.length - (k + 1) = m by have := HM.out; omega]; exact h1)
        clear hf
        go_wp2_with fail
        go_roundw
        case rel => exact ⟨k + 1, G, vals, l, by omega, by go_num, GL.out, HG.out, CY5.out, by omega, O.out, AR.out, BL.out, hsz⟩
        case measure => simp [intOf]; omega
    · have hkk : p.length - k = 0 := by have := HAL.out; omega
      have HF : Hid (OutR 1 encV 24 wr w.heap.size u5 vals) := Lib.hid ⟨O.out.row, fun g hg => by have := O.out.blk g hg; omega⟩
      have HA : Hid (AllR wr w.heap.size u5 vals (cycs p)) := Lib.hid (by
        have h1 := CY.out
        rw [hkk, outer, List.append_nil] at h1
        rw [← h1]
        exact ⟨AR.out.len, fun i hi' => ⟨(AR.out.row i hi').row, fun g hg => by have := (AR.out.row i hi').blk g hg; omega⟩, AR.out.ap⟩)
      clear hkk
      go_wp2_with fail
      go_ret2
      exact ⟨_, vals, rfl, HF.out, HA.out, BL.out⟩
theorem pcyc_no {zs : List Int} (hz : okP zs = false) {w : World} {aa : Option Addr} {la ca : Nat} (h : IsK .i64 w aa la ca zs) :
    Calls Tryd.prog 24 #[.slice aa la ca] w fun e w' => e = .returned (.tuple #[.slice none 0 0, .int .i64 2]) ∧ Below w.heap.size w w' := by
  have HC := Lib.hid (pcheck h)
  rw [chk_no hz] at HC
  clear h hz
  go_enter Tryd.func24, Tryd.ntmps24
  go_wp2_with fail
  refine (HC.out).mono ?_; rintro e w1 ⟨rfl, hb⟩
  have B1 := Lib.hid hb
  clear hb
  go_wp2_with fail
  go_ret2
  exact ⟨rfl, B1.out⟩
set_option maxRecDepth 100000 in
set_option maxHeartbeats 8000000 in
theorem rcyc_ok {p : List Nat} (hp : IsP p) (hl : p.length ≤ 16384) {w : World} {aa : Option Addr} {la ca : Nat} (h : IsK .i64 w aa la ca (ns p)) :
    Calls Tryd.prog 33 #[.slice aa la ca] w fun e w' => ∃ vo vals, e = .returned (.tuple #[vo, .int .i64 0]) ∧ OutR 1 encV 24 w' w.heap.size vo vals ∧ AllR w' w.heap.size vo vals (cycs p) ∧ Below w.heap.size w w' := by
  have hal := h.hlen; have hac := h.hle; have ham := h.hmax
  rw [ns_len] at hal
  unfold maxLen at ham
  have HC := Lib.hid (rcheck h)
  rw [chk_yes (okP_ns hp hl)] at HC
  have H := Lib.hid h; have HAL := Lib.hid hal; have HP := Lib.hid hp
  obtain ⟨CI, hCI⟩ : ∃ C, C = madeCells #[Value.bool false] la := ⟨_, rfl⟩
  have m1 := make_b la (by omega)
  rw [← hCI] at m1
  have HCI := Lib.hid hCI
  obtain ⟨i0, hi, hz0, hz1, hz2⟩ := info_parts info3
  obtain ⟨j0, hj, hy0, hy1, hy2⟩ := info_parts info24
  have hnot : ∀ (x : Bool) (w : World), (Op.unary .not (.bool x)).run Tryd.prog w = .ok (.bool (!x)) w := fun _ _ => rfl
  clear h hal hCI hp
  go_enter Tryd.func33, Tryd.ntmps33
  go_wp2_with fail
  refine (HC.out).mono ?_; rintro e w1 ⟨rfl, hb⟩
  have B1 := Lib.hid hb
  have hw1 := hb.size
  clear hb
  go_wp2_with fail
  obtain ⟨w3, hw3⟩ : ∃ W, W = w1.alloc (.cells CI 4) := ⟨_, rfl⟩
  have B3 : Hid (Below w.heap.size w w3) := Lib.hid (by rw [hw3]; exact B1.out.alloc hw1 _)
  have G3 : Hid (w3.heap[w1.heap.size]? = some (.cells (bls (List.replicate p.length false)) 4 (0, 0))) := Lib.hid (by rw [hw3, ← HAL.out, ← bls_0, ← HCI.out]; exact block_new _ _)
  have hs3 : w3.heap.size = w1.heap.size + 1 := by rw [hw3]; simp
  have HS3 := Lib.hid hs3
  rw [← hw3]
  clear hw3 m1 hs3
  generalize w1.heap.size = gs at *
  go_loopw [5, 6, 7, 8] (fun vo vi v7 v8 wr => CyRel w gs p vo vi wr) (fun vo vi v7 v8 _ => la - (intOf vi).toNat)
  case atStart => exact ⟨0, _, [], [], Nat.zero_le _, rfl, by simp, G3.out, rfl, Nat.le_refl _, ⟨World.ownsRow_nil _ _ _ _, fun g h => by cases h⟩, ⟨rfl, fun i hi => by simp at hi, fun i hi => by simp at hi⟩, B3.out, by rw [HS3.out]; exact Nat.le_refl _⟩
  case round =>
    clear G3 B3 B1 HS3
    obtain ⟨k, G, vals, l, hk, rfl, hGl, hg, hcy, hlk, ho, har, hbl, hsz⟩ := hrel
    have BL := Lib.hid hbl; have O := Lib.hid ho; have HG := Lib.hid hg; have CY := Lib.hid hcy; have AR := Lib.hid har; have GL := Lib.hid hGl
    clear hbl ho hg hcy har hGl
    by_cases hlt : k < la
    · have hkp : k < p.length := by have := HAL.out; omega
      have cg : wr.cell? ⟨gs, k, none⟩ = some (.bool (G.getD k true)) := by rw [cell_of HG.out, bls_cell (by have := GL.out; omega)]
      obtain ⟨m, hm⟩ : ∃ m, p.length - k = m + 1 := ⟨p.length - k - 1, by omega⟩
      have HM := Lib.hid hm
      clear hm
      cases hf : G.getD k true
      · rw [hf] at cg
        have hcy2 := CY.out
        rw [HM.out, outer_new hf] at hcy2
        have hTl := run_len p p.length G k
        have HFG := Lib.hid (frees_le G)
        obtain ⟨T, hT⟩ : ∃ T, T = run p p.length G k := ⟨_, rfl⟩
        rw [← hT] at hcy2 hTl
        have HT := Lib.hid hT; have CY2 := Lib.hid hcy2; have TL := Lib.hid hTl
        clear hT hcy2 hTl hf
        go_wp2_with fail
        obtain ⟨wo, rfl⟩ : ∃ wo : World, wo = wr := ⟨_, rfl⟩
        go_loopw [7, 8] (fun vc vx wr => CyRel2 w gs p T u5 vals l vc vx wr) (fun vc _ _ => p.length - lenV vc)
        case atStart => exact ⟨[], p.length, G, k, rfl, hkp, by rw [← GL.out]; exact HFG.out, by have := HFG.out; have := GL.out; simp; omega, by rw [HT.out]; rfl, by rw [HT.out], GL.out, HG.out, ⟨World.ownsRow_nil _ _ _ _, fun g h => by cases h⟩, O.out, AR.out, ⟨fun i hi g hg h => (by cases h), fun g hg h => (by cases h)⟩, BL.out, hsz⟩
        case round =>
          clear HG BL O AR HFG cg GL HT CY TL
          clear G
          obtain ⟨c, f, G, x, rfl, hxl, hfr, hcf, hT1, hT2, hGl, hg, hoc, ho, har, hap, hbl, hsz⟩ := hrel
          have BL := Lib.hid hbl; have O := Lib.hid ho; have HG := Lib.hid hg; have AR := Lib.hid har; have GL := Lib.hid hGl; have T1 := Lib.hid hT1; have T2 := Lib.hid hT2; have OC := Lib.hid hoc; have AP := Lib.hid hap
          clear hbl ho hg har hGl hT1 hT2 hoc hap
          have hxa : x < la := by have := HAL.out; omega
          have cg : wr.cell? ⟨gs, x, none⟩ = some (.bool (G.getD x true)) := by rw [cell_of HG.out, bls_cell (by have := GL.out; omega)]
          have fg := free_of HG.out x
          cases hf : G.getD x true
          · rw [hf] at cg
            have hfs := frees_set (G := G) (i := x) (by have := GL.out; omega) hf
            obtain ⟨f, rfl⟩ : ∃ f', f = f' + 1 := ⟨f - 1, by omega⟩
            have t1 := T1.out; have t2 := T2.out
            rw [run_new hf] at t1 t2
            have T1' := Lib.hid t1; have T2' := Lib.hid t2
            have hfs2 : frees (G.set x true) ≤ f := by omega
            have hcf2 : c.length + 1 + frees (G.set x true) ≤ p.length := by omega
            have hG4 := set_of HG.out x (.bool true)
            rw [bls_set] at hG4
            have HG4 := Lib.hid hG4
            obtain ⟨ac, cc, rfl, _⟩ := OC.out.sl
            rw [ns_len] at *
            have TS := Lib.hid ((Touch.refl (fun kk => kk = gs) wr).setCell (p := ⟨gs, x, none⟩) (fun _ => rfl) (.bool true))
            have OC4 := Lib.hid (OC.out.touch TS.out (fun g hg e => by have := OC.out.blk g hg; omega))
            have O4 := Lib.hid (O.out.touch TS.out (fun g hg e => by have := O.out.blk g hg; omega))
            have AR4 := Lib.hid (AR.out.touch TS.out (fun i hi' g hg e => by have := (AR.out.row i (by rw [← AR.out.len]; exact hi')).blk g hg; omega))
            have BL4 := Lib.hid (BL.out.setCell (p := ⟨gs, x, none⟩) (by show w.heap.size ≤ gs; exact hw1) (.bool true))
            have hsz4 : gs + 1 ≤ (wr.setCell ⟨gs, x, none⟩ (.bool true)).heap.size := by simpa using hsz
            have HSZ4 := Lib.hid hsz4
            clear hsz4
            clear hG4 hf t1 t2 TS OC O AR BL HG T1 T2 hfs
            have hclen : c.length + 1 ≤ 16384 := by omega
            obtain ⟨b, off, rfl, _, _⟩ := H.out.at_ (by intro h; have h1 := ns_len p; rw [h] at h1; simp at h1; omega)
            have hnx := HP.out.get_lt hxl
            go_wp2_with (at_builtin; refine wpList_app' rfl (.tmp 38) (.tmp 40) 24 rfl 3 i0 .i64 8 Tryd.underlying24 hi hz0 hz1 hz2 (by decide) rfl OC4.out HSZ4.out (x : Int) (H := wr.heap.size) (by simp) rfl (by rw [ns_len]; omega) ?_)
            intro v5 w5 h1 h2 h3 h4
            have OC5 : Hid (OutR 1 (encK .i64) 3 w5 (gs + 1) v5 (ns (c ++ [x]))) := Lib.hid (by rw [← ns_app]; exact h1)
            have O5 := Lib.hid (O4.out.touch h2 (fun g hg e => AP.out.2 g hg e))
            have AR5 := Lib.hid (AR4.out.touch h2 (fun i hi' g hg e => AP.out.1 i hi' g hg e))
            have HG5 := Lib.hid (h2.keep HG4.out (fun e => by have := OC4.out.blk _ e; omega))
            have AP5 : Hid (Apart vals u5 v5) := Lib.hid ⟨fun i hi' g hg e => (h4 g e).elim (fun e' => AP.out.1 i hi' g hg e') (fun e' => by have := own_lt (AR4.out.row i (by rw [← AR4.out.len]; exact hi')).row hg; simp at this; omega), fun g hg e => (h4 g e).elim (fun e' => AP.out.2 g hg e') (fun e' => by have := own_lt O4.out.row hg; simp at this; omega)⟩
            have BL5 := Lib.hid (BL4.out.trans (h3.mono (by omega)))
            have hsz5 : gs + 1 ≤ w5.heap.size := Nat.le_trans HSZ4.out h2.size
            have hl5 : lenV v5 = c.length + 1 := by obtain ⟨a5, c5, e5, _⟩ := OC5.out.sl; rw [e5, ns_len]; simp [lenV]
            have HL5 := Lib.hid hl5
            clear h1 h2 h3 h4 hl5 OC4 O4 AR4 BL4 HG4 cg fg
            have x0 := (H.out.below BL5.out).cellK (i := x) (by rw [ns_len]; exact hxl)
            rw [ns_get] at x0
            generalize p.getD x 0 = y at *
            go_wp2_with fail
            go_roundw
            case rel => exact ⟨c ++ [x], f, G.set x true, y, rfl, hnx, hfs2, by simp; omega, by rw [List.append_assoc]; exact T1'.out, T2'.out, by simp [GL.out], HG5.out, OC5.out, O5.out, AR5.out, AP5.out, BL5.out, hsz5⟩
            case measure => rw [HL5.out]; simp only [lenV]; omega
          · rw [hf] at cg
            have t1 := T1.out; have t2 := T2.out
            rw [run_seen hf] at t1 t2
            rw [List.append_nil] at t1
            have T1' := Lib.hid t1; have T2' := Lib.hid t2
            have hll : l.length + 1 ≤ 16384 := by omega
            have hvl := AR.out.len
            have HVL := Lib.hid hvl
            obtain ⟨ac, cc, rfl, _⟩ := OC.out.sl
            rw [ns_len] at *
            clear t1 t2 hf hvl
            go_wp2_with (at_builtin; refine wpList_appV rfl (.tmp 42) (.tmp 44) 42 rfl 24 j0 (.slice none 0 0) 24 Tryd.underlying42 hj hy0 rfl hy1 hy2 (by decide) rfl O.out hsz _ rfl rfl (by have := HVL.out; omega) ?_)
            intro v5 w5 h1 h2 h3 h4
            have O5 := Lib.hid h1
            have OC5 := Lib.hid (OC.out.touch h2 (fun g hg e => AP.out.2 g e hg))
            have AR5a := Lib.hid (AR.out.touch h2 (fun i hi' g hg e => AR.out.ap i (by rw [← AR.out.len]; exact hi') g hg e))
            have HG5 := Lib.hid (h2.keep HG.out (fun e => by have := O.out.blk _ e; omega))
            have AR5 : Hid (AllR w5 (gs + 1) v5 (vals ++ [.slice ac c.length cc]) (l ++ [c])) := Lib.hid (by
              have hb : AllR w5 (gs + 1) v5 vals l := ⟨AR5a.out.len, AR5a.out.row, fun i hi' g hg e => (h4 g e).elim (fun e' => AR.out.ap i hi' g hg e') (fun e' => by have := own_lt (AR.out.row i hi').row hg; omega)⟩
              exact hb.snoc OC5.out (fun g hg e => (h4 g e).elim (fun e' => AP.out.2 g e' hg) (fun e' => by have := own_lt OC.out.row hg; omega)))
            have BL5 := Lib.hid (BL.out.trans (h3.mono (by omega)))
            have hsz5 : gs + 1 ≤ w5.heap.size := Nat.le_trans hsz h2.size
            have CY5 : Hid ((l ++ [c]) ++ outer p (p.length - (k + 1)) (k + 1) G = cycs p) := Lib.hid (by
              have h1 := CY2.out
              rw [← T1'.out, ← T2'.out] at h1
              rw [show p.length - (k + 1) = m by have := HM.out; omega, ← h1]; simp)
            clear h1 h2 h3 h4 O AR5a AR BL HG
            go_wp2_with fail
            go_roundw
            case rel => exact ⟨k + 1, G, vals ++ [.slice ac c.length cc], l ++ [c], by omega, by go_num, GL.out, HG5.out, CY5.out, by simp; omega, O5.out, AR5.out, BL5.out, hsz5⟩
            case measure => simp [intOf]; omega
      · rw [hf] at cg
        have CY5 : Hid (l ++ outer p (p.length - (k + 1)) (k + 1) G = cycs p) := Lib.hid (by
          have h1 := CY.out
          rw [HM.out, outer_seen hf] at h1
          rw [show p.length - (k + 1) = m by have := HM.out; omega]; exact h1)
        clear hf
        go_wp2_with fail
        go_roundw
        case rel => exact ⟨k + 1, G, vals, l, by omega, by go_num, GL.out, HG.out, CY5.out, by omega, O.out, AR.out, BL.out, hsz⟩
        case measure => simp [intOf]; omega
    · have hkk : p.length - k = 0 := by have := HAL.out; omega
      have HF : Hid (OutR 1 encV 24 wr w.heap.size u5 vals) := Lib.hid ⟨O.out.row, fun g hg => by have := O.out.blk g hg; omega⟩
      have HA : Hid (AllR wr w.heap.size u5 vals (cycs p)) := Lib.hid (by
        have h1 := CY.out
        rw [hkk, outer, List.append_nil] at h1
        rw [← h1]
        exact ⟨AR.out.len, fun i hi' => ⟨(AR.out.row i hi').row, fun g hg => by have := (AR.out.row i hi').blk g hg; omega⟩, AR.out.ap⟩)
      clear hkk
      go_wp2_with fail
      go_ret2
      exact ⟨_, vals, rfl, HF.out, HA.out, BL.out⟩
theorem rcyc_no {zs : List Int} (hz : okP zs = false) {w : World} {aa : Option Addr} {la ca : Nat} (h : IsK .i64 w aa la ca zs) :
    Calls Tryd.prog 33 #[.slice aa la ca] w fun e w' => e = .returned (.tuple #[.slice none 0 0, .int .i64 2]) ∧ Below w.heap.size w w' := by
  have HC := Lib.hid (rcheck h)
  rw [chk_no hz] at HC
  clear h hz
  go_enter Tryd.func33, Tryd.ntmps33
  go_wp2_with fail
  refine (HC.out).mono ?_; rintro e w1 ⟨rfl, hb⟩
  have B1 := Lib.hid hb
  clear hb
  go_wp2_with fail
  go_ret2
  exact ⟨rfl, B1.out⟩
end Go.Proofs.YtejleobpohpdpaaDoor

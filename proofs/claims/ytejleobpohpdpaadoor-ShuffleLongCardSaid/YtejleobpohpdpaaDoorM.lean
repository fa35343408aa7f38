/- Unrank of the program: an element taken out of a row in place. -/
import Derived.Test.YtejleobpohpdpaaDoorL
import Derived.Deep.RegionLaw
import Derived.Laws.MakeOwn
import Derived.Laws.Entries
import Derived.Laws.IdiomCopy
namespace Go.Proofs.YtejleobpohpdpaaDoor
open Go.ChangeShapes Go.WideShapes Go.ChangeAt Go.RowKit

/-- The cells after some were stored in a row. -/
def splice (c : Array Value) : Nat → List Value → Array Value
  | _, [] => c
  | o, v :: vs => splice (c.setIfInBounds o v) (o + 1) vs
theorem setCells_block {w : World} {b : Nat} {c : Array Value} {t : TypeId} {f : Nat × Nat} (h : w.heap[b]? = some (.cells c t f)) : ∀ (o : Nat) (vs : List Value), (w.setCells b o vs).heap[b]? = some (.cells (splice c o vs) t f)
  | _, [] => h
  | o, v :: vs => setCells_block (set_of h o v) (o + 1) vs
theorem splice_list : ∀ (vs : List Value) (c : Array Value) (o : Nat), o + vs.length ≤ c.size → (splice c o vs).toList = c.toList.take o ++ vs ++ c.toList.drop (o + vs.length)
  | [], c, o, _ => by simp [splice]
  | v :: vs, c, o, h => by
    simp only [List.length_cons] at h
    rw [splice, splice_list vs _ _ (by simp; omega), Array.toList_setIfInBounds]
    rw [List.take_set, List.drop_set_of_lt (by omega)]
    have h1 : (c.toList.take (o + 1)).set o v = c.toList.take o ++ [v] := by
      rw [List.take_succ_eq_append_getElem (by simp; omega), List.set_append_right _ _ (by simp; omega)]
      simp [show min o c.size = o by omega]
    rw [h1]
    simp [show o + 1 + vs.length = o + (vs.length + 1) by omega]
theorem Touch.setCells {S : Nat → Prop} {a : World} {b : Nat} (hb : b < a.heap.size → S b) : ∀ {w : World} (_ : Touch S a w) (o : Nat) (vs : List Value), Touch S a (w.setCells b o vs)
  | _, h, _, [] => h
  | _, h, o, v :: vs => Touch.setCells hb (h.setCell (p := ⟨b, o, none⟩) hb v) (o + 1) vs
/-- An element taken out. -/
theorem Blk.del {k : IntKind} {e : TypeId} {w : World} {g cap : Nat} {zs : List Int} (h : Blk k e w g cap zs) {i : Nat} (hi : i < zs.length) : Blk k e (w.setCells g i (vs k (zs.drop (i + 1)))) g cap (zs.eraseIdx i) := by
  obtain ⟨rest, h1, h2, h3⟩ := h
  refine ⟨(vs k zs).drop (zs.length - 1) ++ rest, by simp [vs, List.length_eraseIdx, hi]; omega, h2, ?_⟩
  rw [setCells_block h3]
  congr 2
  apply Array.ext'
  rw [splice_list _ _ _ (by simp [vs]; omega)]
  rw [List.eraseIdx_eq_take_drop_succ]
  simp only [vs, List.map_append, List.map_take, List.map_drop]
  rw [List.take_append_of_le_length (by simp; omega)]
  rw [show i + ((zs.map (Value.int k)).drop (i + 1)).length = zs.length - 1 by simp; omega]
  rw [List.drop_append_of_le_length (by simp)]
theorem ns_erase (p : List Nat) (i : Nat) : (ns p).eraseIdx i = ns (p.eraseIdx i) := by
  rw [List.eraseIdx_eq_take_drop_succ, List.eraseIdx_eq_take_drop_succ]; simp [ns]
theorem make_0 (n : Nat) (hn : n ≤ 16384) : ∀ w, (Instr.makeSlice 24 (.int .i64 0) (.int .i64 (n : Int))).run Tryd.prog w = .ok (.slice (some ⟨w.heap.size, 0, none⟩) 0 n) (w.alloc (.cells (madeCells #[Value.int .i64 0] n) 3)) := fun w => by
  obtain ⟨i0, hi, hz0, hz1, hz2⟩ := info_parts info3
  have hr := run_make (P := Tryd.prog) w 24 3 i0 (.int .i64 0) Tryd.underlying24 hi hz0 .i64 .i64 0 n (by omega) (by omega) (by rw [hz2]; omega) (by omega)
  rw [hz1] at hr
  simpa [Value.cells] using hr
def UnRel (w w3 : World) (n : Nat) (res : List Nat) (g : Nat) (vr vl vp vi : Value) (wr : World) : Prop :=
  ∃ (k r : Nat) (L P : List Nat), k ≤ n ∧ vi = .int .i64 k ∧ vr = .int .u64 r ∧ r < fct (n - k) ∧ L.length = n - k ∧ P.length = k ∧ P ++ unr (n - k) L r = res ∧
    vl = .slice (some ⟨g, 0, none⟩) (n - k) n ∧ Blk .i64 3 wr g n (ns L) ∧ OutR 1 (encK .i64) 3 wr w3.heap.size vp (ns P) ∧ Below w.heap.size w wr ∧ w3.heap.size ≤ wr.heap.size
theorem unr_step {n k r : Nat} {L P res : List Nat} (hk : k < n) (hr : r < fct (n - k)) (hL : L.length = n - k) (h : P ++ unr (n - k) L r = res) :
    r / fct (n - 1 - k) < n - k ∧ r % fct (n - 1 - k) < fct (n - 1 - k) ∧ (L.eraseIdx (r / fct (n - 1 - k))).length = n - (k + 1) ∧
    (P ++ [L.getD (r / fct (n - 1 - k)) 0]) ++ unr (n - (k + 1)) (L.eraseIdx (r / fct (n - 1 - k))) (r % fct (n - 1 - k)) = res := by
  obtain ⟨m, hm⟩ : ∃ m, n - k = m + 1 := ⟨n - k - 1, by omega⟩
  have e1 : n - 1 - k = m := by omega
  have e2 : n - (k + 1) = m := by omega
  rw [hm] at hr hL h ⊢
  rw [e1, e2]
  have hd := div_fct hr
  refine ⟨hd, Nat.mod_lt _ (fct_pos m), by rw [List.length_eraseIdx_of_lt (by omega)]; omega, ?_⟩
  rw [← h, unr]; simp
set_option maxRecDepth 100000 in
set_option maxHeartbeats 8000000 in
theorem punr_ok {n r : Nat} (hn : n ≤ 20) (hr : r < fct n) {w : World} (ht : Tab w) :
    Calls Tryd.prog 18 #[.int .i64 (n : Int), .int .u64 (r : Int)] w fun e w' => ∃ v, e = .returned (.tuple #[v, .int .i64 0]) ∧ OutR 1 (encK .i64) 3 w' w.heap.size v (ns (unr n (List.range n) r)) ∧ Below w.heap.size w w' := by
  have HI := Lib.hid (fun w => pident n (by omega) w)
  have HT := Lib.hid ht
  have c0 := ht n hn
  have hfs := fct_small hn
  have hrn : (r : Int) < (fct n : Int) := by omega
  obtain ⟨CI, hCI⟩ : ∃ C, C = madeCells #[Value.int .i64 0] n := ⟨_, rfl⟩
  have m1 := make_0 n (by omega)
  rw [← hCI] at m1
  have HCI := Lib.hid hCI
  obtain ⟨i0, hi, hz0, hz1, hz2⟩ := info_parts info3
  generalize hres : unr n (List.range n) r = res at *
  have HRES := Lib.hid hres
  have HRL := Lib.hid hr
  generalize hfn : fct n = fn at *
  have HFN := Lib.hid hfn
  clear hCI hres ht hr hfn
  go_enter Tryd.func18, Tryd.ntmps18
  go_wp2_with fail
  refine (HI.out _).mono ?_; rintro e w1 ⟨g, hg, rfl, hgb, hb⟩
  have G1 := Lib.hid hgb; have B1 := Lib.hid hb
  have hl1 := hgb.lt
  have hw1 := hb.size
  clear hb hgb c0
  go_wp2_with fail
  obtain ⟨w3, hw3⟩ : ∃ W, W = w1.alloc (.cells CI 3) := ⟨_, rfl⟩
  have B3 : Hid (Below w.heap.size w w3) := Lib.hid (by rw [hw3]; exact B1.out.alloc hw1 _)
  have G3 : Hid (Blk .i64 3 w3 g n (ns (List.range n))) := Lib.hid (by rw [hw3]; exact G1.out.alloc _)
  have O3 : Hid (OutR 1 (encK .i64) 3 w3 w1.heap.size (.slice (some ⟨w1.heap.size, 0, none⟩) 0 n) (ns [])) := Lib.hid (by
    rw [hw3, HCI.out]
    exact OutR.of_blk (g := w1.heap.size) (cap := n) (zs := []) ⟨(madeCells #[Value.int .i64 0] n).toList, by simp [madeCells], by unfold maxLen; omega, by rw [block_new]; simp [vs]⟩ (Nat.le_refl _))
  have hw13 : w1.heap.size ≤ w3.heap.size := by rw [hw3]; simp
  rw [← hw3]
  clear hw3 m1
  go_loopw [1, 6, 7, 8, 9, 10, 29] (fun vr vl vp _ _ _ vi wr => UnRel w w1 n res g vr vl vp vi wr) (fun _ _ _ _ _ _ vi _ => n - (intOf vi).toNat)
  case atStart => exact ⟨0, r, List.range n, [], Nat.zero_le _, rfl, rfl, by rw [Nat.sub_zero]; exact HFN.out ▸ HRL.out, by simp, rfl, by simpa using HRES.out, rfl, G3.out, O3.out, B3.out, hw13⟩
  case round =>
    clear G3 O3 B3 G1 B1
    obtain ⟨k, r, L, P, hk, rfl, rfl, hr, hL, hP, hres, rfl, hgb, ho, hbl, hsz⟩ := hrel
    have BL := Lib.hid hbl; have O := Lib.hid ho; have G := Lib.hid hgb
    clear hbl ho hgb
    by_cases hlt : k < n
    · obtain ⟨s1, s2, s3, s4⟩ := unr_step hlt hr hL hres
      have cf := (HT.out.below BL.out) (n - 1 - k) (by omega)
      have hfm := fct_pos (n - 1 - k)
      have hfm2 := fct_small (show n - 1 - k ≤ 20 by omega)
      have hr64 := fct_small (show n - k ≤ 20 by omega)
      have hix : (n : Int) - 1 - (k : Int) = ((n - 1 - k : Nat) : Int) := by omega
      have hml : n - 1 - k < 21 := by omega
      have S4 := Lib.hid s4
      have S3 := Lib.hid s3
      have hLn := ns_len L
      have c1 := G.out.cell (i := r / fct (n - 1 - k)) (by rw [hLn]; omega)
      rw [ns_get] at c1
      have DEL := Lib.hid (fun w' (h : Blk .i64 3 w' g n (ns L)) => h.del (i := r / fct (n - 1 - k)) (by rw [hLn]; omega))
      rw [ns_erase] at DEL
      have hdiv : (r : Int) / (fct (n - 1 - k) : Int) = ((r / fct (n - 1 - k) : Nat) : Int) := rfl
      have hmod : (r : Int) % (fct (n - 1 - k) : Int) = ((r % fct (n - 1 - k) : Nat) : Int) := rfl
      have hR0 : (r : Int) < (fct (n - k) : Int) := by omega
      clear s4 s3 hres
      generalize n - 1 - k = m at *
      generalize fct (n - k) = f0 at *
      generalize hfm' : fct m = fm at *
      have HFM := Lib.hid hfm'
      generalize r / fm = q at *
      generalize r % fm = r2 at *
      generalize L.getD q 0 = x at *
      have HL := Lib.hid hL; have HP := Lib.hid hP
      clear hL hP hfm' hLn
      have hr1 : (r : Int) ≤ 2432902008176640000 := by omega
      have hfm1 : (1 : Int) ≤ (fm : Int) := by omega
      have hfm3 : (fm : Int) ≤ 2432902008176640000 := by omega
      have hql : q < n - k := s1
      have hq20 : q ≤ 20 := by omega
      go_wp2_with (at_builtin; refine wpList_app rfl (.tmp 45) (.tmp 50) 24 rfl 3 i0 .i64 8 Tryd.underlying24 hi hz0 hz1 hz2 (by decide) rfl O.out hsz (x : Int) rfl (by rw [ns_len]; have := HP.out; omega) ?_)
      intro v4 w4 h1 h2 h3 h4
      have O4 : Hid (OutR 1 (encK .i64) 3 w4 w1.heap.size v4 (ns (P ++ [x]))) := Lib.hid (by rw [← ns_app]; exact h1)
      have G4 := Lib.hid (G.out.touch h2 (fun hh => by have := O.out.blk _ hh; omega))
      have BL4 := Lib.hid (BL.out.trans (h3.mono (by omega)))
      have hs4 : w1.heap.size ≤ w4.heap.size := Nat.le_trans hsz h2.size
      clear h1 h2 h3 h4 c1 cf
      have hLn := ns_len L
      rw [HL.out] at hLn
      have hnl : (vs .i64 ((ns L).drop (q + 1))).length = n - k - (q + 1) := by rw [vs_len, List.length_drop, hLn]
      obtain ⟨A, hA, hnews⟩ : ∃ A : Addr, (if n = q + 1 then some (⟨g, 0, none⟩ : Addr) else some ⟨g, q + 1, none⟩) = some A ∧ Hid (∀ j u, (vs .i64 ((ns L).drop (q + 1)))[j]? = some u → w4.drew.cell? (A.add j) = some u) := by
        by_cases h : n = q + 1
        · refine ⟨⟨g, 0, none⟩, by simp [h], fun j u hu => ?_⟩
          have := (List.getElem?_eq_some_iff.1 hu).1
          omega
        · refine ⟨⟨g, q + 1, none⟩, by simp [h], fun j u hu => ?_⟩
          have hj := (List.getElem?_eq_some_iff.1 hu).1
          rw [hnl] at hj
          have hc := G4.out.cell (i := q + 1 + j) (by rw [hLn]; omega)
          rw [addr_add]
          show w4.cell? _ = _
          rw [hc]
          simp [vs] at hu
          obtain ⟨z, hz, rfl⟩ := hu
          simp [List.getD_eq_getElem?_getD, hz]
      have t1 : Hid ((vs .i64 ((ns L).drop (q + 1))).length = (n - k - (q + 1)) * 1) := by rw [Nat.mul_one]; exact hnl
      have t2 : Hid (∀ u ∈ vs .i64 ((ns L).drop (q + 1)), u.oneCell' = true) := by
        intro u hu
        obtain ⟨x, _, rfl⟩ := List.mem_map.1 hu
        rfl
      have t3 : Hid (∀ j, j < (vs .i64 ((ns L).drop (q + 1))).length → (w4.drew.cell? ⟨g, 0 + q * 1 + j, none⟩).isSome = true ∧ w4.drew.frozen? ⟨g, 0 + q * 1 + j, none⟩ = false) := by
        intro j hj
        rw [hnl] at hj
        have hc := G4.out.cell (i := q + j) (by rw [hLn]; omega)
        refine ⟨?_, ?_⟩
        · show (w4.cell? _).isSome = true
          rw [show 0 + q * 1 + j = q + j by omega, hc]; rfl
        · show w4.frozen? _ = false
          rw [show 0 + q * 1 + j = q + j by omega]; exact G4.out.free _
      have DL := Lib.hid (DEL.out w4.drew G4.out.drew)
      have TB := Lib.hid (Touch.setCells (S := fun k => k = g) (fun _ => rfl) ((Touch.refl (fun k => k = g) w4).drew) q (vs .i64 ((ns L).drop (q + 1))))
      generalize vs .i64 ((ns L).drop (q + 1)) = nw at *
      clear hnl hLn DEL
      have hwr : IntKind.i64.wrap ((q : Int) + 1) = (q : Int) + 1 := by rw [IntKind.wrap_i64]; omega
      have hp0 : (0 : Int) ≤ (q : Int) + 1 := by omega
      have hp1 : (q : Int) + 1 ≤ ((n - k : Nat) : Int) := by omega
      have hp2 : ((q : Int) + 1).toNat = q + 1 := by omega
      have hp3 : (q : Int) ≤ (n : Int) := by omega
      have hp4 : q ≤ n := by omega
      go_wp2_with fail
      go_region_law (refine step_append_room rfl (.tmp 54) (.tmp 58) 24 rfl 3 i0 1 Tryd.underlying24 hi hz1 g 0 q n (by simp [Act.eval, Act.put]) A (n - k - (q + 1)) (n - (q + 1)) nw (by simp [Act.eval, Act.put]) t1.out hnews.out t2.out (by omega) t3.out ?_)
      go_wp2_with fail
      have hgw : w.heap.size ≤ g := hg
      go_roundw
      case rel =>
        have hm : n - (k + 1) = m := by omega
        refine ⟨k + 1, r2, L.eraseIdx q, P ++ [x], by omega, by go_num, rfl, by rw [hm, HFM.out]; exact s2, S3.out, by simp [HP.out], S4.out, ?_, DL.out, ?_, ?_, ?_⟩
        · rw [show q + (n - k - (q + 1)) = n - (k + 1) by omega]
        · exact ⟨ownsRow_touch O4.out.row TB.out (fun kk hk' e => by have := O4.out.blk _ hk'; omega), O4.out.blk⟩
        · exact BL4.out.trans (TB.out.below BL4.out.size (fun kk hk' e => by omega))
        · exact Nat.le_trans hs4 TB.out.size
      case measure => simp [intOf]; omega
    · have hkn : k = n := by omega
      have hPr : P = res := by rw [← hres, hkn, Nat.sub_self, unr, List.append_nil]
      have HF : Hid (OutR 1 (encK .i64) 3 wr w.heap.size u7 (ns res)) := Lib.hid (by rw [← hPr]; exact ⟨O.out.row, fun g hg => by have := O.out.blk g hg; omega⟩)
      clear hkn hPr hres hP hL hr
      go_wp2_with fail
      go_ret2
      exact ⟨_, rfl, HF.out, BL.out⟩
end Go.Proofs.YtejleobpohpdpaaDoor

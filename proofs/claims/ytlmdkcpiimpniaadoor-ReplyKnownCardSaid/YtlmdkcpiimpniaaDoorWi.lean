/- ReplyChains: the walk. -/
import Derived.Test.YtlmdkcpiimpniaaDoorWg
import Derived.Test.YtlmdkcpiimpniaaDoorWh
import Derived.Deep.Slices
import Derived.ChangeSame
namespace Go.Proofs.YtlmdkcpiimpniaaDoor
open Go.ChangeShapes Go.WideShapes Go.ChangeAt Go.RowKit Go.Deep
set_option linter.unusedVariables false
set_option linter.unusedSimpArgs false

/-- A list of replies that came in. -/
structure Rpo (w : World) (a : Option Addr) (n cap : Nat) (zs : List RV) : Prop extends Rps w a n cap zs where
  ok : ∀ r ∈ zs, RpIn r.r
set_option maxRecDepth 100000 in
theorem rp_cells {H : Type} {enc : TypeId × Value → H} {W : World} {fuel : Nat} {cs : List Value} {x : DataW H × List MemPlace} (h : DataW.trod enc Tryd.prog W 0 (fun _ => true) true fuel 27 cs = some x) : ∃ r : RV, cs = enc5 r ∧ LsV W r ∧ RpIn r.r := by
  obtain ⟨xs, n, _, _, hl, hlen, hfl⟩ := DataW.trod_struct Tryd.underlying27 h
  have h5 : cs.length = 5 := hl.trans (by kernel_rfl)
  obtain ⟨c0, c1, c2, c3, c4, rfl⟩ : ∃ a b c d e, cs = [a, b, c, d, e] := by
    match cs, h5 with
    | [a, b, c, d, e], _ => exact ⟨a, b, c, d, e, rfl⟩
  obtain ⟨y0, y1, y2, y3, y4, rfl⟩ : ∃ a b c d e, xs = [a, b, c, d, e] := by
    match xs, hlen with
    | [a, b, c, d, e], _ => exact ⟨a, b, c, d, e, rfl⟩
  have k22 : Tryd.prog.cellsOf 22 = 1 := by kernel_rfl
  have k24 : Tryd.prog.cellsOf 24 = 1 := by kernel_rfl
  have k4 : Tryd.prog.cellsOf 4 = 1 := by kernel_rfl
  have k25 : Tryd.prog.cellsOf 25 = 1 := by kernel_rfl
  have k23 : Tryd.prog.cellsOf 23 = 1 := by kernel_rfl
  have k28 : Tryd.prog.cellsOf 28 = 1 := by kernel_rfl
  have k2 : Tryd.prog.cellsOf 2 = 1 := by kernel_rfl
  have h0 : DataW.trod enc Tryd.prog W 0 (fun _ => true) true n 22 [c0] = some y0 := by simpa [k22] using hfl 0 _ rfl
  have h1 : DataW.trod enc Tryd.prog W 0 (fun _ => true) true n 24 [c1] = some y1 := by simpa [k24] using hfl 1 _ rfl
  have h2 : DataW.trod enc Tryd.prog W 0 (fun _ => true) true n 4 [c2] = some y2 := by simpa [k4] using hfl 2 _ rfl
  have h3 : DataW.trod enc Tryd.prog W 0 (fun _ => true) true n 25 [c3] = some y3 := by simpa [k25] using hfl 3 _ rfl
  have h4 : DataW.trod enc Tryd.prog W 0 (fun _ => true) true n 23 [c4] = some y4 := by simpa [k23] using hfl 4 _ rfl
  obtain ⟨n0, q0, _, w0⟩ := DataW.trod_int (k := .i64) (by kernel_rfl) h0
  obtain ⟨n1, q1, _, w1⟩ := DataW.trod_int (k := .i64) (by kernel_rfl) h1
  obtain ⟨n2, q2, _⟩ := DataW.trod_bool (by kernel_rfl) h2
  obtain ⟨a5, l5, p5, z5, rfl, i5⟩ := field_ints Tryd.underlying25 Tryd.underlying28 k28 h3
  obtain ⟨a6, l6, p6, z6, rfl, i6⟩ := field_ints Tryd.underlying23 Tryd.underlying2 k2 h4
  obtain ⟨b5, s5, u5⟩ := ints_u64 i5
  have hl5 : l5 = b5.length := by rw [s5.hlen, ns_len]
  have hl6 : l6 = z6.length := i6.sl.hlen
  simp at q0 q1 q2
  subst q0 q1 q2 hl5 hl6
  exact ⟨⟨⟨n0, n1, n2, b5, z6⟩, a5, p5, a6, p6⟩, rfl, ⟨s5, i6.sl⟩, ⟨fun x hx => by have := u5 x hx; omega, fun x hx => i64_of (i6.wf x hx)⟩⟩
theorem openArg0 {H : Type} {enc : TypeId × Value → H} {W : World} {a : Option Addr} {len cap : Nat} {d : DataW H} {p : List MemPlace}
    (h : DataW.Trod enc Tryd.prog W 0 (fun _ => true) true 29 (.slice a len cap) d p) : ∃ zs, Rpo W a len cap zs := by
  obtain ⟨fuel, hf⟩ := h
  rcases open_slice Tryd.underlying29 hf with ⟨hcs, _⟩ | ⟨x, l, c, m, n, D, Pl, hcs, _, hl, hm, hmm, _, hx⟩
  · simp [Value.cells] at hcs
    obtain ⟨rfl, rfl, rfl⟩ := hcs
    exact ⟨[], ⟨IsSl.nil W, fun r hr => (by cases hr)⟩, fun r hr => (by cases hr)⟩
  · simp [Value.cells] at hcs
    obtain ⟨rfl, rfl, rfl⟩ := hcs
    have hmc : m = cap := by simpa using hmm
    subst hmc
    have ce : Tryd.prog.cellsOf 27 = 5 := by kernel_rfl
    have each : ∀ i, i < len → ∃ q : RV, (∀ j, j < 5 → W.cell? (x.add (i * 5 + j)) = (enc5 q)[j]?) ∧ LsV W q ∧ RpIn q.r := by
      intro i hi
      obtain ⟨cs', h1, h2⟩ := hx i (by omega)
      rw [ce] at h1
      obtain ⟨_, hlen, hcell⟩ := World.cells?_some h1
      obtain ⟨r, rfl, hr1, hr2⟩ := rp_cells h2
      refine ⟨r, fun j hj => ?_, hr1, hr2⟩
      have := hcell j hj
      rw [add_add] at this
      rw [this]
    obtain ⟨f, hf'⟩ := choose_lt each
    obtain ⟨b, off, spot⟩ := x
    refine ⟨(List.range len).map f, ⟨⟨by simp, hl, hm, fun h => (by cases h), fun hne => ?_⟩, fun r hr => ?_⟩, fun r hr => ?_⟩
    · have h0 : 0 < len := by
        rcases Nat.eq_zero_or_pos len with h | h
        · subst h; simp at hne
        · exact h
      have e1 : W.cell? ((⟨b, off, spot⟩ : Addr).add 0) = (enc5 (f 0))[0]? := (hf' 0 h0).1 0 (by omega)
      obtain ⟨u, hu⟩ : ∃ u, (enc5 (f 0))[0]? = some u := ⟨_, rfl⟩
      have e0 := e1.trans hu
      have hspot : spot = none := by simpa [Addr.add] using World.cell?_spot e0
      subst hspot
      rw [addr_add] at e0
      refine ⟨b, off, rfl, lt_of_cell e0, fun i hi j hj => ?_⟩
      simp at hi
      have := (hf' i hi).1 j hj
      rw [addr_add] at this
      simp only [List.getElem_map, List.getElem_range]
      rw [← this, Nat.add_assoc]
    · obtain ⟨i, hi, rfl⟩ := List.mem_map.1 hr
      exact (hf' i (List.mem_range.1 hi)).2.1
    · obtain ⟨i, hi, rfl⟩ := List.mem_map.1 hr
      exact (hf' i (List.mem_range.1 hi)).2.2
theorem take_u8 {w : World} {a : Option Addr} {n c : Nat} {b : List Nat} (h : IsK .u8 w a n c (ns b)) {k : Nat} (hk : k ≤ n) : IsK .u8 w (part a 0 c 1) k c (ns (b.take k)) := by
  have := h.part (l := 0) (r := k) (m := c) (Nat.zero_le _) hk (Nat.le_trans hk h.hle) (Nat.le_refl _)
  rw [List.drop_zero, Nat.sub_zero, Nat.sub_zero] at this
  have e : (ns b).take k = ns (b.take k) := by simp [ns, List.map_take]
  rwa [e] at this
/-- The bytes of some replies. -/
def byS (ys : List RV) : List Nat := (rs ys).flatMap putR
theorem byS_app (ys : List RV) (x : RV) : byS (ys ++ [x]) = byS ys ++ putR x.r := by simp [byS, rs]
/-- The lists of a record lie below. -/
def Low (B : Nat) (x : RV) : Prop := (x.r.ids ≠ [] → ∀ y, x.a = some y → y.block < B) ∧ (x.r.nums ≠ [] → ∀ y, x.a' = some y → y.block < B)
structure Chn (w : World) (v3 v4 : Value) (ys : List RV) (wr : World) : Prop where
  b : OutR 1 (encK .u8) 5 wr w.heap.size v3 (ns (byS ys))
  o : OutR 5 enc5 27 wr w.heap.size v4 ys
  dis : ∀ g, v3.ownBlock = some g → v4.ownBlock = some g → False
  below : Below w.heap.size w wr
  ok : ∀ x ∈ ys, chk x.r = 0 ∧ RpIn x.r
  ls : ∀ x ∈ ys, LsV w x
  len : (byS ys).length ≤ 10000 * ys.length
theorem Chn.keep {w wr w' : World} {v3 v4 : Value} {ys : List RV} (h : Chn w v3 v4 ys wr) (hb : Below wr.heap.size wr w') : Chn w v3 v4 ys w' :=
  ⟨h.b.below hb, h.o.below hb, h.dis, h.below.trans (hb.mono h.below.size), h.ok, h.ls, h.len⟩
theorem Chn.start (w : World) : Chn w (.slice none 0 0) (.slice none 0 0) [] w :=
  ⟨⟨⟨rfl, Or.inl ⟨rfl, rfl⟩⟩, fun g h => by cases h⟩, ⟨⟨rfl, Or.inl ⟨rfl, rfl⟩⟩, fun g h => by cases h⟩, fun g h => (by cases h), Below.refl _ _, fun x hx => (by cases hx), fun x hx => (by cases hx), Nat.zero_le _⟩
/-- The list of replies stays under the append of bytes. -/
theorem Chn.row {w wr w5 : World} {v3 v4 : Value} {ys : List RV} (h : Chn w v3 v4 ys wr) (h2 : Touch (fun b => v3.ownBlock = some b) wr w5) : OutR 5 enc5 27 w5 w.heap.size v4 ys :=
  ⟨ownsRow_touch h.o.row h2 (fun k hk e => h.dis k e hk), h.o.blk⟩
theorem Chn.low {w wr w5 : World} {v3 v4 : Value} {ys : List RV} (h : Chn w v3 v4 ys wr) (h2 : Touch (fun b => v3.ownBlock = some b) wr w5) : Below w.heap.size w w5 :=
  h.below.trans (h2.below h.below.size (fun k hk e => by have := h.b.blk k e; omega))
theorem Chn.step {w wr w5 w6 : World} {v3 v4 v3' v4' : Value} {ys : List RV} {x : RV} {O : Obj} (h : Chn w v3 v4 ys wr) (hl : LsV w x) (hk : chk x.r = 0) (hI : RpIn x.r) (hlen : (putR x.r).length ≤ 10000)
    (h1 : OutR 1 (encK .u8) 5 w5 w.heap.size v3' (ns (byS ys) ++ ns (putR x.r))) (h2 : Touch (fun b => v3.ownBlock = some b) wr w5) (h4 : ∀ g, v3'.ownBlock = some g → v3.ownBlock = some g ∨ wr.heap.size ≤ g)
    (hro : w6.ownsRow 0 27 5 v4' (ys.length + 1) (flat enc5 ys ++ enc5 x)) (hg : (w5.alloc O).grownBy w6 v4.ownBlock) (hn : ∀ g, v4'.ownBlock = some g → v4.ownBlock = some g ∨ (w5.alloc O).heap.size ≤ g) : Chn w v3' v4' (ys ++ [x]) w6 := by
  have hb5 := h.low h2
  have ho5 := h.row h2
  obtain ⟨g1, g2, g3, g4⟩ := ho5.grow (ys := [x]) (Below.alloc (Below.refl w5.heap.size w5) (Nat.le_refl _) O) hb5.size (by simpa [flat] using hro) hg hn
  have hd5 : ∀ g, v3'.ownBlock = some g → v4.ownBlock = some g → False := fun g e e' => by
    rcases h4 g e with e1 | e1
    · exact h.dis g e1 e'
    · have := own_lt h.o.row e'; omega
  refine ⟨?_, g1, fun g e e' => ?_, hb5.trans g3, fun y hy => ?_, fun y hy => ?_, ?_⟩
  · rw [byS_app, ← ns_app2]
    exact ⟨ownsRow_touch h1.row g2 (fun k hk' e => hd5 k hk' e), h1.blk⟩
  · rcases g4 g e' with e1 | e1
    · exact hd5 g e e1
    · have := own_lt h1.row e; omega
  · rcases List.mem_append.1 hy with hy | hy
    · exact h.ok y hy
    · rw [List.mem_singleton.1 hy]; exact ⟨hk, hI⟩
  · rcases List.mem_append.1 hy with hy | hy
    · exact h.ls y hy
    · rw [List.mem_singleton.1 hy]; exact hl
  · rw [byS_app, List.length_append, List.length_append]
    have := h.len
    simp only [List.length_cons, List.length_nil]
    omega
def ChRel (w : World) (n : Nat) (v3 v4 v5 : Value) (wr : World) : Prop := ∃ (i : Nat) (ys : List RV), i ≤ n ∧ v5 = .int .i64 (i : Int) ∧ ys.length ≤ i ∧ Chn w v3 v4 ys wr
theorem fin_rps {w wr : World} {v3 : Value} {a4 : Option Addr} {n4 c4 : Nat} {ys : List RV} (h : Chn w v3 (.slice a4 n4 c4) ys wr) (hn : ys.length = n4) : Rps wr a4 n4 c4 ys := by
  subst hn
  exact ⟨IsSl.of_own enc5_len h.o.row rfl, fun x hx => (h.ls x hx).keep h.below⟩
theorem byS_nil {ys : List RV} (h : (byS ys).length = 0) : ys = [] := by
  cases ys with
  | nil => rfl
  | cons x l =>
    have e : byS (x :: l) = putR x.r ++ byS l := by simp [byS, rs]
    rw [e, List.length_append] at h
    have := put_len x.r
    omega
theorem ga_nil {w w' : World} {R : Option (List Rp)} {e : Ending} (hR : R = none) (h : GaR w R e w') : ∃ a c, e = .returned (.tuple #[.slice a 0 c, .int .i64 15]) ∧ Below w.heap.size w w' := by
  subst hR
  obtain ⟨v, zs, rfl, hB, ho, hc⟩ := h
  have hz : zs = [] := by simpa [rs] using hc
  subst hz
  obtain ⟨a, cp, rfl⟩ := own_shape ho.out.row
  exact ⟨a, cp, rfl, hB⟩
set_option maxRecDepth 100000 in
set_option maxHeartbeats 16000000 in
theorem chains_walk (a : Option Addr) (n cap : Nat) (zs : List RV) (w : World) (hE : Env w) (h : Rpo w a n cap zs) :
    Calls Tryd.prog 11 #[.slice a n cap] w fun e w' => e = .returned (.bool true) ∧ Below w.heap.size w w' := by
  obtain ⟨i0, hi, hz0, hz1, hz2⟩ := info_parts info5
  obtain ⟨j0, hj, hy0, hy1, hy2⟩ := info_parts info27
  have hn := h.sl.hlen; have hle := h.sl.hle; have hmx := h.sl.hmax
  unfold maxLen at hmx
  have PW := Lib.hid (fun W (hb : Below w.heap.size w W) => pworks (hE.below hb))
  by_cases hl : 12 < n
  · have e1 : decide ((12 : Int) < (n : Int)) = true := by simp; omega
    have e2 : decide (12 < n) = true := by simp; omega
    clear h hE hn
    go_enter Tryd.func11, Tryd.ntmps11
    go_wp2_with fail
    refine (PW.out _ (Below.refl _ _)).mono ?_; rintro e w1 ⟨rfl, hb⟩
    have B := Lib.hid hb
    clear hb
    go_wp2_with fail
    go_ret
    exact ⟨rfl, B.out⟩
  · have e1 : decide ((12 : Int) < (n : Int)) = false := by simp; omega
    have e2 : decide (12 < n) = false := by simp; omega
    have hn12 : n ≤ 12 := by omega
    have H := Lib.hid h; have HE := Lib.hid hE; have HN := Lib.hid hn
    clear h hE hn hl
    go_enter Tryd.func11, Tryd.ntmps11
    go_wp2_with fail
    go_loopw [3, 4, 5] (fun v3 v4 v5 wr => ChRel w n v3 v4 v5 wr) (fun _ _ v5 _ => n - (intOf v5).toNat)
    case atStart => exact ⟨0, [], Nat.zero_le _, rfl, Nat.le_refl _, Chn.start w⟩
    case round =>
      obtain ⟨i, ys, hil, rfl, hyi, hC⟩ := hrel
      have CH := Lib.hid hC
      have BW := Lib.hid hC.below
      obtain ⟨a3, c3, rfl⟩ := own_shape hC.b.row
      obtain ⟨a4, c4, rfl⟩ := own_shape hC.o.row
      generalize hl3 : (ns (byS ys)).length = L3 at *
      generalize hl4 : ys.length = n4 at *
      have HL3 := Lib.hid hl3; have HL4 := Lib.hid hl4
      have hlb : L3 ≤ 120000 := by rw [← hl3, ns_len]; have := hC.len; omega
      clear hC hl3 hl4
      generalize wr = V1 at *
      by_cases hlt : i < n
      · have h1 : i < zs.length := by have := HN.out; omega
        obtain ⟨g, off, rfl, -, -⟩ := H.out.sl.at_ (by intro e; rw [e] at h1; simp at h1)
        have LX := H.out.ls zs[i] (List.getElem_mem h1)
        have OK := H.out.ok zs[i] (List.getElem_mem h1)
        have XC : ∀ W, Below w.heap.size w W → _ := fun W (hb : Below w.heap.size w W) => cell5 (H.out.sl.below hb) h1
        generalize zs[i] = x at *
        obtain ⟨r, xa, xc, xb, xd⟩ := x
        have LX := Lib.hid (show LsR w r xa xc xb xd from LX)
        have OK := Lib.hid (show RpIn r from OK)
        have XC : Hid (∀ W, Below w.heap.size w W → W.cell? ⟨g, off + i * 5, none⟩ = some (.int .i64 r.op) ∧ W.cell? ⟨g, off + i * 5 + 1, none⟩ = some (.int .i64 r.er) ∧ W.cell? ⟨g, off + i * 5 + 2, none⟩ = some (.bool r.yes) ∧ W.cell? ⟨g, off + i * 5 + 3, none⟩ = some (.slice xa r.ids.length xc) ∧ W.cell? ⟨g, off + i * 5 + 4, none⟩ = some (.slice xb r.nums.length xd)) := Lib.hid XC
        clear h1
        obtain ⟨x0, x1, x2, x3, x4⟩ := XC.out V1 BW.out
        have PF := Lib.hid (pfew V1 r xa xb xc xd)
        unfold rpV at PF
        by_cases hf : fewB r = true
        · obtain ⟨f1, f2⟩ := few_iff.1 hf
          rw [hf] at PF
          by_cases hk : chk r = 0
          · have P12 := Lib.hid (fun W (hb : Below w.heap.size w W) => put_call (HE.out.below hb) (LX.out.keep hb) OK.out hk)
            have HPL : Hid (∀ W p k q, IsK .u8 W p k q (ns (putR r)) → (putR r).length = k) := Lib.hid (fun W p k q h => h.u8.symm)
            have hL9 := putR_le hk OK.out
            have HLE : Hid ((putR r).length ≤ 10000) := Lib.hid (by omega)
            have GP := Lib.hid (fun k (h : k < (putR r).length) => get_part hk OK.out h)
            have HBY := Lib.hid (put_byte hk)
            have HK := Lib.hid hk
            clear hf f1 f2 hk hL9
            go_wp2_with fail
            refine (PF.out).mono ?_; rintro e w1 ⟨rfl, hb1⟩
            have C1 := Lib.hid (CH.out.keep hb1)
            obtain ⟨x0, x1, x2, x3, x4⟩ := XC.out w1 C1.out.below
            have Q12 := Lib.hid (P12.out w1 C1.out.below)
            clear hb1 PF P12
            go_wp2_with fail
            refine (Q12.out).mono ?_; rintro e w2 ⟨pp, L, pq, rfl, hk2, hb2⟩
            have C2 := Lib.hid (C1.out.keep hb2)
            have HLL := Lib.hid (HPL.out _ _ _ _ hk2)
            have K2 := Lib.hid hk2
            have hL10 : L ≤ 10000 := by have := HLL.out; have := HLE.out; omega
            have hLp := hk2.hle
            have hLm := hk2.hmax
            unfold maxLen at hLm
            have G16 : Hid (∀ W k, Below w2.heap.size w2 W → k < L → Calls Tryd.prog 16 #[.slice (part pp 0 pq 1) k pq] W fun e w' => ∃ a c a' c', e = .returned (.tuple #[.agg #[.int .i64 0, .int .i64 0, .bool false, .slice a 0 c, .slice a' 0 c'], .int .i64 0, .int .i64 15]) ∧ Below W.heap.size W w') := Lib.hid (fun W k hb hkL => (pget (HE.out.below (C2.out.below.trans (hb.mono C2.out.below.size))) (take_u8 (K2.out.below hb) (Nat.le_of_lt hkL)) (By.take HBY.out k) (by omega)).mono (fun e w' h => ges_none (GP.out k (by have := HLL.out; omega)) h))
            have hs0 : Hid (∀ k, k ≤ L → ∀ w, (Instr.slice 31 (.slice pp L pq) none (some (.int .i64 ((k : Nat) : Int))) none).run Tryd.prog w = .ok (.slice (part pp 0 pq 1) k pq) w) := Lib.hid (fun k hk => run_to Tryd.underlying31 size5x (a := pp) (len := L) (cap := pq) (h := (k : Int)) (k := k) rfl (by omega))
            clear hb2 hk2 Q12 HPL x0 x1 x2 x3 x4 C1
            generalize part pp 0 pq 1 = p0 at *
            go_wp2_with fail
            go_loopw [8] (fun v8 wr => ∃ k : Nat, k ≤ L ∧ k ≤ 40 ∧ v8 = .int .i64 (k : Int) ∧ Below w2.heap.size w2 wr) (fun v8 _ => L - (intOf v8).toNat)
            case atStart => exact ⟨0, Nat.zero_le _, Nat.zero_le _, rfl, Below.refl _ _⟩
            case round =>
              obtain ⟨k, hkL, hk40, rfl, hb⟩ := hrel
              have B3 := Lib.hid hb
              clear hb
              by_cases hkl : k < L
              · by_cases hk4 : k < 40
                · have d1 : decide ((k : Int) < 40) = true := by simp; omega
                  have d2 : decide (k < 40) = true := by simpa using hk4
                  have hs := hs0.out k hkL
                  have Q16 := Lib.hid (G16.out wr k B3.out hkl)
                  go_wp2_with fail
                  refine (Q16.out).mono ?_; rintro e w4 ⟨ya, yc, yb, yd, rfl, hb4⟩
                  have B4 := Lib.hid (B3.out.trans ((hb4.alloc hb4.size (.cells #[.int .i64 0, .int .i64 0, .bool false, .slice ya 0 yc, .slice yb 0 yd] 27)).mono B3.out.size))
                  clear hb4 Q16 hs
                  go_wp2_with fail
                  go_roundw
                  case rel => exact ⟨k + 1, hkl, hk4, by go_num, B4.out⟩
                  case measure => simp [intOf]; omega
                · have d1 : decide ((k : Int) < 40) = false := by simp; omega
                  have d2 : decide (k < 40) = false := by simpa using hk4
                  have C3 := Lib.hid (C2.out.keep B3.out)
                  have K3 := Lib.hid (K2.out.below B3.out)
                  have hsz3 := C3.out.below.size
                  go_wp2_with (at_builtin; refine wpList_appS rfl (.tmp 64) (.tmp 65) 31 rfl 5 i0 .u8 1 Tryd.underlying31 hi hz0 hz1 hz2 (by decide) rfl C3.out.b hsz3 K3.out rfl (by have := HL3.out; omega) ?_)
                  intro v5 w5 h1 h2 h3 h4
                  have M1 := Lib.hid h1; have M2 := Lib.hid h2; have M4 := Lib.hid h4
                  have HO := Lib.hid (C3.out.row h2)
                  have BL := Lib.hid (C3.out.low h2)
                  obtain ⟨x0, x1, x2, x3, x4⟩ := XC.out w5 BL.out
                  obtain ⟨a5, c5, rfl⟩ := own_shape h1.row
                  clear h1 h2 h3 h4 K3 hs0 G16
                  generalize (ns (byS ys) ++ ns (putR r)).length = l5 at *
                  go_wp2_with (at_builtin; refine wpList_append_slice _ rfl (.tmp 67) (.tmp 72) 29 rfl 27 j0 (.agg #[.int .i64 0, .int .i64 0, .bool false, .slice none 0 0, .slice none 0 0]) 5 72 Tryd.underlying29 hj hy0 hy1 hy2 rfl (by decide) _ _ _ rfl ((HO.out.row).alloc _) _ 1 _ (enc5 ⟨r, xa, xc, xb, xd⟩) rfl rfl (fun h => (by cases h)) ?_ (enc5_one _) ?_ ?_ ?_)
                  · intro a ha; cases ha
                    exact news5 (r := ⟨r, xa, xc, xb, xd⟩) (block_new _ _)
                  · unfold maxLen; have := HL4.out; omega
                  · have := HL4.out; omega
                  · intro v6 w6 hro hgr hnn
                    have PN : Hid (Chn w (.slice a5 l5 c5) v6 (ys ++ [⟨r, xa, xc, xb, xd⟩]) w6) := Lib.hid (C3.out.step (x := ⟨r, xa, xc, xb, xd⟩) LX.out HK.out OK.out HLE.out M1.out M2.out M4.out hro hgr (fun g hg => (hnn g hg).imp id (fun h => by simpa using h)))
                    clear hro hgr hnn
                    go_wp2_with fail
                    go_roundw
                    case rel => exact ⟨i + 1, _, hlt, by go_num, by rw [List.length_append, HL4.out]; simp; omega, PN.out⟩
                    case measure => simp [intOf]; omega
              · obtain rfl : k = L := by omega
                have C3 := Lib.hid (C2.out.keep B3.out)
                have K3 := Lib.hid (K2.out.below B3.out)
                have hsz3 := C3.out.below.size
                go_wp2_with (at_builtin; refine wpList_appS rfl (.tmp 64) (.tmp 65) 31 rfl 5 i0 .u8 1 Tryd.underlying31 hi hz0 hz1 hz2 (by decide) rfl C3.out.b hsz3 K3.out rfl (by have := HL3.out; omega) ?_)
                intro v5 w5 h1 h2 h3 h4
                have M1 := Lib.hid h1; have M2 := Lib.hid h2; have M4 := Lib.hid h4
                have HO := Lib.hid (C3.out.row h2)
                have BL := Lib.hid (C3.out.low h2)
                obtain ⟨x0, x1, x2, x3, x4⟩ := XC.out w5 BL.out
                obtain ⟨a5, c5, rfl⟩ := own_shape h1.row
                clear h1 h2 h3 h4 K3 hs0 G16
                generalize (ns (byS ys) ++ ns (putR r)).length = l5 at *
                go_wp2_with (at_builtin; refine wpList_append_slice _ rfl (.tmp 67) (.tmp 72) 29 rfl 27 j0 (.agg #[.int .i64 0, .int .i64 0, .bool false, .slice none 0 0, .slice none 0 0]) 5 72 Tryd.underlying29 hj hy0 hy1 hy2 rfl (by decide) _ _ _ rfl ((HO.out.row).alloc _) _ 1 _ (enc5 ⟨r, xa, xc, xb, xd⟩) rfl rfl (fun h => (by cases h)) ?_ (enc5_one _) ?_ ?_ ?_)
                · intro a ha; cases ha
                  exact news5 (r := ⟨r, xa, xc, xb, xd⟩) (block_new _ _)
                · unfold maxLen; have := HL4.out; omega
                · have := HL4.out; omega
                · intro v6 w6 hro hgr hnn
                  have PN : Hid (Chn w (.slice a5 l5 c5) v6 (ys ++ [⟨r, xa, xc, xb, xd⟩]) w6) := Lib.hid (C3.out.step (x := ⟨r, xa, xc, xb, xd⟩) LX.out HK.out OK.out HLE.out M1.out M2.out M4.out hro hgr (fun g hg => (hnn g hg).imp id (fun h => by simpa using h)))
                  clear hro hgr hnn
                  go_wp2_with fail
                  go_roundw
                  case rel => exact ⟨i + 1, _, hlt, by go_num, by rw [List.length_append, HL4.out]; simp; omega, PN.out⟩
                  case measure => simp [intOf]; omega
          · obtain ⟨K, hKK⟩ : ∃ K, chk r = K := ⟨_, rfl⟩
            have P12 := Lib.hid (fun W (hb : Below w.heap.size w W) => put_bad (K := K) (HE.out.below hb) (LX.out.keep hb) OK.out (by omega) (by omega) hk hKK)
            have k0 : (K != 0) = true := by rw [← hKK]; simpa using hk
            clear hf f1 f2 hk hKK
            go_wp2_with fail
            refine (PF.out).mono ?_; rintro e w1 ⟨rfl, hb1⟩
            have C1 := Lib.hid (CH.out.keep hb1)
            obtain ⟨x0, x1, x2, x3, x4⟩ := XC.out w1 C1.out.below
            have Q12 := Lib.hid (P12.out w1 C1.out.below)
            clear hb1 PF P12
            go_wp2_with fail
            refine (Q12.out).mono ?_; rintro e w2 ⟨pp, pq, rfl, hb2⟩
            have C2 := Lib.hid (C1.out.keep hb2)
            clear hb2 Q12 x0 x1 x2 x3 x4
            go_wp2_with fail
            go_roundw
            case rel => exact ⟨i + 1, ys, hlt, by go_num, by have := HL4.out; omega, C2.out⟩
            case measure => simp [intOf]; omega
        · rw [Bool.eq_false_iff.2 hf] at PF
          clear hf
          go_wp2_with fail
          refine (PF.out).mono ?_; rintro e w1 ⟨rfl, hb1⟩
          have B1 := Lib.hid (BW.out.trans (hb1.mono BW.out.size))
          clear hb1 PF x0 x1 x2 x3 x4
          go_wp2_with fail
          refine (PW.out _ B1.out).mono ?_; rintro e w2 ⟨rfl, hb2⟩
          have B2 := Lib.hid (B1.out.trans (hb2.mono B1.out.size))
          clear hb2 PW
          go_wp2_with fail
          go_ret
          exact ⟨rfl, B2.out⟩
      · obtain rfl : i = n := by omega
        have hby : By (byS ys) := fun c hc => by
          unfold byS at hc
          obtain ⟨r, hr, hc⟩ := List.mem_flatMap.1 hc
          unfold rs at hr
          obtain ⟨x, hx, rfl⟩ := List.mem_map.1 hr
          exact put_byte (CH.out.ok x hx).1 c hc
        have hok : ∀ r ∈ rs ys, chk r = 0 ∧ RpIn r := fun r hr => by
          unfold rs at hr
          obtain ⟨x, hx, rfl⟩ := List.mem_map.1 hr
          exact CH.out.ok x hx
        have hS3 : IsK .u8 V1 a3 L3 c3 (ns (byS ys)) := IsSl.of_own (e := 5) (encK_len _) (by have := CH.out.b.row; rwa [HL3.out] at this) HL3.out
        have P17 := Lib.hid ((pgetall (HE.out.below BW.out) hS3 hby (by omega)).mono (fun e w' h => ga_sl h))
        rw [show getAllR (byS ys) = some (rs ys) from all_put hok] at P17
        have P17' : Hid (Calls Tryd.prog 17 #[.slice a3 L3 c3] V1 (GaS V1 (rs ys) 0)) := Lib.hid P17.out
        have RT := Lib.hid (fin_rps CH.out HL4.out)
        have P18 : Hid (0 < L3 → ∀ W, Below V1.heap.size V1 W → Calls Tryd.prog 17 #[.slice (part a3 0 c3 1) (L3 - 1) c3] W fun e w' => ∃ a c, e = .returned (.tuple #[.slice a 0 c, .int .i64 15]) ∧ Below W.heap.size W w') := Lib.hid (fun hpos W hb => by
          have hne : rs ys ≠ [] := fun e => by
            have := HL3.out
            rw [ns_len] at this
            unfold byS at this
            rw [e] at this
            simp at this
            omega
          have := all_short hok hne
          have hl : ((rs ys).flatMap putR).length = L3 := by have := HL3.out; rwa [ns_len] at this
          rw [hl] at this
          exact (pgetall (HE.out.below (BW.out.trans (hb.mono BW.out.size))) (take_u8 (hS3.below hb) (Nat.sub_le _ _)) (By.take hby _) (by omega)).mono (fun e w' h => ga_nil this h))
        have hs1 := fun hp : 0 < L3 => run_to Tryd.underlying31 size5x (a := a3) (len := L3) (cap := c3) (h := (L3 : Int) - 1) (k := L3 - 1) (by omega) (by have := hS3.hle; omega)
        have HS1 := Lib.hid hs1
        have hc3 := hS3.hle
        clear P17 hby hok hS3 CH hyi hs1
        generalize part a3 0 c3 1 = p0 at *
        unfold GaS at P17'
        go_wp2_with fail
        refine (P17'.out).mono ?_; rintro e w1 ⟨ka, kn, kc, zs2, rfl, hb1, hr1, hz1⟩
        have D1 := Lib.hid hb1
        have R1 := Lib.hid hr1
        have T1 := Lib.hid (RT.out.below hb1)
        have hll : zs2.length = ys.length := by have := congrArg List.length hz1; simpa [rs] using this
        have HEQ : Hid (∀ i (h1 : i < zs2.length) (h2 : i < ys.length), zs2[i].r = ys[i].r) := Lib.hid (fun i h1 h2 => by
          have h3 : (zs2.map RV.r)[i]? = (ys.map RV.r)[i]? := by unfold rs at hz1; rw [hz1]
          simpa [h1, h2] using h3)
        obtain rfl : kn = n4 := by have := hr1.sl.hlen; have := T1.out.sl.hlen; omega
        have hlc := R1.out.sl.hle; have hlm := R1.out.sl.hmax
        have hkc := T1.out.sl.hle
        unfold maxLen at hlm
        have HL1 := Lib.hid R1.out.sl.hlen
        have HL2 := Lib.hid T1.out.sl.hlen
        clear hb1 hr1 hz1 hll P17' RT
        go_wp2_with fail
        go_loopw [14] (fun v14 wr => RsRel w1 kn v14 wr) (fun v14 _ => kn - (intOf v14).toNat)
        case atStart => exact ⟨0, Nat.zero_le _, rfl, Below.refl _ _⟩
        case round =>
          obtain ⟨j, hjl, rfl, hb⟩ := hrel
          have B := Lib.hid hb
          clear hb
          by_cases hlt : j < kn
          · have h1 : j < zs2.length := by have := HL1.out; omega
            have h2 : j < ys.length := by have := HL2.out; omega
            obtain ⟨g, off, rfl, -, -⟩ := R1.out.sl.at_ (by intro e; rw [e] at h1; simp at h1)
            obtain ⟨g', off', rfl, -, -⟩ := T1.out.sl.at_ (by intro e; rw [e] at h2; simp at h2)
            have e := HEQ.out j h1 h2
            obtain ⟨x0, x1, x2, x3, x4⟩ := cell5 (R1.out.sl.below B.out) h1
            obtain ⟨y0, y1, y2, y3, y4⟩ := cell5 (T1.out.sl.below B.out) h2
            have l1 := (R1.out.ls zs2[j] (List.getElem_mem h1)).keep B.out
            have l2 := (T1.out.ls ys[j] (List.getElem_mem h2)).keep B.out
            generalize zs2[j] = r at *
            generalize ys[j] = r' at *
            obtain ⟨c, ad, cd, ab, cb⟩ := r
            obtain ⟨c', ad', cd', ab', cb'⟩ := r'
            simp only at e
            subst e
            have C := Lib.hid (psame (l1.keep (Below.drew (Below.refl _ _))) (l2.keep (Below.drew (Below.refl _ _))))
            rw [sameB_refl] at C
            simp only at x0 x1 x2 x3 x4 y0 y1 y2 y3 y4
            unfold rpV at C
            dsimp only at C
            have hnot : ∀ (x : Bool) (w : World), (Op.unary .not (.bool x)).run Tryd.prog w = .ok (.bool (!x)) w := fun _ _ => rfl
            clear l1 l2 h1 h2
            go_wp2_with fail
            go_still_tail 8, (by kernel_rfl)
            go_wp2_with fail
            refine (C.out).mono ?_; rintro e w8 ⟨rfl, hb8⟩
            have B8 := Lib.hid ((Below.drew B.out).trans (hb8.mono B.out.size))
            clear hb8 C x0 x1 x2 x3 x4 y0 y1 y2 y3 y4
            go_wp2_with fail
            go_roundw
            case rel => exact ⟨j + 1, hlt, by go_num, B8.out⟩
            case measure => simp [intOf]; omega
          · have B9 := Lib.hid (D1.out.trans (B.out.mono D1.out.size))
            have B10 := Lib.hid (BW.out.trans (B9.out.mono BW.out.size))
            by_cases hpos : 0 < L3
            · have d1 : decide (0 < (L3 : Int)) = true := by simp; omega
              have hs := HS1.out hpos
              have Q18 := Lib.hid (P18.out hpos wr B9.out)
              clear P18 HS1
              go_wp2_with fail
              refine (Q18.out).mono ?_; rintro e w8 ⟨za, zc, rfl, hb8⟩
              have B11 := Lib.hid (B10.out.trans (hb8.mono B10.out.size))
              clear hb8 Q18
              go_wp2_with fail
              refine (PW.out _ B11.out).mono ?_; rintro e w9 ⟨rfl, hb9⟩
              have B12 := Lib.hid (B11.out.trans (hb9.mono B11.out.size))
              clear hb9 PW
              go_wp2_with fail
              go_ret
              exact ⟨rfl, B12.out⟩
            · have d1 : decide (0 < (L3 : Int)) = false := by simp; omega
              clear P18 HS1
              go_wp2_with fail
              refine (PW.out _ B10.out).mono ?_; rintro e w9 ⟨rfl, hb9⟩
              have B12 := Lib.hid (B10.out.trans (hb9.mono B10.out.size))
              clear hb9 PW
              go_wp2_with fail
              go_ret
              exact ⟨rfl, B12.out⟩
end Go.Proofs.YtlmdkcpiimpniaaDoor

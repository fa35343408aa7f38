/- Permutations by draws: drawn; the laws ShuffleInverse, ShuffleGroup. -/
import Derived.Test.YtejleobpohpdpaaDoorQ
import Derived.Laws.CopyOwn
namespace Go.Proofs.YtejleobpohpdpaaDoor
open Go.ChangeShapes Go.WideShapes Go.ChangeAt Go.RowKit

/-- A copy into a row of the call's own. -/
theorem wpList_copyB {P : Program} {w : World} {ops : Array Oper} {rest : List Oper} {o : Oper} {a : Act} {Q : Exit → Act → World → Prop} (hgd : o.guard = none) (d s : Operand) (t : TypeId)
    (ho : o.op = .call { callee := .builtin .copy, args := #[d, s], argTypes := #[t, t] }) (e : TypeId) (hu : P.underlying t = some (.slice e)) (hsz : (P.info? e).map (·.size) = some 1)
    {k : IntKind} {g n cap : Nat} {zs ds : List Int} {sp : Option Addr} {la ca : Nat} (hd : a.eval d = .slice (some ⟨g, 0, none⟩) n cap) (hs : a.eval s = .slice sp la ca)
    (hB : Blk k e w g cap zs) (hn : n = zs.length) (hS : IsK k w sp la ca ds) (B : Nat) (w0 : World) (hb : Below B w0 w) (hBg : B ≤ g)
    (h : ∀ w' c, Blk k e w' g cap (ds.take n ++ zs.drop ds.length) → Below B w0 w' → wpList P ops Q rest (a.put o.dst (goInt c)) w') :
    wpList P ops Q (o :: rest) a w := by
  obtain ⟨r, h1, h2, h3⟩ := hB
  have hal := hS.hlen
  obtain ⟨M, hM, hM1, hM2, hM3⟩ : ∃ M, Nat.min la n = M ∧ M ≤ la ∧ M ≤ n ∧ (M = la ∨ M = n) := by
    refine ⟨Nat.min la n, rfl, Nat.min_le_left _ _, Nat.min_le_right _ _, ?_⟩
    rcases Nat.le_total la n with hle | hle
    · exact Or.inl (Nat.min_eq_left hle)
    · exact Or.inr (Nat.min_eq_right hle)
  have hcl : (vs k (ds.take n)).length = M := by rw [vs_len, List.length_take, ← hal]; omega
  refine wpList_copy_splice hgd d s t t ho e hu hsz (some ⟨g, 0, none⟩) sp n cap la ca hd hs g 0 (vs k zs ++ r) e h3 (vs k (ds.take n)) (by rw [hM, hcl]) (fun hpos => ⟨rfl, ?_⟩) (by rw [hcl]; simp [vs_len]; omega) ?_ B w0 hb hBg ?_
  · rw [hcl] at hpos
    obtain ⟨b, off, rfl, _, _⟩ := hS.at_ (fun e => by rw [e] at hal; simp at hal; omega)
    refine ⟨_, rfl, fun j v hj => ?_⟩
    have hj' := (List.getElem?_eq_some_iff.1 hj).1
    rw [hcl] at hj'
    have hc := hS.cellK (i := j) (by omega)
    rw [addr_add, hc, ← hj]
    have e1 : (ds.take n)[j]? = some (ds.getD j 0) := by
      rw [List.getElem?_take, if_pos (by omega)]; simp [show j < ds.length by omega]
    simp only [vs, List.getElem?_map, e1, Option.map_some]
  · intro u hu'
    simp only [vs, List.mem_map] at hu'
    obtain ⟨x, _, rfl⟩ := hu'
    rfl
  · intro w' hw' hb'
    refine h w' _ ⟨r, ?_, h2, ?_⟩ hb'
    · simp; omega
    · rw [hw'.out]
      congr 2
      simp only [Go.splice, List.take_zero, List.nil_append, Nat.zero_add]
      rw [hcl]
      have e2 : (vs k zs ++ r).drop M = vs k (zs.drop ds.length) ++ r := by
        rw [List.drop_append_of_le_length (by rw [vs_len]; omega)]
        rcases hM3 with e | e
        · rw [e, hal]; simp [vs]
        · rw [List.drop_of_length_le (by rw [vs_len]; omega), List.drop_of_length_le (l := zs) (by omega)]
          simp [vs]
      rw [e2]
      simp [vs]
/-- A list of so many numbers, and an error. -/
def LN (k : IntKind) (zs : List Int) (n : Nat) (er : Int) (w : World) (e : Ending) (w' : World) : Prop := ∃ a c, e = .returned (.tuple #[.slice a n c, .int .i64 er]) ∧ IsK k w' a n c zs ∧ Below w.heap.size w w'
theorem LN.out {k : IntKind} {er : Int} {w w' : World} {e : Ending} {v : Value} {t : TypeId} {p : List Nat} {n : Nat} (he : e = .returned (.tuple #[v, .int .i64 er])) (ho : OutR 1 (encK k) t w' w.heap.size v (ns p)) (hn : p.length = n) (hb : Below w.heap.size w w') : LN k (ns p) n er w e w' := by
  obtain ⟨a, c, rfl, hs⟩ := ow_sl ho hn
  exact ⟨a, c, he, hs, hb⟩
theorem inv_n {p : List Nat} (hp : IsP p) (hl : p.length ≤ 16384) {w : World} {aa : Option Addr} {la ca : Nat} (h : IsK .i64 w aa la ca (ns p)) : Calls Tryd.prog 27 #[.slice aa la ca] w (LN .i64 (ns (invp p)) la 0 w) := by
  have hal := h.hlen
  rw [ns_len] at hal
  refine (pinv_ok hp hl h).mono ?_
  rintro e w' ⟨g, hg, he, hb, hbl⟩
  exact ⟨_, _, he, hb.sl (by rw [ns_len, invp_len, hal]), hbl⟩
theorem comp_n {p q : List Nat} (hp : IsP p) (hq : IsP q) (hpl : p.length ≤ 16384) (hpq : p.length = q.length) {w : World} {aa ab : Option Addr} {la ca lb cb : Nat} (h : IsK .i64 w aa la ca (ns p)) (h2 : IsK .i64 w ab lb cb (ns q)) :
    Calls Tryd.prog 25 #[.slice aa la ca, .slice ab lb cb] w (LN .i64 (ns (comp p q)) lb 0 w) := by
  have hbl := h2.hlen
  rw [ns_len] at hbl
  refine (pcomp_ok hp hq hpl hpq h h2).mono ?_
  rintro e w' ⟨g, hg, he, hb, hbl'⟩
  exact ⟨_, _, he, hb.sl (by rw [ns_len, comp_len, hbl]), hbl'⟩
theorem draw_n {n : Nat} (hn : n ≤ 16384) {w : World} {aa : Option Addr} {la ca : Nat} {ds : List Int} (h : IsInts .u64 w aa la ca ds) (hl : n ≤ la + 1) :
    Calls Tryd.prog 15 #[.int .i64 (n : Int), .slice aa la ca] w (LN .i64 (ns (drw n (nat ds) (n - 1))) n 0 w) := by
  refine (pdraw hn h hl).mono ?_
  rintro e w' ⟨g, hg, he, hb, hbl⟩
  exact ⟨_, _, he, hb.sl (by rw [ns_len, (drw_ok n (nat ds) (n - 1) (by omega)).2]), hbl⟩
theorem make_u (n : Nat) (hn : n ≤ 1099511627776) : ∀ w, (Instr.makeSlice 22 (.int .i64 (n : Int)) (.int .i64 (n : Int))).run Tryd.prog w = .ok (.slice (some ⟨w.heap.size, 0, none⟩) n n) (w.alloc (.cells (madeCells #[Value.int .u64 0] n) 30)) :=
  run_make_row' (P := Tryd.prog) 22 30 (.int .u64 0) 8 Tryd.underlying22 info30 rfl .i64 .i64 n (by omega) (by omega)
theorem size30 : (Tryd.prog.info? 30).map (·.size) = some 1 := by kernel_rfl
/-- The draws, as they lie in so many places. -/
def pad (ds : List Int) (m : Nat) : List Int := ds.take m ++ (List.replicate m 0).drop ds.length
theorem pad_len (ds : List Int) (m : Nat) : (pad ds m).length = m := by simp [pad]; omega
theorem pad_get {ds : List Int} {m i : Nat} (h : i < m) : (nat (pad ds m)).getD i 0 = (nat ds).getD i 0 := by
  rw [nat_get (by rw [pad_len]; exact h)]
  rcases Nat.lt_or_ge i ds.length with h1 | h1
  · rw [nat_get h1]
    unfold pad
    rw [List.getD_eq_getElem?_getD, List.getElem?_append_left (by simp; omega), List.getElem?_take, if_pos h]
    simp
  · have e1 : (nat ds).getD i 0 = 0 := by simp [nat, h1]
    rw [e1]
    unfold pad
    rw [List.getD_eq_getElem?_getD, List.getElem?_append_right (by simp; omega)]
    simp only [List.drop_replicate, List.getElem?_replicate]
    split <;> rfl
theorem pad_wf {ds : List Int} (h : ∀ n ∈ ds, (Lit.int .u64 n).wf = true) (m : Nat) : ∀ n ∈ pad ds m, (Lit.int .u64 n).wf = true := fun n hn => by
  rcases List.mem_append.1 hn with h1 | h1
  · exact h n (List.mem_of_mem_take h1)
  · simp only [List.drop_replicate, List.mem_replicate] at h1
    rw [h1.2]; decide
/-- The permutation that a size and draws give. -/
def dp (s : Nat) (ds : List Int) : List Nat := drw (s % 101) (nat ds) (s % 101 - 1)
theorem dp_ok (s : Nat) (ds : List Int) : IsP (dp s ds) ∧ (dp s ds).length = s % 101 := drw_ok _ _ _ (by omega)
def DnPost (s : Nat) (ds : List Int) (w : World) (e : Ending) (w' : World) : Prop := ∃ a c, e = .returned (.tuple #[.slice a (s % 101) c, .bool true]) ∧ IsK .i64 w' a (s % 101) c (ns (dp s ds)) ∧ Below w.heap.size w w'
set_option maxRecDepth 100000 in
set_option maxHeartbeats 2000000 in
theorem drawn_any {s : Nat} (hs : s < 256) {w : World} {aa : Option Addr} {la ca : Nat} {ds : List Int} (h : IsInts .u64 w aa la ca ds) :
    Calls Tryd.prog 20 #[.int .u8 (s : Int), .slice aa la ca] w (DnPost s ds w) := by
  have hm := Nat.mod_lt s (show 0 < 101 by decide)
  have hcongr : drw (s % 101) (nat (pad ds 100)) (s % 101 - 1) = dp s ds := drw_congr _ (fun i hi => by rw [pad_get (by omega)])
  have hDR := fun w' a c (h' : IsK .u64 w' a 100 c (pad ds 100)) => draw_n (n := s % 101) (by omega) (w := w') (aa := a) (la := 100) (ca := c) (ds := pad ds 100) ⟨h', pad_wf h.wf 100⟩ (by omega)
  rw [hcongr] at hDR
  have HDR := Lib.hid hDR
  have hac := h.sl.hle; have ham := h.sl.hmax
  unfold maxLen at ham
  have H := Lib.hid h.sl
  have hmod : (s : Int) % 101 = ((s % 101 : Nat) : Int) := rfl
  obtain ⟨CI, hCI⟩ : ∃ C, C = madeCells #[Value.int .u64 0] 100 := ⟨_, rfl⟩
  have m1 : ∀ w, (Instr.makeSlice 22 (.int .i64 100) (.int .i64 100)).run Tryd.prog w = .ok (.slice (some ⟨w.heap.size, 0, none⟩) 100 100) (w.alloc (.cells (madeCells #[Value.int .u64 0] 100) 30)) := make_u 100 (by decide)
  rw [← hCI] at m1
  have HCI := Lib.hid hCI
  clear hcongr hDR h hCI
  unfold DnPost
  generalize ns (dp s ds) = res at *
  generalize s % 101 = n at *
  have A1 : Hid (Below w.heap.size w (w.alloc (.cells CI 30))) := Lib.hid (Below.alloc (Below.refl _ _) (Nat.le_refl _) _)
  have K1 : Hid (Blk .u64 30 (w.alloc (.cells CI 30)) w.heap.size 100 (List.replicate 100 0)) := Lib.hid (by rw [HCI.out]; exact Blk.new _ _ (by unfold maxLen; omega))
  have H1 := Lib.hid (H.out.below A1.out)
  go_enter Tryd.func20, Tryd.ntmps20
  go_wp2_with (with_reducible refine wpList_copyB rfl (.tmp 14) (.tmp 15) 22 rfl 30 Tryd.underlying22 size30 rfl rfl K1.out (by simp) H1.out w.heap.size w A1.out (Nat.le_refl _) ?_)
  intro w3 c3 hk3 hb3
  have hl := pad_len ds 100
  have K3 := Lib.hid (hk3.sl (n := 100) (show 100 = (pad ds 100).length by rw [hl])); have B3 := Lib.hid hb3
  clear hk3 hb3 hl
  go_wp2_with fail
  refine (HDR.out _ _ _ K3.out).mono ?_; rintro e w4 ⟨a4, c4, rfl, hs4, hb⟩
  have S4 := Lib.hid hs4; have B4 := Lib.hid (B3.out.trans (hb.mono B3.out.size))
  have hq1 := hs4.hle; have hq2 := hs4.hmax
  unfold maxLen at hq2
  clear hs4 hb
  go_wp2_with fail
  go_ret2
  exact ⟨_, _, rfl, S4.out, B4.out⟩
end Go.Proofs.YtejleobpohpdpaaDoor

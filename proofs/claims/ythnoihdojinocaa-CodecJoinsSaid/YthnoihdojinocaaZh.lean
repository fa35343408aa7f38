/- Lists in the state of the document's command. -/
import Derived.Test.YthnoihdojinocaaZg
import Derived.Test.YthnoihdojinocaaV
namespace Go.Proofs.Ythnoihdojinocaa
open Go.ChangeShapes Go.WideShapes Go.ChangeAt Go.RowKit
set_option linter.unusedVariables false
set_option linter.unusedSimpArgs false

theorem drop_last {fs : List Fd} {op : Int} (hu : uses op = some fs) {i : Nat} (hi : i < fs.length) (hf : fs.getD i .u = .d ∨ fs.getD i .u = .b) : i + 1 = fs.length := by
  rcases (uses_some hu).2 with rfl | rfl | rfl | rfl | rfl | rfl | rfl | rfl | rfl <;>
    (simp at hi; try omega) <;> (have : i = 0 ∨ i = 1 ∨ i = 2 ∨ i = 3 := by omega) <;> rcases this with rfl | rfl | rfl | rfl <;> simp_all
theorem rw_app {ik : IntKind} {ty : TypeId} {w0 w1 w5 : World} {q x k : Nat} {vd v5 u : Value} {zs zs' : List Int} {o : Nat} (h : Rw ik ty w0 q x k vd zs w1) (hq : q < w1.heap.size) (hx : x < w1.heap.size) (hk : k < w1.heap.size) (h1 : OutR 1 (encK ik) ty w5 w0.heap.size v5 zs') (h4 : ∀ g, v5.ownBlock = some g → vd.ownBlock = some g ∨ w1.heap.size ≤ g) :
    Rw ik ty w0 q x k v5 zs' (w5.setCell ⟨x, o, none⟩ u) := by
  have hne : ∀ g, v5.ownBlock = some g → g ≠ q ∧ g ≠ x ∧ g ≠ k := fun g hg => by
    rcases h4 g hg with h5 | h5
    · exact h.ne g h5
    · omega
  exact ⟨h1.touch ((Touch.refl (fun i => i = x) w5).setCell (p := ⟨x, o, none⟩) (fun _ => rfl) u) (fun g hg e => (hne g hg).2.1 e), hne⟩
theorem KDX.lts {w0 w : World} {q x k : Nat} {c : Cm} {vd vb : Value} {r : List Nat} {wg : Bool} (h : KDX w0 q x k c vd vb r wg w) : q < w.heap.size ∧ x < w.heap.size ∧ k < w.heap.size := by
  obtain ⟨a, n, c, h1, _⟩ := h.rd.row
  exact ⟨lt_of_block h.res, lt_of_block h.cells, lt_of_block h1⟩
theorem gu_len {r : List Nat} {x m : Nat} (hb : By r) (h : gu r = some (x, m)) : (r.drop m).length + 1 ≤ r.length := by
  have := gu_le hb h
  rw [List.length_drop]; omega
def con_d (c0 : Cm) : Option (List Nat × List Nat) → Option (Cm × List Nat)
  | none => none
  | some (l, r) => some ({ c0 with d := l }, r)
theorem rdFs_d (c : Cm) (r : List Nat) : rdFs [.d] c r = con_d c (rdL id r) := by
  simp only [rdFs, rdF]
  cases rdL id r with
  | none => rfl
  | some p => rfl
/-- A list that is being read. -/
structure Cl_d (w0 : World) (q x k : Nat) (R : Option (Cm × List Nat)) (L : Nat) (c0 : Cm) (n j : Nat) (wr : World) (done : List Nat) (vl : Value) (r : List Nat) (wg : Bool) : Prop where
  st : KDX w0 q x k { c0 with d := done } vl (.slice none 0 0) r wg wr
  row : Rw .u64 23 w0 q x k vl (ns done) wr
  jn : j ≤ n
  other : c0.b = []
  good : St wg (con_d c0 (putL done (getN id (n - j) r))) R (r.length + done.length) L
def CrR_d (w0 : World) (q x k : Nat) (R : Option (Cm × List Nat)) (L : Nat) (c0 : Cm) (n : Nat) (v : Value) (wr : World) : Prop :=
  ∃ j : Nat, v = .int .u64 (j : Int) ∧ ∃ done vl r wg, Cl_d w0 q x k R L c0 n j wr done vl r wg
theorem cl_start_d {w0 wr w1 : World} {q x k : Nat} {fs : List Fd} {R : Option (Cm × List Nat)} {L i y : Nat} {c : Cm} {vd vb : Value} {r r' : List Nat} {wg wg' : Bool} {op : Int} (hu : uses op = some fs) (h : Cst w0 q x k fs R L i wr c vd vb r wg) (hi : i < fs.length) (hf : fs.getD i .u = .d) (hr : RdN w0 k wr r wg y r' wg' w1) :
    CrR_d w0 q x k R L c y (.int .u64 0) w1 := by
  obtain ⟨n1, n2, n3, n4⟩ := h.nil hi
  subst n1 n2
  have hlast := drop_last hu hi (Or.inl hf)
  have hdr : fs.drop i = [.d] := by
    rw [List.drop_eq_getElem_cons hi, List.drop_of_length_le (by omega)]; simp [hi] at hf; rw [hf]
  have hc : ({ c with d := [] } : Cm) = c := by obtain ⟨op, u, v, w, t, d, b⟩ := c; simp_all
  refine ⟨0, rfl, [], .slice none 0 0, r', wg', by rw [hc]; exact h.st.read hr.rd hr.touch, Rw.nil _ _ _ _ _ _ _, Nat.zero_le _, n4, ?_⟩
  have hl := hr.len
  have hg0 := h.good
  rw [hdr, rdFs_d, n3, n4] at hg0
  rw [putL_nil, Nat.sub_zero]
  rcases hg0 with ⟨e1, e2, e3⟩ | ⟨e1, e2, e3⟩
  · subst e1
    unfold rdL at e2
    cases hg : gu r with
    | none =>
      rw [hg] at e2
      obtain ⟨-, e5, -⟩ := hr.bad hg
      exact Or.inr ⟨e5, e2.symm, by simp at e3 ⊢; omega⟩
    | some p =>
      obtain ⟨z, m⟩ := p
      rw [hg] at e2
      obtain ⟨e4, e5, e6⟩ := hr.good z m hg
      subst e4 e5 e6
      exact Or.inl ⟨rfl, e2, by simp at e3 hl ⊢; omega⟩
  · subst e1
    refine Or.inr ⟨?_, e2, by simp at e3 ⊢; omega⟩
    cases hg : gu r with
    | none => exact (hr.bad hg).2.1
    | some p => exact (hr.good p.1 p.2 hg).2.1
theorem cl_next_d {w0 wr w1 w5 : World} {q x k : Nat} {R : Option (Cm × List Nat)} {L n j y : Nat} {c0 : Cm} {done : List Nat} {vl v5 : Value} {r r' : List Nat} {wg' : Bool} (h : Cl_d w0 q x k R L c0 n j wr done vl r false) (hj : j < n) (hr : RdN w0 k wr r false y r' wg' w1)
    (h1 : OutR 1 (encK .u64) 23 w5 w0.heap.size v5 ((ns done) ++ [(y : Int)])) (h2 : Touch (fun b => vl.ownBlock = some b) w1 w5) (h4 : ∀ g, v5.ownBlock = some g → vl.ownBlock = some g ∨ w1.heap.size ≤ g) :
    CrR_d w0 q x k R L c0 n (.int .u64 ((j + 1 : Nat) : Int)) (w5.setCell ⟨x, 5, none⟩ v5) := by
  have hs1 := h.st.read hr.rd hr.touch
  obtain ⟨l1, l2, l3⟩ := hs1.lts
  have hrow := h.row.keep hr.touch (fun i e => Or.inr (Or.inr e))
  have hne := h.row.ne
  refine ⟨j + 1, rfl, done ++ [y], v5, r', wg', KDX.set (hs1.keep h2 (fun e => (hne _ e).1 rfl) (fun e => (hne _ e).2.1 rfl) (fun e => (hne _ e).2.2 rfl) (fun i e => h.row.out.blk i e)) rfl, rw_app hrow l1 l2 l3 (by rw [← ns_app]; exact h1) h4, by omega, h.other, ?_⟩
  rcases h.good with ⟨e1, e2, e3⟩ | ⟨e1, e2, e3⟩
  · obtain ⟨m', hm'⟩ : ∃ m', n - j = m' + 1 := ⟨n - j - 1, by omega⟩
    have hm2 : n - (j + 1) = m' := by omega
    rw [hm'] at e2
    rw [hm2]
    cases hg : gu r with
    | none =>
      rw [getN_no hg] at e2
      obtain ⟨-, e5, e6⟩ := hr.bad hg
      subst e6
      exact Or.inr ⟨e5, e2.symm, by simp; omega⟩
    | some p =>
      obtain ⟨z, m⟩ := p
      rw [getN_next hg] at e2
      obtain ⟨e4, e5, e6⟩ := hr.good z m hg
      have := gu_len h.st.rd.bytes hg
      subst e4 e5 e6
      exact Or.inl ⟨rfl, e2, by rw [List.length_append]; simp at this ⊢; omega⟩
  · cases e1
theorem cl_end_d {w0 wr : World} {q x k : Nat} {fs : List Fd} {R : Option (Cm × List Nat)} {L n j i : Nat} {c0 : Cm} {done : List Nat} {vl : Value} {r : List Nat} {wg : Bool} {op : Int} (hu : uses op = some fs) (hi : i < fs.length) (hf : fs.getD i .u = .d) (h : Cl_d w0 q x k R L c0 n j wr done vl r wg) (hj : wg = true ∨ j = n) :
    ∃ c vd vb r wg, Cst w0 q x k fs R L (i + 1) wr c vd vb r wg := by
  have hlast := drop_last hu hi (Or.inl hf)
  refine ⟨{ c0 with d := done }, vl, (.slice none 0 0), r, wg, h.st, h.row, (by rw [show ({ c0 with d := done } : Cm).b = [] from h.other]; exact Rw.nil _ _ _ _ _ _ _), fun hh => absurd hh (by omega), ?_⟩
  have ho := h.other
  rw [List.drop_of_length_le (by omega)]
  rcases h.good with ⟨e1, e2, e3⟩ | ⟨e1, e2, e3⟩
  · rcases hj with hj | hj
    · rw [e1] at hj; cases hj
    · subst hj
      rw [Nat.sub_self] at e2
      refine Or.inl ⟨e1, by rw [← e2]; simp [rdFs, getN, putL, con_d], ?_⟩
      simp [ho]; omega
  · refine Or.inr ⟨e1, e2, ?_⟩
    simp [ho]; omega
def con_b (c0 : Cm) : Option (List Int × List Nat) → Option (Cm × List Nat)
  | none => none
  | some (l, r) => some ({ c0 with b := l }, r)
theorem rdFs_b (c : Cm) (r : List Nat) : rdFs [.b] c r = con_b c (rdL unf r) := by
  simp only [rdFs, rdF]
  cases rdL unf r with
  | none => rfl
  | some p => rfl
/-- A list that is being read. -/
structure Cl_b (w0 : World) (q x k : Nat) (R : Option (Cm × List Nat)) (L : Nat) (c0 : Cm) (n j : Nat) (wr : World) (done : List Int) (vl : Value) (r : List Nat) (wg : Bool) : Prop where
  st : KDX w0 q x k { c0 with b := done } (.slice none 0 0) vl r wg wr
  row : Rw .i64 2 w0 q x k vl done wr
  jn : j ≤ n
  other : c0.d = []
  good : St wg (con_b c0 (putL done (getN unf (n - j) r))) R (r.length + done.length) L
def CrR_b (w0 : World) (q x k : Nat) (R : Option (Cm × List Nat)) (L : Nat) (c0 : Cm) (n : Nat) (v : Value) (wr : World) : Prop :=
  ∃ j : Nat, v = .int .u64 (j : Int) ∧ ∃ done vl r wg, Cl_b w0 q x k R L c0 n j wr done vl r wg
theorem cl_start_b {w0 wr w1 : World} {q x k : Nat} {fs : List Fd} {R : Option (Cm × List Nat)} {L i y : Nat} {c : Cm} {vd vb : Value} {r r' : List Nat} {wg wg' : Bool} {op : Int} (hu : uses op = some fs) (h : Cst w0 q x k fs R L i wr c vd vb r wg) (hi : i < fs.length) (hf : fs.getD i .u = .b) (hr : RdN w0 k wr r wg y r' wg' w1) :
    CrR_b w0 q x k R L c y (.int .u64 0) w1 := by
  obtain ⟨n1, n2, n3, n4⟩ := h.nil hi
  subst n1 n2
  have hlast := drop_last hu hi (Or.inr hf)
  have hdr : fs.drop i = [.b] := by
    rw [List.drop_eq_getElem_cons hi, List.drop_of_length_le (by omega)]; simp [hi] at hf; rw [hf]
  have hc : ({ c with b := [] } : Cm) = c := by obtain ⟨op, u, v, w, t, d, b⟩ := c; simp_all
  refine ⟨0, rfl, [], .slice none 0 0, r', wg', by rw [hc]; exact h.st.read hr.rd hr.touch, Rw.nil _ _ _ _ _ _ _, Nat.zero_le _, n3, ?_⟩
  have hl := hr.len
  have hg0 := h.good
  rw [hdr, rdFs_b, n3, n4] at hg0
  rw [putL_nil, Nat.sub_zero]
  rcases hg0 with ⟨e1, e2, e3⟩ | ⟨e1, e2, e3⟩
  · subst e1
    unfold rdL at e2
    cases hg : gu r with
    | none =>
      rw [hg] at e2
      obtain ⟨-, e5, -⟩ := hr.bad hg
      exact Or.inr ⟨e5, e2.symm, by simp at e3 ⊢; omega⟩
    | some p =>
      obtain ⟨z, m⟩ := p
      rw [hg] at e2
      obtain ⟨e4, e5, e6⟩ := hr.good z m hg
      subst e4 e5 e6
      exact Or.inl ⟨rfl, e2, by simp at e3 hl ⊢; omega⟩
  · subst e1
    refine Or.inr ⟨?_, e2, by simp at e3 ⊢; omega⟩
    cases hg : gu r with
    | none => exact (hr.bad hg).2.1
    | some p => exact (hr.good p.1 p.2 hg).2.1
theorem cl_next_b {w0 wr w1 w5 : World} {q x k : Nat} {R : Option (Cm × List Nat)} {L n j y : Nat} {c0 : Cm} {done : List Int} {vl v5 : Value} {r r' : List Nat} {wg' : Bool} (h : Cl_b w0 q x k R L c0 n j wr done vl r false) (hj : j < n) (hr : RdN w0 k wr r false y r' wg' w1)
    (h1 : OutR 1 (encK .i64) 2 w5 w0.heap.size v5 (done ++ [(unf y)])) (h2 : Touch (fun b => vl.ownBlock = some b) w1 w5) (h4 : ∀ g, v5.ownBlock = some g → vl.ownBlock = some g ∨ w1.heap.size ≤ g) :
    CrR_b w0 q x k R L c0 n (.int .u64 ((j + 1 : Nat) : Int)) (w5.setCell ⟨x, 6, none⟩ v5) := by
  have hs1 := h.st.read hr.rd hr.touch
  obtain ⟨l1, l2, l3⟩ := hs1.lts
  have hrow := h.row.keep hr.touch (fun i e => Or.inr (Or.inr e))
  have hne := h.row.ne
  refine ⟨j + 1, rfl, done ++ [unf y], v5, r', wg', KDX.set (hs1.keep h2 (fun e => (hne _ e).1 rfl) (fun e => (hne _ e).2.1 rfl) (fun e => (hne _ e).2.2 rfl) (fun i e => h.row.out.blk i e)) rfl, rw_app hrow l1 l2 l3 (h1) h4, by omega, h.other, ?_⟩
  rcases h.good with ⟨e1, e2, e3⟩ | ⟨e1, e2, e3⟩
  · obtain ⟨m', hm'⟩ : ∃ m', n - j = m' + 1 := ⟨n - j - 1, by omega⟩
    have hm2 : n - (j + 1) = m' := by omega
    rw [hm'] at e2
    rw [hm2]
    cases hg : gu r with
    | none =>
      rw [getN_no hg] at e2
      obtain ⟨-, e5, e6⟩ := hr.bad hg
      subst e6
      exact Or.inr ⟨e5, e2.symm, by simp; omega⟩
    | some p =>
      obtain ⟨z, m⟩ := p
      rw [getN_next hg] at e2
      obtain ⟨e4, e5, e6⟩ := hr.good z m hg
      have := gu_len h.st.rd.bytes hg
      subst e4 e5 e6
      exact Or.inl ⟨rfl, e2, by rw [List.length_append]; simp at this ⊢; omega⟩
  · cases e1
theorem cl_end_b {w0 wr : World} {q x k : Nat} {fs : List Fd} {R : Option (Cm × List Nat)} {L n j i : Nat} {c0 : Cm} {done : List Int} {vl : Value} {r : List Nat} {wg : Bool} {op : Int} (hu : uses op = some fs) (hi : i < fs.length) (hf : fs.getD i .u = .b) (h : Cl_b w0 q x k R L c0 n j wr done vl r wg) (hj : wg = true ∨ j = n) :
    ∃ c vd vb r wg, Cst w0 q x k fs R L (i + 1) wr c vd vb r wg := by
  have hlast := drop_last hu hi (Or.inr hf)
  refine ⟨{ c0 with b := done }, (.slice none 0 0), vl, r, wg, h.st, (by rw [show ({ c0 with b := done } : Cm).d = [] from h.other]; exact Rw.nil _ _ _ _ _ _ _), h.row, fun hh => absurd hh (by omega), ?_⟩
  have ho := h.other
  rw [List.drop_of_length_le (by omega)]
  rcases h.good with ⟨e1, e2, e3⟩ | ⟨e1, e2, e3⟩
  · rcases hj with hj | hj
    · rw [e1] at hj; cases hj
    · subst hj
      rw [Nat.sub_self] at e2
      refine Or.inl ⟨e1, by rw [← e2]; simp [rdFs, getN, putL, con_b], ?_⟩
      simp [ho]; omega
  · refine Or.inr ⟨e1, e2, ?_⟩
    simp [ho]; omega
end Go.Proofs.Ythnoihdojinocaa

/- The state of the document's command. -/
import Derived.Test.YthnoihdojinocaaZe
import Derived.Test.YthnoihdojinocaaZf
import Derived.Test.YthnoihdojinocaaX
namespace Go.Proofs.Ythnoihdojinocaa
open Go.ChangeShapes Go.WideShapes Go.ChangeAt Go.RowKit
set_option linter.unusedVariables false
set_option linter.unusedSimpArgs false

/-- The result in block q, the command in block x, the Reading in block k. -/
structure KDX (w0 : World) (q x k : Nat) (c : Cm) (vd vb : Value) (r : List Nat) (wg : Bool) (wr : World) : Prop where
  rd : KD w0 k r wg wr
  cells : wr.heap[x]? = some (.cells (cmV c vd vb) 27 (0, 0))
  res : wr.heap[q]? = some (.cells zc 27 (0, 0))
  xk : x ≠ k
  qk : q ≠ k
  qx : q ≠ x
  lx : w0.heap.size ≤ x
  lq : w0.heap.size ≤ q
theorem KDX.keep {w0 w w' : World} {q x k : Nat} {c : Cm} {vd vb : Value} {r : List Nat} {wg : Bool} {S : Nat → Prop} (h : KDX w0 q x k c vd vb r wg w) (ht : Touch S w w') (hq : ¬ S q) (hx : ¬ S x) (hk : ¬ S k) (hs : ∀ i, S i → w0.heap.size ≤ i) : KDX w0 q x k c vd vb r wg w' :=
  ⟨h.rd.keep ht hk hs, ht.keep h.cells hx, ht.keep h.res hq, h.xk, h.qk, h.qx, h.lx, h.lq⟩
theorem KDX.set {w0 w : World} {q x k : Nat} {c c' : Cm} {vd vb vd' vb' : Value} {r : List Nat} {wg : Bool} (h : KDX w0 q x k c vd vb r wg w) {o : Nat} {v : Value} (hs : (cmV c vd vb).setIfInBounds o v = cmV c' vd' vb') : KDX w0 q x k c' vd' vb' r wg (w.setCell ⟨x, o, none⟩ v) :=
  ⟨h.rd.keep ((Touch.refl (fun i => i = x) w).setCell (p := ⟨x, o, none⟩) (fun _ => rfl) v) (fun e => h.xk e.symm) (fun i e => by rw [e]; exact h.lx), by rw [set_of h.cells, hs], block_set h.res h.qx v, h.xk, h.qk, h.qx, h.lx, h.lq⟩
/-- Behind a number that was read. -/
theorem KDX.read {w0 w w1 : World} {q x k : Nat} {c : Cm} {vd vb : Value} {r r' : List Nat} {wg wg' : Bool} (h : KDX w0 q x k c vd vb r wg w) (hk : KD w0 k r' wg' w1) (ht : Touch (fun i => i = k) w w1) : KDX w0 q x k c vd vb r' wg' w1 :=
  ⟨hk, ht.keep h.cells h.xk, ht.keep h.res h.qk, h.xk, h.qk, h.qx, h.lx, h.lq⟩
/-- A list of the command, a row of the call's own. -/
structure Rw (ik : IntKind) (ty : TypeId) (w0 : World) (q x k : Nat) (v : Value) (zs : List Int) (wr : World) : Prop where
  out : OutR 1 (encK ik) ty wr w0.heap.size v zs
  ne : ∀ g, v.ownBlock = some g → g ≠ q ∧ g ≠ x ∧ g ≠ k
theorem Rw.nil (ik : IntKind) (ty : TypeId) (w0 : World) (q x k : Nat) (wr : World) : Rw ik ty w0 q x k (.slice none 0 0) [] wr := ⟨⟨⟨rfl, Or.inl ⟨rfl, rfl⟩⟩, fun g h => by cases h⟩, fun g h => by cases h⟩
theorem Rw.keep {ik : IntKind} {ty : TypeId} {w0 : World} {q x k : Nat} {v : Value} {zs : List Int} {w w' : World} {S : Nat → Prop} (h : Rw ik ty w0 q x k v zs w) (ht : Touch S w w') (hs : ∀ i, S i → i = q ∨ i = x ∨ i = k) : Rw ik ty w0 q x k v zs w' :=
  ⟨h.out.touch ht (fun g hg e => by have := h.ne g hg; have := hs g e; omega), h.ne⟩
theorem Rw.nil_nil {ik : IntKind} {ty : TypeId} {w0 : World} {q x k : Nat} {zs : List Int} {w w' : World} (h : Rw ik ty w0 q x k (.slice none 0 0) zs w) : Rw ik ty w0 q x k (.slice none 0 0) zs w' :=
  ⟨⟨⟨h.out.row.1, by
    rcases h.out.row.2 with h2 | ⟨g, cap, cur, e, _⟩
    · exact Or.inl h2
    · cases e⟩, h.out.blk⟩, h.ne⟩
/-- What a number that is read gives. -/
structure RdN (w0 : World) (k : Nat) (w : World) (r : List Nat) (wg : Bool) (y : Nat) (r' : List Nat) (wg' : Bool) (w' : World) : Prop where
  rd : KD w0 k r' wg' w'
  touch : Touch (fun i => i = k) w w'
  lt : y < 18446744073709551616
  bad : gu r = none → y = 0 ∧ wg' = true ∧ r' = r
  good : ∀ x m, gu r = some (x, m) → y = x ∧ wg' = wg ∧ r' = r.drop m
theorem RdN.len {w0 w w' : World} {k y : Nat} {r r' : List Nat} {wg wg' : Bool} (h : RdN w0 k w r wg y r' wg' w') : r'.length ≤ r.length := by
  cases hg : gu r with
  | none => rw [(h.bad hg).2.2]; exact Nat.le_refl _
  | some p => obtain ⟨x, m⟩ := p; rw [(h.good x m hg).2.2]; simp
theorem rd_u2 {w0 w : World} {k : Nat} {r : List Nat} {wg : Bool} (h : KD w0 k r wg w) : Calls Try.prog 47 #[.pointer (some ⟨k, 0, none⟩)] w fun e w' => ∃ (y : Nat) (r' : List Nat) (wg' : Bool), e = .returned (.int .u64 (y : Int)) ∧ RdN w0 k w r wg y r' wg' w' := by
  refine (rd_u h).mono ?_
  intro e w' hh
  unfold KDu at hh
  cases hg : gu r with
  | none =>
    rw [hg] at hh
    exact ⟨0, r, true, hh.1, hh.2.1, hh.2.2, by omega, fun _ => ⟨rfl, rfl, rfl⟩, fun x m h => by rw [hg] at h; cases h⟩
  | some p =>
    obtain ⟨x, m⟩ := p
    rw [hg] at hh
    exact ⟨x, r.drop m, wg, hh.1, hh.2.1, hh.2.2, (gu_some h.bytes hg).1, (fun h => by rw [hg] at h; cases h), fun x' m' h => by rw [hg] at h; cases h; exact ⟨rfl, rfl, rfl⟩⟩
theorem rd_s2 {w0 w : World} {k : Nat} {r : List Nat} {wg : Bool} (h : KD w0 k r wg w) : Calls Try.prog 48 #[.pointer (some ⟨k, 0, none⟩)] w fun e w' => ∃ (y : Nat) (r' : List Nat) (wg' : Bool), e = .returned (.int .i64 (unf y)) ∧ RdN w0 k w r wg y r' wg' w' := by
  refine (rd_s h).mono ?_
  intro e w' hh
  unfold KDu at hh
  cases hg : gu r with
  | none =>
    rw [hg] at hh
    exact ⟨0, r, true, hh.1, hh.2.1, hh.2.2, by omega, fun _ => ⟨rfl, rfl, rfl⟩, fun x m h => by rw [hg] at h; cases h⟩
  | some p =>
    obtain ⟨x, m⟩ := p
    rw [hg] at hh
    exact ⟨x, r.drop m, wg, hh.1, hh.2.1, hh.2.2, (gu_some h.bytes hg).1, (fun h => by rw [hg] at h; cases h), fun x' m' h => by rw [hg] at h; cases h; exact ⟨rfl, rfl, rfl⟩⟩
/-- Good so far, or wrong. -/
def St (wg : Bool) (rest : Option (Cm × List Nat)) (R : Option (Cm × List Nat)) (len L : Nat) : Prop := (wg = false ∧ rest = R ∧ len < L) ∨ (wg = true ∧ R = none ∧ len ≤ L)
/-- The state ahead of the letter number i. -/
structure Cst (w0 : World) (q x k : Nat) (fs : List Fd) (R : Option (Cm × List Nat)) (L i : Nat) (wr : World) (c : Cm) (vd vb : Value) (r : List Nat) (wg : Bool) : Prop where
  st : KDX w0 q x k c vd vb r wg wr
  rd : Rw .u64 23 w0 q x k vd (ns c.d) wr
  rb : Rw .i64 2 w0 q x k vb c.b wr
  nil : i < fs.length → vd = .slice none 0 0 ∧ vb = .slice none 0 0 ∧ c.d = [] ∧ c.b = []
  good : St wg (rdFs (fs.drop i) c r) R (r.length + c.d.length + c.b.length) L
def CmR (w0 : World) (q x k : Nat) (fs : List Fd) (R : Option (Cm × List Nat)) (L : Nat) (v8 : Value) (wr : World) : Prop :=
  ∃ i, i ≤ fs.length ∧ v8 = .int .i64 (i : Int) ∧ ∃ c vd vb r wg, Cst w0 q x k fs R L i wr c vd vb r wg
theorem cst_u {w0 wr w1 : World} {q x k : Nat} {fs : List Fd} {R : Option (Cm × List Nat)} {L i y : Nat} {c : Cm} {vd vb : Value} {r r' : List Nat} {wg wg' : Bool} (h : Cst w0 q x k fs R L i wr c vd vb r wg) (hi : i < fs.length) (hf : fs.getD i .u = .u) (hr : RdN w0 k wr r wg y r' wg' w1) :
    Cst w0 q x k fs R L (i + 1) (w1.setCell ⟨x, 1, none⟩ (.int .u64 (y : Int))) { c with u := y } vd vb r' wg' := by
  obtain ⟨n1, n2, n3, n4⟩ := h.nil hi
  subst n1 n2
  have hdr : fs.drop i = .u :: fs.drop (i + 1) := by rw [List.drop_eq_getElem_cons hi]; simp [hi] at hf; rw [hf]
  refine ⟨(h.st.read hr.rd hr.touch).set rfl, h.rd.nil_nil, h.rb.nil_nil, fun _ => ⟨rfl, rfl, n3, n4⟩, ?_⟩
  have hl := hr.len
  rcases h.good with ⟨e1, e2, e3⟩ | ⟨e1, e2, e3⟩
  · subst e1
    rw [hdr, rdFs] at e2
    simp only [rdF, getF] at e2
    cases hg : gu r with
    | none =>
      rw [hg] at e2
      obtain ⟨-, e5, -⟩ := hr.bad hg
      exact Or.inr ⟨e5, e2.symm, by show r'.length + c.d.length + c.b.length ≤ L; omega⟩
    | some p =>
      obtain ⟨z, m⟩ := p
      rw [hg] at e2
      obtain ⟨e4, e5, e6⟩ := hr.good z m hg
      subst e4 e5 e6
      exact Or.inl ⟨rfl, e2, by show (r.drop m).length + c.d.length + c.b.length < L; omega⟩
  · subst e1
    refine Or.inr ⟨?_, e2, by show r'.length + c.d.length + c.b.length ≤ L; omega⟩
    cases hg : gu r with
    | none => exact (hr.bad hg).2.1
    | some p => exact (hr.good p.1 p.2 hg).2.1
theorem cst_v {w0 wr w1 : World} {q x k : Nat} {fs : List Fd} {R : Option (Cm × List Nat)} {L i y : Nat} {c : Cm} {vd vb : Value} {r r' : List Nat} {wg wg' : Bool} (h : Cst w0 q x k fs R L i wr c vd vb r wg) (hi : i < fs.length) (hf : fs.getD i .u = .v) (hr : RdN w0 k wr r wg y r' wg' w1) :
    Cst w0 q x k fs R L (i + 1) (w1.setCell ⟨x, 2, none⟩ (.int .u64 (y : Int))) { c with v := y } vd vb r' wg' := by
  obtain ⟨n1, n2, n3, n4⟩ := h.nil hi
  subst n1 n2
  have hdr : fs.drop i = .v :: fs.drop (i + 1) := by rw [List.drop_eq_getElem_cons hi]; simp [hi] at hf; rw [hf]
  refine ⟨(h.st.read hr.rd hr.touch).set rfl, h.rd.nil_nil, h.rb.nil_nil, fun _ => ⟨rfl, rfl, n3, n4⟩, ?_⟩
  have hl := hr.len
  rcases h.good with ⟨e1, e2, e3⟩ | ⟨e1, e2, e3⟩
  · subst e1
    rw [hdr, rdFs] at e2
    simp only [rdF, getF] at e2
    cases hg : gu r with
    | none =>
      rw [hg] at e2
      obtain ⟨-, e5, -⟩ := hr.bad hg
      exact Or.inr ⟨e5, e2.symm, by show r'.length + c.d.length + c.b.length ≤ L; omega⟩
    | some p =>
      obtain ⟨z, m⟩ := p
      rw [hg] at e2
      obtain ⟨e4, e5, e6⟩ := hr.good z m hg
      subst e4 e5 e6
      exact Or.inl ⟨rfl, e2, by show (r.drop m).length + c.d.length + c.b.length < L; omega⟩
  · subst e1
    refine Or.inr ⟨?_, e2, by show r'.length + c.d.length + c.b.length ≤ L; omega⟩
    cases hg : gu r with
    | none => exact (hr.bad hg).2.1
    | some p => exact (hr.good p.1 p.2 hg).2.1
theorem cst_w {w0 wr w1 : World} {q x k : Nat} {fs : List Fd} {R : Option (Cm × List Nat)} {L i y : Nat} {c : Cm} {vd vb : Value} {r r' : List Nat} {wg wg' : Bool} (h : Cst w0 q x k fs R L i wr c vd vb r wg) (hi : i < fs.length) (hf : fs.getD i .u = .w) (hr : RdN w0 k wr r wg y r' wg' w1) :
    Cst w0 q x k fs R L (i + 1) (w1.setCell ⟨x, 3, none⟩ (.int .i64 (unf y))) { c with w := unf y } vd vb r' wg' := by
  obtain ⟨n1, n2, n3, n4⟩ := h.nil hi
  subst n1 n2
  have hdr : fs.drop i = .w :: fs.drop (i + 1) := by rw [List.drop_eq_getElem_cons hi]; simp [hi] at hf; rw [hf]
  refine ⟨(h.st.read hr.rd hr.touch).set rfl, h.rd.nil_nil, h.rb.nil_nil, fun _ => ⟨rfl, rfl, n3, n4⟩, ?_⟩
  have hl := hr.len
  rcases h.good with ⟨e1, e2, e3⟩ | ⟨e1, e2, e3⟩
  · subst e1
    rw [hdr, rdFs] at e2
    simp only [rdF, getF] at e2
    cases hg : gu r with
    | none =>
      rw [hg] at e2
      obtain ⟨-, e5, -⟩ := hr.bad hg
      exact Or.inr ⟨e5, e2.symm, by show r'.length + c.d.length + c.b.length ≤ L; omega⟩
    | some p =>
      obtain ⟨z, m⟩ := p
      rw [hg] at e2
      obtain ⟨e4, e5, e6⟩ := hr.good z m hg
      subst e4 e5 e6
      exact Or.inl ⟨rfl, e2, by show (r.drop m).length + c.d.length + c.b.length < L; omega⟩
  · subst e1
    refine Or.inr ⟨?_, e2, by show r'.length + c.d.length + c.b.length ≤ L; omega⟩
    cases hg : gu r with
    | none => exact (hr.bad hg).2.1
    | some p => exact (hr.good p.1 p.2 hg).2.1
theorem cst_t {w0 wr w1 : World} {q x k : Nat} {fs : List Fd} {R : Option (Cm × List Nat)} {L i y : Nat} {c : Cm} {vd vb : Value} {r r' : List Nat} {wg wg' : Bool} (h : Cst w0 q x k fs R L i wr c vd vb r wg) (hi : i < fs.length) (hf : fs.getD i .u = .t) (hr : RdN w0 k wr r wg y r' wg' w1) :
    Cst w0 q x k fs R L (i + 1) (w1.setCell ⟨x, 4, none⟩ (.int .i64 (unf y))) { c with t := unf y } vd vb r' wg' := by
  obtain ⟨n1, n2, n3, n4⟩ := h.nil hi
  subst n1 n2
  have hdr : fs.drop i = .t :: fs.drop (i + 1) := by rw [List.drop_eq_getElem_cons hi]; simp [hi] at hf; rw [hf]
  refine ⟨(h.st.read hr.rd hr.touch).set rfl, h.rd.nil_nil, h.rb.nil_nil, fun _ => ⟨rfl, rfl, n3, n4⟩, ?_⟩
  have hl := hr.len
  rcases h.good with ⟨e1, e2, e3⟩ | ⟨e1, e2, e3⟩
  · subst e1
    rw [hdr, rdFs] at e2
    simp only [rdF, getF] at e2
    cases hg : gu r with
    | none =>
      rw [hg] at e2
      obtain ⟨-, e5, -⟩ := hr.bad hg
      exact Or.inr ⟨e5, e2.symm, by show r'.length + c.d.length + c.b.length ≤ L; omega⟩
    | some p =>
      obtain ⟨z, m⟩ := p
      rw [hg] at e2
      obtain ⟨e4, e5, e6⟩ := hr.good z m hg
      subst e4 e5 e6
      exact Or.inl ⟨rfl, e2, by show (r.drop m).length + c.d.length + c.b.length < L; omega⟩
  · subst e1
    refine Or.inr ⟨?_, e2, by show r'.length + c.d.length + c.b.length ≤ L; omega⟩
    cases hg : gu r with
    | none => exact (hr.bad hg).2.1
    | some p => exact (hr.good p.1 p.2 hg).2.1
end Go.Proofs.Ythnoihdojinocaa

/- Plain: what is read was written so. -/
import Derived.Test.YthnoihdojinocaaB
namespace Go.Proofs.Ythnoihdojinocaa
set_option linter.unusedVariables false
set_option linter.unusedSimpArgs false

/-- Bytes. -/
def By (b : List Nat) : Prop := ∀ c ∈ b, c < 256
theorem By.drop {b : List Nat} (h : By b) (n : Nat) : By (b.drop n) := fun c hc => h c (List.mem_of_mem_drop hc)
theorem By.take {b : List Nat} (h : By b) (n : Nat) : By (b.take n) := fun c hc => h c (List.mem_of_mem_take hc)
theorem By.app {a b : List Nat} (h : By a) (k : By b) : By (a ++ b) := fun c hc => (List.mem_append.1 hc).elim (h c) (k c)
theorem getN_some {α : Type} {f : Nat → α} {g : α → List Nat} (hg : ∀ x, g (f x) = vi x) : ∀ (n : Nat) (r : List Nat) (l : List α) (r' : List Nat), By r → getN f n r = some (l, r') →
    l.length = n ∧ r = l.flatMap g ++ r' ∧ (∀ y ∈ l, ∃ x, x < 18446744073709551616 ∧ y = f x)
  | 0, r, l, r', _, h => by cases h; simp
  | n + 1, r, l, r', hb, h => by
    rw [getN] at h
    cases hq : gu r with
    | none => rw [hq] at h; cases h
    | some q =>
      obtain ⟨x, k⟩ := q
      rw [hq] at h
      simp only [] at h
      cases hq2 : getN f n (r.drop k) with
      | none => rw [hq2] at h; cases h
      | some q2 =>
        obtain ⟨l2, r2⟩ := q2
        rw [hq2] at h
        cases h
        obtain ⟨h1, h2, h3⟩ := getN_some hg n _ _ _ (hb.drop k) hq2
        obtain ⟨g1, g2, g3⟩ := gu_some hb hq
        refine ⟨by simp [h1], ?_, fun y hy => ?_⟩
        · rw [List.flatMap_cons, hg, List.append_assoc, ← h2]; exact g3
        · rcases List.mem_cons.1 hy with rfl | hy
          · exact ⟨x, g1, rfl⟩
          · exact h3 y hy
theorem getL_some {α : Type} {f : Nat → α} {g : α → List Nat} (hg : ∀ x, g (f x) = vi x) {most : Nat} {r : List Nat} {l : List α} {r' : List Nat} (hb : By r) (h : getL f most r = some (l, r')) :
    l.length ≤ most ∧ r = encL g l ++ r' ∧ (∀ y ∈ l, ∃ x, x < 18446744073709551616 ∧ y = f x) := by
  unfold getL at h
  cases hq : gu r with
  | none => rw [hq] at h; cases h
  | some q =>
    obtain ⟨n, k⟩ := q
    rw [hq] at h
    simp only [] at h
    split at h
    · cases h
    · rename_i hm
      obtain ⟨h1, h2, h3⟩ := getN_some hg n _ _ _ (hb.drop k) h
      obtain ⟨g1, g2, g3⟩ := gu_some hb hq
      refine ⟨by omega, ?_, h3⟩
      unfold encL
      rw [List.append_assoc, ← h2, h1]
      exact g3
/-- Two commands have the same in a field. -/
def same (c a : Cm) : Fd → Prop
  | .u => c.u = a.u | .v => c.v = a.v | .w => c.w = a.w | .t => c.t = a.t | .d => c.d = a.d | .b => c.b = a.b
theorem same_refl (c : Cm) (f : Fd) : same c c f := by cases f <;> rfl
theorem same_trans {a b c : Cm} {f : Fd} (h : same a b f) (k : same b c f) : same a c f := by
  cases f <;> simp only [same] at * <;> rw [h, k]
theorem encF_same {c a : Cm} {f : Fd} (h : same c a f) : encF c f = encF a f := by
  cases f <;> simp only [same] at h <;> simp only [encF, h]
theorem getF_some {a c : Cm} {r r' : List Nat} {f : Fd} (hb : By r) (ha : a.ok) (h : getF a r f = some (c, r')) :
    r = encF c f ++ r' ∧ (∀ e, e ≠ f → same c a e) ∧ c.op = a.op ∧ c.ok ∧ (c.d.length ≤ 16384 ∨ c.d = a.d) ∧ (c.b.length ≤ 1024 ∨ c.b = a.b) := by
  have hv : ∀ x, vf (unf x) = vi x := fun x => by unfold vf; rw [fold_unf]
  cases f <;> simp only [getF] at h
  case u =>
    cases hq : gu r with
    | none => rw [hq] at h; cases h
    | some q =>
      obtain ⟨x, k⟩ := q
      rw [hq] at h; cases h
      obtain ⟨g1, g2, g3⟩ := gu_some hb hq
      exact ⟨g3, fun e he => by cases e <;> first | exact absurd rfl he | rfl, rfl, ⟨ha.op, g1, ha.v, ha.w, ha.t, ha.d, ha.b⟩, Or.inr rfl, Or.inr rfl⟩
  case v =>
    cases hq : gu r with
    | none => rw [hq] at h; cases h
    | some q =>
      obtain ⟨x, k⟩ := q
      rw [hq] at h; cases h
      obtain ⟨g1, g2, g3⟩ := gu_some hb hq
      exact ⟨g3, fun e he => by cases e <;> first | exact absurd rfl he | rfl, rfl, ⟨ha.op, ha.u, g1, ha.w, ha.t, ha.d, ha.b⟩, Or.inr rfl, Or.inr rfl⟩
  case w =>
    cases hq : gu r with
    | none => rw [hq] at h; cases h
    | some q =>
      obtain ⟨x, k⟩ := q
      rw [hq] at h; cases h
      obtain ⟨g1, g2, g3⟩ := gu_some hb hq
      exact ⟨by simp only [encF, hv]; exact g3, fun e he => by cases e <;> first | exact absurd rfl he | rfl, rfl, ⟨ha.op, ha.u, ha.v, unf_lt g1, ha.t, ha.d, ha.b⟩, Or.inr rfl, Or.inr rfl⟩
  case t =>
    cases hq : gu r with
    | none => rw [hq] at h; cases h
    | some q =>
      obtain ⟨x, k⟩ := q
      rw [hq] at h; cases h
      obtain ⟨g1, g2, g3⟩ := gu_some hb hq
      exact ⟨by simp only [encF, hv]; exact g3, fun e he => by cases e <;> first | exact absurd rfl he | rfl, rfl, ⟨ha.op, ha.u, ha.v, ha.w, unf_lt g1, ha.d, ha.b⟩, Or.inr rfl, Or.inr rfl⟩
  case d =>
    cases hq : getL id 16384 r with
    | none => rw [hq] at h; cases h
    | some q =>
      obtain ⟨l, k⟩ := q
      rw [hq] at h; cases h
      obtain ⟨g1, g2, g3⟩ := getL_some (f := id) (g := vi) (fun _ => rfl) hb hq
      exact ⟨g2, fun e he => by cases e <;> first | exact absurd rfl he | rfl, rfl, ⟨ha.op, ha.u, ha.v, ha.w, ha.t, fun x hx => (by obtain ⟨y, h1, rfl⟩ := g3 x hx; exact h1), ha.b⟩, Or.inl g1, Or.inr rfl⟩
  case b =>
    cases hq : getL unf 1024 r with
    | none => rw [hq] at h; cases h
    | some q =>
      obtain ⟨l, k⟩ := q
      rw [hq] at h; cases h
      obtain ⟨g1, g2, g3⟩ := getL_some (f := unf) (g := vf) hv hb hq
      exact ⟨g2, fun e he => by cases e <;> first | exact absurd rfl he | rfl, rfl, ⟨ha.op, ha.u, ha.v, ha.w, ha.t, ha.d, fun x hx => (by obtain ⟨y, h1, rfl⟩ := g3 x hx; exact unf_lt h1)⟩, Or.inr rfl, Or.inl g1⟩
theorem getFs_some : ∀ (fs : List Fd) (a c : Cm) (r r' : List Nat), fs.Nodup → By r → a.ok → getFs fs a r = some (c, r') →
    r = fs.flatMap (encF c) ++ r' ∧ (∀ e, e ∉ fs → same c a e) ∧ c.op = a.op ∧ c.ok ∧ (c.d.length ≤ 16384 ∨ c.d = a.d) ∧ (c.b.length ≤ 1024 ∨ c.b = a.b)
  | [], a, c, r, r', _, _, ha, h => by
    cases h
    exact ⟨rfl, fun e _ => same_refl _ _, rfl, ha, Or.inr rfl, Or.inr rfl⟩
  | f :: fs, a, c, r, r', hn, hb, ha, h => by
    rw [getFs] at h
    cases hq : getF a r f with
    | none => rw [hq] at h; cases h
    | some q =>
      obtain ⟨c1, r1⟩ := q
      rw [hq] at h
      simp only [] at h
      obtain ⟨g1, g2, g3, g4, g5, g6⟩ := getF_some hb ha hq
      have hb1 : By r1 := fun x hx => hb x (by rw [g1]; exact List.mem_append_right _ hx)
      obtain ⟨i1, i2, i3, i4, i5, i6⟩ := getFs_some fs c1 c r1 r' (List.nodup_cons.1 hn).2 hb1 g4 h
      refine ⟨?_, fun e he => same_trans (i2 e (fun h => he (List.mem_cons_of_mem _ h))) (g2 e (fun h => he (by rw [h]; simp))), i3.trans g3, i4, ?_, ?_⟩
      · rw [List.flatMap_cons, List.append_assoc, ← i1, encF_same (i2 f (List.nodup_cons.1 hn).1)]; exact g1
      · rcases i5 with h | h
        · exact Or.inl h
        · rcases g5 with h2 | h2
          · exact Or.inl (by rw [h]; exact h2)
          · exact Or.inr (h.trans h2)
      · rcases i6 with h | h
        · exact Or.inl h
        · rcases g6 with h2 | h2
          · exact Or.inl (by rw [h]; exact h2)
          · exact Or.inr (h.trans h2)
theorem clr_same {c : Cm} {fs : List Fd} (hf : fs = [.u, .v, .w, .t] ∨ fs = [.t] ∨ fs = [.u, .v] ∨ fs = [.u] ∨ fs = [.u, .w] ∨ fs = [.w] ∨ fs = [.d] ∨ fs = [.w, .b] ∨ fs = [])
    (h : ∀ e, e ∉ fs → same c (nul c.op) e) : fs.foldl clr c = nul c.op := by
  obtain ⟨op, u, v, w, t, d, b⟩ := c
  have hu := h .u; have hv := h .v; have hw := h .w; have ht := h .t; have hd := h .d; have hb := h .b
  rcases hf with rfl | rfl | rfl | rfl | rfl | rfl | rfl | rfl | rfl <;> simp_all [clr, nul, same]
theorem cmdOf_some {p : List Nat} {c : Cm} (hb : By p) (h : cmdOf p = some c) : ∃ fs, uses c.op = some fs ∧ p = pay c fs ∧ c.ok ∧ chk c = 0 := by
  cases p with
  | nil => cases h
  | cons o r =>
    rw [cmdOf] at h
    cases hu : uses (o : Int) with
    | none => rw [hu] at h; cases h
    | some fs =>
      rw [hu] at h
      simp only [] at h
      have ho : o < 256 := hb o (by simp)
      cases hq : getFs fs (nul o) r with
      | none => rw [hq] at h; cases h
      | some q =>
        obtain ⟨c1, r1⟩ := q
        rw [hq] at h
        cases r1 with
        | cons x y => cases h
        | nil =>
          cases h
          obtain ⟨h1, h2, h3, h4, h5, h6⟩ := getFs_some fs (nul o) c r [] (uses_nodup hu) (fun x hx => hb x (by simp [hx])) (nul_ok (by omega)) hq
          have hop : c.op = (o : Int) := h3
          rw [← hop] at hu h2
          refine ⟨fs, hu, ?_, h4, ?_⟩
          · rw [List.append_nil] at h1
            unfold pay
            rw [hop, ← h1]; rfl
          · unfold chk
            rw [hu]
            simp only []
            rw [if_pos (clr_same (uses_some hu).2 h2), if_neg]
            have e1 : c.d.length ≤ 16384 := h5.elim id (fun h => by rw [h]; simp [nul])
            have e2 : c.b.length ≤ 1024 := h6.elim id (fun h => by rw [h]; simp [nul])
            omega
theorem get_some {b : List Nat} {c : Cm} {n : Nat} (hb : By b) (h : get b = some (c, n)) : c.ok ∧ chk c = 0 ∧ n = (frm c).length ∧ b = frm c ++ b.drop n ∧ n ≤ b.length ∧ 2 ≤ n := by
  unfold get at h
  cases hq : gu b with
  | none => rw [hq] at h; cases h
  | some q =>
    obtain ⟨l, k⟩ := q
    rw [hq] at h
    simp only [] at h
    split at h
    · cases h
    · rename_i hl
      cases hq2 : cmdOf ((b.drop k).take l) with
      | none => rw [hq2] at h; cases h
      | some c1 =>
        rw [hq2] at h
        cases h
        obtain ⟨g1, g2, g3⟩ := gu_some hb hq
        obtain ⟨g4, g5, _⟩ := gu_le hb hq
        obtain ⟨fs, hu, hp, hc, hk⟩ := cmdOf_some ((hb.drop k).take l) hq2
        have hpl : (pay c fs).length = l := by rw [← hp, List.length_take, List.length_drop]; omega
        have hf : frm c = vi l ++ pay c fs := by unfold frm; rw [hu]; simp only []; unfold frame; rw [hpl]
        have hfl : (frm c).length = k + l := by rw [hf, List.length_append, hpl, g2]
        refine ⟨hc, hk, hfl.symm, ?_, by omega, ?_⟩
        · rw [hf, List.append_assoc, ← hp]
          have : b.drop (k + l) = (b.drop k).drop l := by rw [List.drop_drop]
          rw [this, List.take_append_drop]; exact g3
        · have : 0 < (pay c fs).length := by unfold pay; simp
          omega
/-- No proper beginning of a frame is one. -/
theorem get_part {c : Cm} (hc : c.ok) (h : chk c = 0) {n : Nat} (hn : n < (frm c).length) (hb : By (frm c)) : get ((frm c).take n) = none := by
  cases hg : get ((frm c).take n) with
  | none => rfl
  | some q =>
    obtain ⟨c1, m⟩ := q
    exfalso
    obtain ⟨h1, h2, h3, h4, h5, h6⟩ := get_some (hb.take n) hg
    have e1 : frm c = frm c1 ++ (((frm c).take n).drop m ++ (frm c).drop n) := by
      rw [← List.append_assoc, ← h4, List.take_append_drop]
    have e2 := get_back h1 h2 (((frm c).take n).drop m ++ (frm c).drop n)
    rw [← e1] at e2
    have e3 := get_back hc h []
    rw [List.append_nil] at e3
    rw [e3] at e2
    cases e2
    rw [List.length_take] at h5
    omega
end Go.Proofs.Ythnoihdojinocaa

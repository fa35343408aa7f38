/- Plain: lists of commands as bytes. -/
import Derived.Test.YthnoihdojinocaaE
namespace Go.Proofs.Ythnoihdojinocaa
set_option linter.unusedVariables false
set_option linter.unusedSimpArgs false

/-- The commands of all frames up to the first that is none, how many bytes they have, whether all bytes are read. -/
def ga : Nat → List Nat → List Cm × Nat × Bool
  | 0, b => ([], 0, b.isEmpty)
  | k + 1, b => if b = [] then ([], 0, true) else match get b with
    | none => ([], 0, false)
    | some (c, n) => (c :: (ga k (b.drop n)).1, n + (ga k (b.drop n)).2.1, (ga k (b.drop n)).2.2)
def getAll (b : List Nat) : List Cm × Nat × Bool := ga b.length b
theorem ga_fuel : ∀ (k j : Nat) (b : List Nat), By b → b.length ≤ k → b.length ≤ j → ga k b = ga j b
  | 0, 0, b, _, _, _ => rfl
  | 0, j + 1, b, _, hk, _ => by
    have : b = [] := List.eq_nil_of_length_eq_zero (by omega)
    subst this; rfl
  | k + 1, 0, b, _, _, hj => by
    have : b = [] := List.eq_nil_of_length_eq_zero (by omega)
    subst this; rfl
  | k + 1, j + 1, b, hb, hk, hj => by
    unfold ga
    split
    · rfl
    · cases hg : get b with
      | none => rfl
      | some p =>
        obtain ⟨c, n⟩ := p
        obtain ⟨_, _, _, _, h5, h6⟩ := get_some hb hg
        have hd : (b.drop n).length ≤ k ∧ (b.drop n).length ≤ j := by rw [List.length_drop]; omega
        simp only []
        rw [ga_fuel k j (b.drop n) (hb.drop n) hd.1 hd.2]
theorem getAll_nil : getAll [] = ([], 0, true) := rfl
theorem getAll_none {b : List Nat} (hne : b ≠ []) (h : get b = none) : getAll b = ([], 0, false) := by
  unfold getAll
  cases b with
  | nil => exact absurd rfl hne
  | cons x r => show ga (r.length + 1) (x :: r) = _; rw [ga, if_neg hne, h]
theorem getAll_some {b : List Nat} {c : Cm} {n : Nat} (hb : By b) (h : get b = some (c, n)) : getAll b = (c :: (getAll (b.drop n)).1, n + (getAll (b.drop n)).2.1, (getAll (b.drop n)).2.2) := by
  obtain ⟨_, _, _, _, h5, h6⟩ := get_some hb h
  have hne : b ≠ [] := fun e => by rw [e] at h5; simp at h5; omega
  unfold getAll
  cases b with
  | nil => exact absurd rfl hne
  | cons x r =>
    show ga (r.length + 1) (x :: r) = _
    rw [ga, if_neg hne, h]
    simp only []
    have hl : ((x :: r).drop n).length ≤ r.length := by rw [List.length_drop, List.length_cons]; omega
    rw [ga_fuel r.length ((x :: r).drop n).length ((x :: r).drop n) (hb.drop n) hl (Nat.le_refl _)]
/-- Frames one after the other. -/
def frms (l : List Cm) : List Nat := l.flatMap frm
/-- The first error of a list of commands. -/
def chks : List Cm → Int
  | [] => 0
  | c :: l => if chk c = 0 then chks l else chk c
theorem frms_cons (c : Cm) (l : List Cm) : frms (c :: l) = frm c ++ frms l := by simp [frms]
theorem frms_app (l m : List Cm) : frms (l ++ m) = frms l ++ frms m := by simp [frms]
theorem chks_app : ∀ (l m : List Cm), chks (l ++ m) = if chks l = 0 then chks m else chks l
  | [], m => by simp [chks]
  | c :: l, m => by
    show (if chk c = 0 then chks (l ++ m) else chk c) = if (if chk c = 0 then chks l else chk c) = 0 then chks m else (if chk c = 0 then chks l else chk c)
    rw [chks_app l m]
    by_cases h : chk c = 0
    · rw [if_pos h, if_pos h]
    · rw [if_neg h, if_neg h, if_neg h]
theorem chks_all : ∀ {l : List Cm}, chks l = 0 → ∀ c ∈ l, chk c = 0
  | [], _, c, hc => by cases hc
  | x :: l, h, c, hc => by
    unfold chks at h
    by_cases hx : chk x = 0
    · rw [if_pos hx] at h
      rcases List.mem_cons.1 hc with e | e
      · rw [e]; exact hx
      · exact chks_all h c e
    · rw [if_neg hx] at h
      exact absurd h hx
/-- What was written is read: a list. -/
theorem getAll_frms : ∀ (l : List Cm), (∀ c ∈ l, c.ok) → chks l = 0 → By (frms l) → getAll (frms l) = (l, (frms l).length, true)
  | [], _, _, _ => rfl
  | c :: l, ho, hk, hb => by
    have h1 := chks_all hk c (by simp)
    have h2 : chks l = 0 := by unfold chks at hk; rw [if_pos h1] at hk; exact hk
    rw [frms_cons] at hb ⊢
    have hg := get_back (ho c (by simp)) h1 (frms l)
    rw [getAll_some hb hg, List.drop_left]
    rw [getAll_frms l (fun x hx => ho x (List.mem_cons_of_mem _ hx)) h2 (fun x hx => hb x (List.mem_append_right _ hx))]
    simp
/-- What is read is written as the same bytes; what is left does not begin with a frame. -/
theorem getAll_one : ∀ (k : Nat) {b : List Nat}, b.length ≤ k → By b → (∀ c ∈ (getAll b).1, c.ok ∧ chk c = 0) ∧ (getAll b).2.1 ≤ b.length ∧ frms (getAll b).1 = b.take (getAll b).2.1 ∧
    ((getAll b).2.2 = true → (getAll b).2.1 = b.length) ∧ ((getAll b).2.2 = false → (getAll b).2.1 < b.length ∧ get (b.drop (getAll b).2.1) = none)
  | k, b, hk, hb => by
    by_cases hne : b = []
    · subst hne
      rw [getAll_nil]
      exact ⟨fun c hc => (by cases hc), Nat.le_refl _, rfl, fun _ => rfl, fun h => (by cases h)⟩
    · cases hg : get b with
      | none =>
        rw [getAll_none hne hg]
        refine ⟨fun c hc => (by cases hc), Nat.zero_le _, rfl, fun h => (by cases h), fun _ => ⟨List.length_pos_iff.2 hne, hg⟩⟩
      | some p =>
        obtain ⟨c, n⟩ := p
        obtain ⟨h1, h2, h3, h4, h5, h6⟩ := get_some hb hg
        cases k with
        | zero => exact absurd (List.eq_nil_of_length_eq_zero (by omega)) hne
        | succ k =>
          obtain ⟨i1, i2, i3, i4, i5⟩ := getAll_one k (b := b.drop n) (by rw [List.length_drop]; omega) (hb.drop n)
          rw [getAll_some hb hg]
          rw [List.length_drop] at i2 i4 i5
          have hbt : b.take n = frm c := by
            conv => lhs; rw [h4]
            rw [h3, List.take_left]
          refine ⟨fun x hx => ?_, by show n + _ ≤ _; omega, ?_, fun h => ?_, fun h => ?_⟩
          · rcases List.mem_cons.1 hx with e | e
            · rw [e]; exact ⟨h1, h2⟩
            · exact i1 x e
          · rw [frms_cons, i3, List.take_add, hbt]
          · show n + _ = _
            have := i4 h; omega
          · have := i5 h
            refine ⟨by show n + _ < _; omega, ?_⟩
            rw [← List.drop_drop]; exact this.2
end Go.Proofs.Ythnoihdojinocaa

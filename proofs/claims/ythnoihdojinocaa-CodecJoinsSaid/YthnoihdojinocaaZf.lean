/- Plain: a payload as the document reads it: lists of any length, and the whole is checked behind. -/
import Derived.Test.YthnoihdojinocaaE
namespace Go.Proofs.Ythnoihdojinocaa
set_option linter.unusedVariables false
set_option linter.unusedSimpArgs false

def rdL {α : Type} (f : Nat → α) (r : List Nat) : Option (List α × List Nat) := match gu r with
  | none => none
  | some (n, k) => getN f n (r.drop k)
def rdF (c : Cm) (r : List Nat) : Fd → Option (Cm × List Nat)
  | .d => match rdL id r with | none => none | some (l, r') => some ({ c with d := l }, r')
  | .b => match rdL unf r with | none => none | some (l, r') => some ({ c with b := l }, r')
  | f => getF c r f
def rdFs : List Fd → Cm → List Nat → Option (Cm × List Nat)
  | [], c, r => some (c, r)
  | f :: fs, c, r => match rdF c r f with
    | none => none
    | some (c', r') => rdFs fs c' r'
theorem getN_short {α : Type} {f : Nat → α} : ∀ {n : Nat} {r r' : List Nat} {l : List α}, By r → getN f n r = some (l, r') → l.length = n ∧ n + r'.length ≤ r.length ∧ By r'
  | 0, r, r', l, hb, h => by cases h; exact ⟨rfl, by omega, hb⟩
  | n + 1, r, r', l, hb, h => by
    unfold getN at h
    split at h
    · cases h
    · rename_i x k hg
      split at h
      · cases h
      · rename_i l2 r2 h2
        cases h
        obtain ⟨h3, h4, h5⟩ := getN_short (hb.drop k) h2
        have := gu_le hb hg
        rw [List.length_drop] at h4
        exact ⟨by simp [h3], by omega, h5⟩
theorem rdL_of {α : Type} {f : Nat → α} {most : Nat} {r : List Nat} {p : List α × List Nat} (h : getL f most r = some p) : rdL f r = some p := by
  unfold getL at h
  unfold rdL
  split at h
  · cases h
  · rename_i n k hg
    rw [hg]
    split at h
    · cases h
    · exact h
theorem getL_of {α : Type} {f : Nat → α} {most : Nat} {r r' : List Nat} {l : List α} (hb : By r) (h : rdL f r = some (l, r')) (hl : l.length ≤ most) : getL f most r = some (l, r') := by
  unfold rdL at h
  unfold getL
  split at h
  · cases h
  · rename_i n k hg
    obtain ⟨h1, h2, _⟩ := getN_short (hb.drop k) h
    rw [hg]
    show (if most < n ∨ (r.drop k).length < n then none else getN f n (r.drop k)) = some (l, r')
    have h3 : ¬ (most < n ∨ (r.drop k).length < n) := by omega
    rw [if_neg h3]
    exact h
theorem rdF_of {c : Cm} {r : List Nat} {f : Fd} {p : Cm × List Nat} (h : getF c r f = some p) : rdF c r f = some p := by
  cases f
  case d =>
    simp only [getF] at h
    simp only [rdF]
    split at h
    · cases h
    · rename_i l r' hg
      rw [rdL_of hg]; exact h
  case b =>
    simp only [getF] at h
    simp only [rdF]
    split at h
    · cases h
    · rename_i l r' hg
      rw [rdL_of hg]; exact h
  all_goals exact h
theorem rdFs_of : ∀ {fs : List Fd} {c : Cm} {r : List Nat} {p : Cm × List Nat}, getFs fs c r = some p → rdFs fs c r = some p
  | [], _, _, _, h => h
  | f :: fs, c, r, p, h => by
    unfold getFs at h
    unfold rdFs
    split at h
    · cases h
    · rename_i c' r' hg
      rw [rdF_of hg]
      exact rdFs_of h
theorem getF_by {c c' : Cm} {r r' : List Nat} {f : Fd} (hb : By r) (h : getF c r f = some (c', r')) : f ≠ .d → f ≠ .b → By r' := by
  intro h1 h2
  cases f <;> simp only [getF] at h
  case d => exact absurd rfl h1
  case b => exact absurd rfl h2
  all_goals
    split at h
    · cases h
    · cases h; exact hb.drop _
theorem getFs_of {op : Int} {fs : List Fd} (hu : uses op = some fs) {a c : Cm} {r r' : List Nat} (hb : By r) (h : rdFs fs a r = some (c, r')) (hd : c.d.length ≤ 16384) (hbl : c.b.length ≤ 1024) : getFs fs a r = some (c, r') := by
  rcases (uses_some hu).2 with rfl | rfl | rfl | rfl | rfl | rfl | rfl | rfl | rfl
  case inr.inr.inr.inr.inr.inr.inl =>
    simp only [rdFs, rdF] at h
    simp only [getFs, getF]
    split at h
    · cases h
    · rename_i c1 r1 hg
      cases h
      split at hg
      · cases hg
      · rename_i l r2 hl
        cases hg
        rw [getL_of hb hl hd]
  case inr.inr.inr.inr.inr.inr.inr.inl =>
    simp only [rdFs, rdF] at h
    simp only [getFs]
    split at h
    · cases h
    · rename_i c1 r1 hg
      rw [hg]
      simp only []
      have hb1 := getF_by hb hg (by simp) (by simp)
      split at h
      · cases h
      · rename_i c2 r2 hg2
        cases h
        simp only [getF]
        split at hg2
        · cases hg2
        · rename_i l r3 hl
          cases hg2
          rw [getL_of hb1 hl hbl]
  all_goals exact h
/-- A payload is a command where the document's reading ends with its bytes, and the command is valid. -/
theorem cmd_rd {o : Nat} {r : List Nat} {fs : List Fd} (hu : uses (o : Int) = some fs) (hb : By (o :: r)) :
    cmdOf (o :: r) = match rdFs fs (nul o) r with | some (c, []) => (if chk c = 0 then some c else none) | _ => none := by
  have hbr : By r := fun x hx => hb x (List.mem_cons_of_mem _ hx)
  cases hg : getFs fs (nul (o : Int)) r with
  | some p =>
    obtain ⟨c, r'⟩ := p
    rw [rdFs_of hg]
    have hc : cmdOf (o :: r) = match r' with | [] => some c | _ => none := by
      simp only [cmdOf, hu, hg]
      cases r' <;> rfl
    cases r' with
    | nil =>
      obtain ⟨_, _, _, _, hk⟩ := cmdOf_some hb hc
      simp only []
      rw [if_pos hk]; exact hc
    | cons x r' => exact hc
  | none =>
    have hc : cmdOf (o :: r) = none := by simp only [cmdOf, hu, hg]
    rw [hc]
    split
    · rename_i c hr
      split
      · rename_i hk
        obtain ⟨_, _, _, hd, hbl⟩ := chk_ok hk
        rw [getFs_of hu hbr hr hd hbl] at hg
        cases hg
      · rfl
    · rfl
end Go.Proofs.Ythnoihdojinocaa

/- Plain laws on the abstract arena: what taking and giving back turn. They speak of no walk. -/
import Derived.Test.YtndiaflbagikoaaI
namespace Go.Proofs.Ytndiaflbagikoaa
open Go.RowKit

theorem next_cases {A : Ar} {k : Nat} (h : A.next = some k) : (∃ t, A.stack = k :: t) ∨ (A.stack = [] ∧ k = A.begun ∧ A.begun < A.slots) := by
  unfold Ar.next at h
  split at h
  · rename_i x t hs
    cases h
    exact Or.inl ⟨t, hs⟩
  · rename_i hs
    split at h
    · cases h; exact Or.inr ⟨hs, rfl, by assumption⟩
    · cases h
theorem pop_slots (A : Ar) : A.pop.slots = A.slots := by unfold Ar.pop; split <;> rfl
theorem next_lt {A : Ar} (hg : A.Good) {k : Nat} (h : A.next = some k) : k < A.slots := by
  rcases next_cases h with ⟨t, hs⟩ | ⟨_, rfl, h2⟩
  · have := hg.lt k (by rw [hs]; simp); have := hg.le; omega
  · exact h2
theorem next_free {A : Ar} {k : Nat} (h : A.next = some k) : A.inUse k = false := by
  rcases next_cases h with ⟨t, hs⟩ | ⟨_, rfl, h2⟩
  · simp [Ar.inUse, hs]
  · simp [Ar.inUse]
theorem pop_use {A : Ar} (hg : A.Good) {k : Nat} (h : A.next = some k) (i : Nat) : A.pop.inUse i = if i = k then true else A.inUse i := by
  obtain ⟨slots, begun, stack, times⟩ := A
  rcases next_cases h with ⟨t, hs⟩ | ⟨hs, rfl, h2⟩
  · simp only at hs; subst hs
    have hx : k < begun := hg.lt k (by simp)
    have hn := (List.nodup_cons.1 hg.nodup).1
    by_cases hi : i = k
    · subst hi; simp [Ar.pop, Ar.inUse, hx, hn]
    · rw [if_neg hi]; exact decide_eq_decide.2 (by simp [Ar.pop, hi])
  · simp only at hs; subst hs
    by_cases hi : i = k
    · subst hi; simp [Ar.pop, Ar.inUse]
    · rw [if_neg hi, Bool.eq_iff_iff]; simp [Ar.pop, Ar.inUse]; omega
theorem push_use {A : Ar} {k : Nat} (i : Nat) : (A.push k).inUse i = if i = k then false else A.inUse i := by
  by_cases hi : i = k
  · subst hi; simp [Ar.push, Ar.inUse]
  · simp [Ar.push, Ar.inUse, hi]

def tot (f : Nat → Int) : Nat → Int
  | 0 => 0
  | n + 1 => tot f n + f n
theorem tot_same {f g : Nat → Int} {n : Nat} (h : ∀ i, i < n → f i = g i) : tot f n = tot g n := by
  induction n with
  | zero => rfl
  | succ n ih => simp only [tot]; rw [ih (fun i hi => h i (by omega)), h n (by omega)]
theorem tot_tick {f g : Nat → Int} {n k : Nat} (hk : k < n) (h1 : g k = f k + 1) (h : ∀ i, i < n → i ≠ k → g i = f i) : tot g n = tot f n + 1 := by
  induction n with
  | zero => omega
  | succ n ih =>
    simp only [tot]
    by_cases e : k = n
    · subst e
      rw [tot_same (fun i hi => h i (by omega) (by omega)), h1]; omega
    · rw [ih (by omega) (fun i hi hne => h i (by omega) hne), h n (by omega) (fun e' => e e'.symm)]; omega
theorem tot_le {f : Nat → Int} {n : Nat} (h : ∀ i, i < n → 0 ≤ f i) : ∀ k, k < n → f k ≤ tot f n := by
  induction n with
  | zero => intro k hk; omega
  | succ n ih =>
    intro k hk
    have hp : 0 ≤ tot f n := by
      clear ih
      have : ∀ m, m ≤ n → 0 ≤ tot f m := by
        intro m
        induction m with
        | zero => intro _; simp [tot]
        | succ m ihm => intro hm; simp only [tot]; have := ihm (by omega); have := h m (by omega); omega
      exact this n (Nat.le_refl _)
    simp only [tot]
    by_cases e : k = n
    · subst e; omega
    · have := ih (fun i hi => h i (by omega)) k (by omega); have := h n (by omega); omega

/-- What holds of an arena of n slots after a slots were taken and f given back. -/
structure Kept (A : Ar) (n a f : Nat) : Prop where
  slots : A.slots = n
  pos : ∀ i, i < A.begun → 0 ≤ A.times i
  sum : tot A.times A.begun = a
  bal : A.begun - A.stack.length + f = a
theorem kept_fresh (n : Nat) : Kept (fresh n) n 0 0 := ⟨rfl, fun i hi => by simp [fresh] at hi, by simp [fresh, tot], by simp [fresh]⟩
theorem inc_small {t : Int} (h : 0 ≤ t) (h2 : t ≤ 1000000) : inc t = t + 1 := by
  unfold inc; exact IntWalk.u64_in _ (by omega)
theorem kept_pop {A : Ar} {n a f k : Nat} (h : Kept A n a f) (hg : A.Good) (ha : a ≤ 100000) (hk : A.next = some k) : Kept A.pop n (a + 1) f := by
  have hle := stack_le hg
  obtain ⟨slots, begun, stack, times⟩ := A
  obtain ⟨h1, h2, h3, h4⟩ := h
  simp only at h1 h2 h3 h4 hle
  rcases next_cases hk with ⟨t, hs⟩ | ⟨hs, rfl, h5⟩
  · simp only at hs; subst hs
    have hx : k < begun := hg.lt k (by simp)
    have hle2 := tot_le h2 k hx
    have ht : inc (times k) = times k + 1 := inc_small (h2 k hx) (by omega)
    refine ⟨h1, fun i hi => ?_, ?_, ?_⟩
    · simp only [Ar.pop, tick] at hi ⊢
      split
      · have := h2 k hx; omega
      · exact h2 i hi
    · simp only [Ar.pop]
      rw [tot_tick hx (g := tick times k) (f := times) (by simp [tick, ht]) (fun i _ hne => by simp [tick, hne]), h3]; omega
    · simp only [Ar.pop]; simp at hle h4 ⊢; omega
  · simp only at hs; subst hs
    refine ⟨h1, fun i hi => ?_, ?_, ?_⟩
    · simp only [Ar.pop] at hi ⊢
      split
      · omega
      · exact h2 i (by omega)
    · simp only [Ar.pop, tot]
      rw [tot_same (g := times) (fun i hi => by rw [if_neg (by omega)]), h3]; simp
    · simp only [Ar.pop]; simp at h4 ⊢; omega
theorem kept_push {A : Ar} {n a f k : Nat} (h : Kept A n a f) (hg : A.Good) (hk : A.inUse k = true) : Kept (A.push k) n a (f + 1) := by
  simp [Ar.inUse] at hk
  have := stack_lt hg hk.1 hk.2
  exact ⟨h.slots, h.pos, h.sum, by have := h.bal; simp [Ar.push]; omega⟩

/-- The flags of the slots in use. -/
def outc (A : Ar) (n : Nat) : Array Value := ((List.range n).map fun i => Value.bool (A.inUse i)).toArray
theorem outc_at {A : Ar} {n i : Nat} (h : i < n) : (outc A n)[i]? = some (.bool (A.inUse i)) := by simp [outc, h]
theorem outc_set {A A' : Ar} {n k : Nat} {b : Bool} (h : ∀ i, A'.inUse i = if i = k then b else A.inUse i) : (outc A n).setIfInBounds k (.bool b) = outc A' n := by
  apply Array.ext
  · simp [outc]
  · intro i h1 h2
    simp [outc] at h1
    rw [Array.getElem_setIfInBounds (by simpa [outc] using h1)]
    simp only [outc, List.getElem_toArray, List.getElem_map, List.getElem_range]
    rw [h i]
    by_cases e : k = i
    · subst e; simp
    · rw [if_neg e, if_neg (fun e' => e e'.symm)]
end Go.Proofs.Ytndiaflbagikoaa

/- The contracts over the abstract arena. -/
import Derived.Test.YtndiaflbagikoaaE
namespace Go.Proofs.Ytndiaflbagikoaa
open Go.ChangeShapes Go.WideShapes Go.ChangeAt Go.RowKit

theorem div_lt {A : Ar} {n k : Nat} (hl : n = (A.begun + 63) / 64) (hk : k < A.begun) : k / 64 < n := by omega
theorem sl_use {A : Ar} {k : Nat} (hk : k < A.begun) : ((A.sl k).st == 1) = A.inUse k := by
  unfold Ar.sl Ar.inUse; by_cases h : k ∈ A.stack <;> simp [hk, h]
theorem sl_st {A : Ar} {k : Nat} (hk : k < A.begun) : (A.sl k).st ≠ 0 := by
  unfold Ar.sl; by_cases h : k ∈ A.stack <;> simp [hk, h]
theorem sl_tm {A : Ar} {k : Nat} (hk : k < A.begun) : (A.sl k).tm = A.times k := by
  unfold Ar.sl; by_cases h : k ∈ A.stack <;> simp [hk, h]

theorem used_some {w : World} {b : Nat} {A : Ar} {F : Nat → Prop} (h : IsAr w b A F) (k : Nat) (hk : k < A.slots) :
    Calls Try.prog 15 #[.pointer (some ⟨b, 0, none⟩), .int .i64 k] w fun e w' => e = .returned (.bool (A.inUse k)) ∧ w = w' := by
  obtain ⟨bs, v, h1, h2, h3, _⟩ := h
  have := h3.max; have := h3.le
  by_cases hb : k < A.begun
  · rw [← sl_use hb]
    exact used_in h1 k hk hb (div_lt h2 hb) (by omega)
  · have e : A.inUse k = false := by simp [Ar.inUse, hb]
    rw [e]
    exact used_fresh h1 k hk (by omega)
theorem used_none {w : World} {b : Nat} {A : Ar} {F : Nat → Prop} (h : IsAr w b A F) (i : Int) (hi : i < 0 ∨ (A.slots : Int) ≤ i) :
    Calls Try.prog 15 #[.pointer (some ⟨b, 0, none⟩), .int .i64 i] w fun e w' => e = .returned (.bool false) ∧ w = w' := by
  obtain ⟨bs, v, h1, h2, h3, _⟩ := h
  exact used_out h1 i hi
def Ar.count (A : Ar) (k : Nat) : Int := if k < A.begun then A.times k else 0
theorem times_some {w : World} {b : Nat} {A : Ar} {F : Nat → Prop} (h : IsAr w b A F) (k : Nat) (hk : k < A.slots) :
    Calls Try.prog 19 #[.pointer (some ⟨b, 0, none⟩), .int .i64 k] w fun e w' => e = .returned (.int .u64 (A.count k)) ∧ w = w' := by
  obtain ⟨bs, v, h1, h2, h3, _⟩ := h
  have := h3.max; have := h3.le
  by_cases hb : k < A.begun
  · have e : A.count k = (A.sl k).tm := by rw [sl_tm hb]; simp [Ar.count, hb]
    rw [e]
    exact times_in h1 k hk hb (div_lt h2 hb) (by omega) (sl_st hb)
  · have e : A.count k = 0 := by simp [Ar.count, hb]
    rw [e]
    exact times_fresh h1 k hk (by omega)
theorem times_none {w : World} {b : Nat} {A : Ar} {F : Nat → Prop} (h : IsAr w b A F) (i : Int) (hi : i < 0 ∨ (A.slots : Int) ≤ i) :
    Calls Try.prog 19 #[.pointer (some ⟨b, 0, none⟩), .int .i64 i] w fun e w' => e = .returned (.int .u64 0) ∧ w = w' := by
  obtain ⟨bs, v, h1, h2, h3, _⟩ := h
  exact times_out h1 i hi
theorem next_some {w : World} {b : Nat} {A : Ar} {F : Nat → Prop} (h : IsAr w b A F) (k : Nat) (hk : A.next = some k) :
    Calls Try.prog 17 #[.pointer (some ⟨b, 0, none⟩)] w fun e w' => e = .returned (.tuple #[.int .i64 k, .bool true]) ∧ Below w.heap.size w w' := by
  obtain ⟨bs, v, h1, h2, h3, _⟩ := h
  obtain ⟨slots, begun, stack, times⟩ := A
  cases stack with
  | nil =>
    simp only [Ar.next] at hk
    split at hk
    · cases hk; exact next_fresh h1 (by assumption)
    · cases hk
  | cons x t =>
    simp only [Ar.next] at hk
    cases hk
    exact (next_last h1 (by simp [hd])).mono fun e w' ⟨he, hw⟩ => ⟨he, hw ▸ Below.refl _ _⟩
theorem next_none {w : World} {b : Nat} {A : Ar} {F : Nat → Prop} (h : IsAr w b A F) (hk : A.next = none) :
    Calls Try.prog 17 #[.pointer (some ⟨b, 0, none⟩)] w fun e w' => e = .returned (.tuple #[.int .i64 0, .bool false]) ∧ Below w.heap.size w w' := by
  obtain ⟨bs, v, h1, h2, h3, _⟩ := h
  obtain ⟨slots, begun, stack, times⟩ := A
  cases stack with
  | nil =>
    simp only [Ar.next] at hk
    split at hk
    · cases hk
    · exact next_full h1 (by assumption)
  | cons x t => simp [Ar.next] at hk
theorem len_is {w : World} {b : Nat} {A : Ar} {F : Nat → Prop} (h : IsAr w b A F) :
    Calls Try.prog 20 #[.pointer (some ⟨b, 0, none⟩)] w fun e w' => e = .returned (.int .i64 ((A.begun - A.stack.length : Nat) : Int)) ∧ w = w' := by
  obtain ⟨bs, v, h1, h2, h3, _⟩ := h
  exact len_any h1
theorem cap_is {w : World} {b : Nat} {A : Ar} {F : Nat → Prop} (h : IsAr w b A F) :
    Calls Try.prog 25 #[.pointer (some ⟨b, 0, none⟩)] w fun e w' => e = .returned (.int .i64 A.slots) ∧ w = w' := by
  obtain ⟨bs, v, h1, h2, h3, _⟩ := h
  exact cap_any h1

theorem nextOf_cons {x k : Nat} {t : List Nat} (h : k ≠ x) : nextOf (x :: t) k = nextOf t k := by simp [nextOf, h]
/-- A slot is taken again. -/
theorem pop_sl {A : Ar} {x : Nat} {t : List Nat} (hA : A.Good) (hs : A.stack = x :: t) : A.pop.sl = upd A.sl x ⟨1, -1, inc (A.sl x).tm⟩ := by
  obtain ⟨slots, begun, stack, times⟩ := A
  simp only at hs; subst hs
  have hx : x < begun := hA.lt x (by simp)
  have hxt : x ∉ t := (List.nodup_cons.1 hA.nodup).1
  funext k
  unfold upd
  by_cases hk : k = x
  · subst hk
    rw [if_pos rfl]
    simp [Ar.sl, Ar.pop, hx, hxt, tick]
  · rw [if_neg hk]
    simp only [Ar.sl, Ar.pop, tick, if_neg hk]
    by_cases hb : k < begun
    · simp only [if_pos hb, List.mem_cons, hk, false_or]
      by_cases hm : k ∈ t
      · rw [if_pos hm, if_pos hm, nextOf_cons hk]
      · rw [if_neg hm, if_neg hm]
    · simp [hb]
theorem pop_af {A : Ar} {x : Nat} {t : List Nat} (hA : A.Good) (hs : A.stack = x :: t) : (A.sl x).af = hd t := by
  obtain ⟨slots, begun, stack, times⟩ := A
  simp only at hs; subst hs
  have hx : x < begun := hA.lt x (by simp)
  simp [Ar.sl, hx, nextOf]
theorem grow_sl {A : Ar} (hs : A.stack = []) : A.pop.sl = upd A.sl A.begun ⟨1, -1, inc (A.sl A.begun).tm⟩ := by
  obtain ⟨slots, begun, stack, times⟩ := A
  simp only at hs; subst hs
  funext k
  unfold upd
  by_cases hk : k = begun
  · subst hk
    rw [if_pos rfl]
    simp [Ar.sl, Ar.pop, inc]
    decide
  · rw [if_neg hk]
    simp only [Ar.sl, Ar.pop, if_neg hk]
    by_cases hb : k < begun
    · simp [hb, show k < begun + 1 from by omega]
    · simp [hb, show ¬ k < begun + 1 from by omega]
theorem push_sl {A : Ar} {k : Nat} (hk : k < A.begun) (hn : k ∉ A.stack) : (A.push k).sl = upd A.sl k ⟨2, hd A.stack, (A.sl k).tm⟩ := by
  obtain ⟨slots, begun, stack, times⟩ := A
  simp only at hk hn
  funext n
  unfold upd
  by_cases hnk : n = k
  · subst hnk
    rw [if_pos rfl]
    simp [Ar.sl, Ar.push, hk, hn, nextOf]
  · rw [if_neg hnk]
    simp only [Ar.sl, Ar.push]
    by_cases hb : n < begun
    · simp only [if_pos hb, List.mem_cons, hnk, false_or]
      by_cases hm : n ∈ stack
      · rw [if_pos hm, if_pos hm, nextOf_cons hnk]
      · rw [if_neg hm, if_neg hm]
    · simp [hb]
theorem pop_good {A : Ar} {k : Nat} (h : A.Good) (hk : A.next = some k) : A.pop.Good := by
  obtain ⟨slots, begun, stack, times⟩ := A
  obtain ⟨h1, h2, h3, h4⟩ := h
  cases stack with
  | nil =>
    simp only [Ar.next] at hk
    split at hk
    · exact ⟨by simp [Ar.pop]; assumption, h2, by simp [Ar.pop], by simp [Ar.pop]⟩
    · cases hk
  | cons x t => exact ⟨h1, h2, (List.nodup_cons.1 h3).2, fun y hy => h4 y (List.mem_cons_of_mem _ hy)⟩
theorem push_good {A : Ar} {k : Nat} (h : A.Good) (hk : A.inUse k = true) : (A.push k).Good := by
  simp [Ar.inUse] at hk
  exact ⟨h.le, h.max, List.nodup_cons.2 ⟨hk.2, h.nodup⟩, fun y hy => by
    rcases List.mem_cons.1 hy with e | e
    · subst e; exact hk.1
    · exact h.lt y e⟩

theorem alloc_none {w : World} {b : Nat} {A : Ar} {F : Nat → Prop} (h : IsAr w b A F) (hk : A.next = none) :
    Calls Try.prog 18 #[.pointer (some ⟨b, 0, none⟩)] w fun e w' => e = .returned (.tuple #[.int .i64 0, .int .i64 4]) ∧ Below w.heap.size w w' := by
  obtain ⟨bs, v, h1, h2, h3, _⟩ := h
  obtain ⟨slots, begun, stack, times⟩ := A
  cases stack with
  | nil =>
    simp only [Ar.next] at hk
    split at hk
    · cases hk
    · exact alloc_full h1 (by assumption)
  | cons x t => simp [Ar.next] at hk
theorem alloc_some {w : World} {b : Nat} {A : Ar} {F : Nat → Prop} (h : IsAr w b A F) (k : Nat) (hk : A.next = some k) :
    Calls Try.prog 18 #[.pointer (some ⟨b, 0, none⟩)] w fun e w' => e = .returned (.tuple #[.int .i64 k, .int .i64 0]) ∧ IsAr w' b A.pop (fun n => F n ∨ w.heap.size ≤ n) ∧ Touch F w w' := by
  have hg := pop_good h.good hk
  obtain ⟨bs, v, h1, h2, h3, h4⟩ := h
  have := h3.max; have := h3.le
  cases hs : A.stack with
  | nil =>
    have hlt : A.begun < A.slots := by
      unfold Ar.next at hk; rw [hs] at hk; simp only at hk; split at hk
      · assumption
      · cases hk
    have hkb : k = A.begun := by
      unfold Ar.next at hk; rw [hs] at hk; simp only at hk; rw [if_pos hlt] at hk; exact (Option.some.inj hk).symm
    subst hkb
    have e1 : A.pop.slots = A.slots := by unfold Ar.pop; rw [hs]
    have e2 : A.pop.begun = A.begun + 1 := by unfold Ar.pop; rw [hs]
    have e3 : A.pop.stack = [] := by unfold Ar.pop; rw [hs]
    have e4 := grow_sl hs
    rw [hs] at h1
    by_cases h64 : A.begun % 64 = 0
    · refine (alloc_grow h1 (fun n hn => by simp [Ar.sl, show ¬ n < A.begun from by omega]) hlt (by omega) h64 (by omega) (by simp; omega)).mono ?_
      rintro e w' ⟨he, ⟨B, v', hm, hf⟩, ht⟩
      refine ⟨he, ⟨_, _, ?_, ?_, hg, fun n hn => (hf n hn).imp (h4 n) id⟩, ht.mono (fun n _ hn => h4 n hn)⟩
      · rw [e1, e2, e3, e4]; simpa [hd] using hm
      · rw [e2]; simp; omega
    · refine (alloc_fresh h1 hlt (by omega) h64 (by omega) (by simp; omega)).mono ?_
      rintro e w' ⟨he, hm, ht⟩
      refine ⟨he, ⟨_, _, ?_, ?_, hg, fun n hn => Or.inl (h4 n hn)⟩, ht.mono (fun n _ hn => h4 n hn)⟩
      · rw [e1, e2, e3, e4]; simpa [hd] using hm
      · rw [e2]; omega
  | cons x t =>
    have hkx : k = x := by
      unfold Ar.next at hk; rw [hs] at hk; cases hk; rfl
    subst hkx
    have e1 : A.pop.slots = A.slots := by unfold Ar.pop; rw [hs]
    have e2 : A.pop.begun = A.begun := by unfold Ar.pop; rw [hs]
    have e3 : A.pop.stack = t := by unfold Ar.pop; rw [hs]
    have e4 := pop_sl h3 hs
    have e5 := pop_af h3 hs
    have hxb := h3.lt k (by rw [hs]; simp)
    have hle := stack_le h3
    rw [hs] at h1 hle
    simp at hle
    refine (alloc_pop k h1 (div_lt h2 hxb) (by omega) (by omega)).mono ?_
    rintro e w' ⟨he, hm, ht⟩
    refine ⟨he, ⟨_, _, ?_, ?_, hg, fun n hn => Or.inl (h4 n hn)⟩, ht.mono (fun n _ hn => h4 n hn)⟩
    · rw [e1, e2, e3, e4, ← e5]
      rw [show A.begun - (k :: t).length + 1 = A.begun - t.length by simp; omega] at hm
      exact hm
    · rw [e2]; exact h2
theorem free_some {w : World} {b : Nat} {A : Ar} {F : Nat → Prop} (h : IsAr w b A F) (k : Nat) (hk : A.inUse k = true) :
    Calls Try.prog 16 #[.pointer (some ⟨b, 0, none⟩), .int .i64 k] w fun e w' => e = .returned (.int .i64 0) ∧ IsAr w' b (A.push k) F ∧ Touch F w w' := by
  have hg := push_good h.good hk
  obtain ⟨bs, v, h1, h2, h3, h4⟩ := h
  have := h3.max; have := h3.le
  have hu := hk
  simp [Ar.inUse] at hu
  have hst : (A.sl k).st = 1 := by have := (sl_use hu.1).trans hk; exact beq_iff_eq.1 this
  have hlt := stack_lt h3 hu.1 hu.2
  refine (free_in h1 k (by omega) hu.1 (div_lt h2 hu.1) (by omega) hst (by omega) (by omega)).mono ?_
  rintro e w' ⟨he, hm, ht⟩
  refine ⟨he, ⟨_, _, ?_, h2, hg, h4⟩, ht.mono (fun n _ hn => h4 n hn)⟩
  rw [push_sl hu.1 hu.2]
  show ArM w' b bs v A.slots A.begun (A.begun - (k :: A.stack).length) k _
  rw [show A.begun - (k :: A.stack).length = A.begun - A.stack.length - 1 by simp; omega]
  exact hm
theorem free_none {w : World} {b : Nat} {A : Ar} {F : Nat → Prop} (h : IsAr w b A F) (k : Nat) (hs : k < A.slots) (hk : A.inUse k = false) :
    Calls Try.prog 16 #[.pointer (some ⟨b, 0, none⟩), .int .i64 k] w fun e w' => e = .returned (.int .i64 5) ∧ w = w' := by
  obtain ⟨bs, v, h1, h2, h3, h4⟩ := h
  have := h3.max; have := h3.le
  by_cases hb : k < A.begun
  · exact free_not h1 k hs hb (div_lt h2 hb) (by omega) (by have := sl_use hb; rw [hk] at this; simpa using this)
  · exact free_fresh h1 k hs (by omega)
theorem free_far {w : World} {b : Nat} {A : Ar} {F : Nat → Prop} (h : IsAr w b A F) (i : Int) (hi : i < 0 ∨ (A.slots : Int) ≤ i) :
    Calls Try.prog 16 #[.pointer (some ⟨b, 0, none⟩), .int .i64 i] w fun e w' => e = .returned (.int .i64 3) ∧ w = w' := by
  obtain ⟨bs, v, h1, h2, h3, h4⟩ := h
  exact free_out h1 i hi

/-- A new arena. -/
def fresh (n : Nat) : Ar := ⟨n, 0, [], fun _ => 0⟩
theorem new_is (n : Nat) (w : World) (h : n ≤ 65536) :
    Calls Try.prog 22 #[.int .i64 n] w fun e w' => e = .returned (.tuple #[.pointer (some ⟨w.heap.size, 0, none⟩), .int .i64 0]) ∧ IsAr w' w.heap.size (fresh n) (fun k => k = w.heap.size) ∧ Below w.heap.size w w' ∧ w'.heap.size = w.heap.size + 1 := by
  refine (new_yes n w (by omega) (by omega)).mono ?_
  rintro e w' ⟨he, rfl⟩
  refine ⟨he, ⟨[], .slice none 0 0, ⟨?_, World.ownsRow_nil _ _ _ _, ?_, by simp, by simp, by simp [Value.ownBlock], by simp⟩, by simp [fresh], ⟨Nat.zero_le _, h, by simp [fresh], by simp [fresh]⟩, ?_⟩, Below.alloc (Below.refl _ _) (Nat.le_refl _) _, by simp⟩
  · exact block_new _ _
  · intro j hj; simp at hj
  · intro k hk
    rcases hk with hk | hk | hk
    · exact hk
    · simp at hk
    · simp [Value.ownBlock] at hk
end Go.Proofs.Ytndiaflbagikoaa

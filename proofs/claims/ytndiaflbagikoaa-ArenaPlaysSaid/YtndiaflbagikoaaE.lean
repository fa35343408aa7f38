/- The abstract arena: how many slots, how many have been in use, the returned ones (the last one first), how often each was taken; and the contracts over it. -/
import Derived.Test.YtndiaflbagikoaaC
import Derived.Test.YtndiaflbagikoaaD
namespace Go.Proofs.Ytndiaflbagikoaa
open Go.ChangeShapes Go.WideShapes Go.ChangeAt Go.RowKit

structure Ar where
  slots : Nat
  begun : Nat
  stack : List Nat
  times : Nat → Int
def hd : List Nat → Int
  | [] => -1
  | x :: _ => x
def nextOf : List Nat → Nat → Int
  | [], _ => -1
  | x :: t, k => if k = x then hd t else nextOf t k
/-- The record of a slot. -/
def Ar.sl (A : Ar) (k : Nat) : Sl := if k < A.begun then (if k ∈ A.stack then ⟨2, nextOf A.stack k, A.times k⟩ else ⟨1, -1, A.times k⟩) else ⟨0, 0, 0⟩
structure Ar.Good (A : Ar) : Prop where
  le : A.begun ≤ A.slots
  max : A.slots ≤ 65536
  nodup : A.stack.Nodup
  lt : ∀ x ∈ A.stack, x < A.begun
def tick (t : Nat → Int) (k n : Nat) : Int := if n = k then inc (t k) else t n
def Ar.next (A : Ar) : Option Nat := match A.stack with
  | x :: _ => some x
  | [] => if A.begun < A.slots then some A.begun else none
/-- What Alloc leaves: of a returned slot, of a fresh one (whose count is 0). -/
def Ar.pop (A : Ar) : Ar := match A.stack with
  | x :: t => { A with stack := t, times := tick A.times x }
  | [] => { A with begun := A.begun + 1, times := fun n => if n = A.begun then 1 else A.times n }
def Ar.push (A : Ar) (k : Nat) : Ar := { A with stack := k :: A.stack }
def Ar.inUse (A : Ar) (k : Nat) : Bool := decide (k < A.begun ∧ k ∉ A.stack)

theorem nodup_le : ∀ (n : Nat) (l : List Nat), l.Nodup → (∀ x ∈ l, x < n) → l.length ≤ n
  | 0, l, _, h => by
    cases l with
    | nil => simp
    | cons x t => exact absurd (h x (by simp)) (by omega)
  | n + 1, l, hn, h => by
    have h1 : (l.erase n).length ≤ n := nodup_le n (l.erase n) (hn.erase n) (fun x hx => by
      have e := (hn.mem_erase_iff).1 hx
      have := h x e.2
      have := e.1
      omega)
    by_cases hm : n ∈ l
    · rw [List.length_erase_of_mem hm] at h1; omega
    · rw [List.erase_of_not_mem hm] at h1; omega
theorem stack_le {A : Ar} (h : A.Good) : A.stack.length ≤ A.begun := by
  exact nodup_le _ _ h.nodup h.lt
theorem stack_lt {A : Ar} (h : A.Good) {k : Nat} (hk : k < A.begun) (hn : k ∉ A.stack) : A.stack.length < A.begun := by
  have := nodup_le A.begun (k :: A.stack) (List.nodup_cons.2 ⟨hn, h.nodup⟩) (fun x hx => by
    rcases List.mem_cons.1 hx with e | e
    · subst e; exact hk
    · exact h.lt x e)
  simp at this; omega

/-- An arena in memory, in an abstract state; all of its blocks are in F. -/
def IsAr (w : World) (b : Nat) (A : Ar) (F : Nat → Prop) : Prop :=
  ∃ bs v, ArM w b bs v A.slots A.begun (A.begun - A.stack.length) (hd A.stack) A.sl ∧ bs.length = (A.begun + 63) / 64 ∧ A.Good ∧ ∀ k, Foot b bs v k → F k
theorem IsAr.mono {w : World} {b : Nat} {A : Ar} {F G : Nat → Prop} (h : IsAr w b A F) (hg : ∀ k, k < w.heap.size → F k → G k) : IsAr w b A G := by
  obtain ⟨bs, v, h1, h2, h3, h4⟩ := h
  refine ⟨bs, v, h1, h2, h3, fun k hk => hg k ?_ (h4 k hk)⟩
  rcases hk with hk | hk | hk
  · subst hk; exact lt_of_block h1.head
  · obtain ⟨j, hj, rfl⟩ := List.getElem_of_mem hk
    exact lt_of_block (h1.blk j hj)
  · exact own_lt h1.row hk
theorem IsAr.keep {w w' : World} {b : Nat} {A : Ar} {F S : Nat → Prop} (h : IsAr w b A F) (ht : Touch S w w') (hs : ∀ k, F k → ¬ S k) : IsAr w' b A F := by
  obtain ⟨bs, v, h1, h2, h3, h4⟩ := h
  exact ⟨bs, v, h1.keep ht (fun k hk => hs k (h4 k hk)), h2, h3, h4⟩
theorem IsAr.good {w : World} {b : Nat} {A : Ar} {F : Nat → Prop} (h : IsAr w b A F) : A.Good := let ⟨_, _, _, _, h3, _⟩ := h; h3
end Go.Proofs.Ytndiaflbagikoaa

/- Blocks told apart by whom they belong to (a number for each block); rows of numbers of the call's own. -/
import Derived.Test.YtndiaflbagikoaaQ
namespace Go.Proofs.Ytndiaflbagikoaa
open Go.ChangeShapes Go.WideShapes Go.ChangeAt Go.RowKit

/-- The owners after the blocks from N on went to i. -/
def newc (col : Nat → Nat) (N i k : Nat) : Nat := if k < N then col k else i
theorem newc_old {col : Nat → Nat} {N i k : Nat} (h : k < N) : newc col N i k = col k := by simp [newc, h]
theorem newc_new {col : Nat → Nat} {N i k : Nat} (h : N ≤ k) : newc col N i k = i := by simp [newc, Nat.not_lt.2 h]
/-- The blocks below B belong to nobody. -/
def Free (col : Nat → Nat) (B : Nat) : Prop := ∀ k, k < B → col k = 0
theorem Free.newc {col : Nat → Nat} {B N i : Nat} (h : Free col B) (hN : B ≤ N) : Free (newc col N i) B := fun k hk => by rw [newc_old (Nat.lt_of_lt_of_le hk hN)]; exact h k hk
theorem IsAr.newc {w : World} {b : Nat} {A : Ar} {col : Nat → Nat} {j : Nat} (h : IsAr w b A (col · = j)) (i : Nat) : IsAr w b A (newc col w.heap.size i · = j) :=
  h.mono (fun k hk hF => by rw [newc_old hk]; exact hF)
theorem Touch.free {col : Nat → Nat} {i : Nat} {w w' : World} {B : Nat} (h : Touch (col · = i) w w') (hi : i ≠ 0) (hf : Free col B) (hB : B ≤ w.heap.size) : Below B w w' :=
  h.below hB (fun k hk e => hi (by rw [← e]; exact hf k hk))
theorem IsAr.other {w w' : World} {b : Nat} {A : Ar} {col : Nat → Nat} {i j : Nat} (h : IsAr w b A (col · = j)) (ht : Touch (col · = i) w w') (hij : i ≠ j) : IsAr w' b A (col · = j) :=
  h.keep ht (fun k e e' => hij (e'.symm.trans e))
theorem alloc_col {w : World} {b : Nat} {A : Ar} {col : Nat → Nat} {i : Nat} (h : IsAr w b A (col · = i)) (k : Nat) (hk : A.next = some k) :
    Calls Try.prog 18 #[.pointer (some ⟨b, 0, none⟩)] w fun e w' => e = .returned (.tuple #[.int .i64 k, .int .i64 0]) ∧ IsAr w' b A.pop (newc col w.heap.size i · = i) ∧ Touch (col · = i) w w' :=
  (alloc_some h k hk).mono fun _ _ ⟨he, hi, ht⟩ => ⟨he, hi.mono (fun n _ hn => by
    by_cases hlt : n < w.heap.size
    · rw [newc_old hlt]; exact hn.elim id (fun h => by omega)
    · exact newc_new (by omega)), ht⟩

/-- A slice of numbers that belongs to j. -/
structure OwnInts (w : World) (a : Option Addr) (len cap : Nat) (zs : List Int) (col : Nat → Nat) (j : Nat) : Prop where
  ints : IsInts .i64 w a len cap zs
  col : zs ≠ [] → ∀ x, a = some x → col x.block = j
theorem IsInts.keep' {S : Nat → Prop} {k : IntKind} {w w' : World} {a : Option Addr} {len cap : Nat} {zs : List Int} (h : IsInts k w a len cap zs) (ht : Touch S w w') (hs : zs ≠ [] → ∀ x, a = some x → ¬ S x.block) : IsInts k w' a len cap zs := by
  by_cases hne : zs = []
  · obtain ⟨h1, h2, h3, h4, h5⟩ := h
    exact ⟨h1, h2, h3, fun h => absurd hne h, h5⟩
  · exact h.keep ht (hs hne)
theorem OwnInts.other {w w' : World} {a : Option Addr} {len cap : Nat} {zs : List Int} {col : Nat → Nat} {i j : Nat} (h : OwnInts w a len cap zs col j) (ht : Touch (col · = i) w w') (hij : i ≠ j) : OwnInts w' a len cap zs col j :=
  ⟨h.ints.keep' ht (fun hne x hx e => hij (e.symm.trans (h.col hne x hx))), h.col⟩
theorem OwnInts.newc {w : World} {a : Option Addr} {len cap : Nat} {zs : List Int} {col : Nat → Nat} {j : Nat} (h : OwnInts w a len cap zs col j) (i : Nat) : OwnInts w a len cap zs (newc col w.heap.size i) j :=
  ⟨h.ints, fun hne x hx => by
    obtain ⟨b, off, rfl, hb, _⟩ := h.ints.at_ hne
    cases hx
    rw [newc_old hb]; exact h.col hne _ rfl⟩
theorem OwnInts.below {w w' : World} {a : Option Addr} {len cap : Nat} {zs : List Int} {col : Nat → Nat} {j : Nat} (h : OwnInts w a len cap zs col j) (hb : Below w.heap.size w w') : OwnInts w' a len cap zs col j := ⟨h.ints.below hb, h.col⟩

/-- A row of numbers that the call appends to; it belongs to j. -/
structure OwnRow (w : World) (v : Value) (xs : List Nat) (col : Nat → Nat) (j : Nat) : Prop where
  row : w.ownsRow 0 3 1 v xs.length (xs.map cellN)
  col : ∀ g, v.ownBlock = some g → col g = j
theorem OwnRow.nil (w : World) (col : Nat → Nat) (j : Nat) : OwnRow w (.slice none 0 0) [] col j := ⟨World.ownsRow_nil _ _ _ _, fun g h => by cases h⟩
theorem OwnRow.other {w w' : World} {v : Value} {xs : List Nat} {col : Nat → Nat} {i j : Nat} (h : OwnRow w v xs col j) (ht : Touch (col · = i) w w') (hij : i ≠ j) : OwnRow w' v xs col j :=
  ⟨ownsRow_touch h.row ht (fun k hk e => hij (e.symm.trans (h.col k hk))), h.col⟩
theorem OwnRow.newc {w : World} {v : Value} {xs : List Nat} {col : Nat → Nat} {j : Nat} (h : OwnRow w v xs col j) (i : Nat) : OwnRow w v xs (newc col w.heap.size i) j :=
  ⟨h.row, fun g hg => by rw [newc_old (own_lt h.row hg)]; exact h.col g hg⟩
theorem OwnRow.below {w w' : World} {v : Value} {xs : List Nat} {col : Nat → Nat} {j : Nat} (h : OwnRow w v xs col j) (hb : Below w.heap.size w w') : OwnRow w' v xs col j :=
  ⟨ownsRow_touch h.row (Touch.of_below hb (fun _ => False)) (fun _ _ h => h), h.col⟩
/-- After one number was appended. -/
theorem OwnRow.push {w w' : World} {v v' : Value} {xs : List Nat} {x : Nat} {col : Nat → Nat} {j : Nat} {o : Obj} (h : OwnRow w v xs col j) (ho : w'.ownsRow 0 3 1 v' (xs.length + 1) (xs.map cellN ++ [cellN x])) (hg : (w.alloc o).grownBy w' v.ownBlock)
    (hn : ∀ g, v'.ownBlock = some g → v.ownBlock = some g ∨ w.heap.size + 1 ≤ g) : OwnRow w' v' (xs ++ [x]) (Go.Proofs.Ytndiaflbagikoaa.newc col w.heap.size j) j ∧ Touch (col · = j) w w' := by
  refine ⟨⟨by simpa using ho, fun g hg' => ?_⟩, ((Touch.refl _ _).alloc o).grown hg (fun k hk _ => h.col k hk)⟩
  rcases hn g hg' with e | e
  · rw [newc_old (own_lt h.row e)]; exact h.col g e
  · exact newc_new (by omega)
/-- The row as a slice of numbers. -/
theorem OwnRow.ints {w : World} {v : Value} {xs : List Nat} {col : Nat → Nat} {j : Nat} (h : OwnRow w v xs col j) (hx : ∀ x ∈ xs, x ≤ 65536) :
    ∃ a cap, v = .slice a xs.length cap ∧ OwnInts w a xs.length cap (xs.map fun (x : Nat) => (x : Int)) col j := by
  obtain ⟨a, cap, hv, hi, _⟩ := ints_of_own h.row hx
  refine ⟨a, cap, hv, hi, fun hne x hx => ?_⟩
  subst hx
  obtain ⟨b, off, e, _⟩ := hi.at_ hne
  cases e
  exact h.col b (by
    rcases h.row.2 with ⟨e, _⟩ | ⟨g, c, cur, e, _⟩
    · rw [hv] at e; cases e
    · rw [hv] at e; cases e; rw [hv]; rfl)
/-- What belongs to j, after i was turned and grew. -/
theorem IsAr.after {w w' : World} {b : Nat} {A : Ar} {col : Nat → Nat} {i j : Nat} (h : IsAr w b A (col · = j)) (ht : Touch (col · = i) w w') (hij : i ≠ j) : IsAr w' b A (Go.Proofs.Ytndiaflbagikoaa.newc col w.heap.size i · = j) :=
  (h.newc i).keep ht (fun k e e' => by
    by_cases hk : k < w.heap.size
    · rw [newc_old hk] at e; exact hij (e'.symm.trans e)
    · rw [newc_new (by omega)] at e; exact hij e)
theorem OwnInts.after {w w' : World} {a : Option Addr} {len cap : Nat} {zs : List Int} {col : Nat → Nat} {i j : Nat} (h : OwnInts w a len cap zs col j) (ht : Touch (col · = i) w w') (hij : i ≠ j) : OwnInts w' a len cap zs (Go.Proofs.Ytndiaflbagikoaa.newc col w.heap.size i) j := ⟨(h.other ht hij).ints, (h.newc i).col⟩
theorem OwnRow.after {w w' : World} {v : Value} {xs : List Nat} {col : Nat → Nat} {i j : Nat} (h : OwnRow w v xs col j) (ht : Touch (col · = i) w w') (hij : i ≠ j) : OwnRow w' v xs (Go.Proofs.Ytndiaflbagikoaa.newc col w.heap.size i) j := ⟨(h.other ht hij).row, (h.newc i).col⟩
/-- The list of a copy or of the arena itself. -/
theorem list_col {w : World} {b : Nat} {A : Ar} {F : Nat → Prop} (h : IsAr w b A F) (col : Nat → Nat) (j : Nat) :
    Calls Try.prog 21 #[.pointer (some ⟨b, 0, none⟩)] w fun e w' => ∃ a cap, e = .returned (.slice a A.list.length cap) ∧ OwnInts w' a A.list.length cap (A.list.map fun (x : Nat) => (x : Int)) (newc col w.heap.size j) j ∧ Below w.heap.size w w' := by
  refine (list_is h).mono ?_
  rintro e w' ⟨a, cap, rfl, hin, hf, hb⟩
  refine ⟨a, cap, rfl, ⟨hin, fun _ x hx => ?_⟩, hb⟩
  obtain ⟨g, o, s⟩ := x
  exact newc_new (hf g o s hx).1
end Go.Proofs.Ytndiaflbagikoaa

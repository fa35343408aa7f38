/- The arena beside other blocks of the call's own; works. -/
import Derived.Test.YtndiaflbagikoaaF
namespace Go.Proofs.Ytndiaflbagikoaa
open Go.ChangeShapes Go.WideShapes Go.ChangeAt Go.RowKit

/-- The blocks from B on, but for X. -/
def Own (B : Nat) (X : List Nat) (n : Nat) : Prop := B ≤ n ∧ n ∉ X
theorem Touch.own_below {B : Nat} {X : List Nat} {w w' : World} (h : Touch (Own B X) w w') (hB : B ≤ w.heap.size) : Below B w w' := h.below hB (fun k hk hs => absurd hs.1 (by omega))
theorem Touch.own_keep {B : Nat} {X : List Nat} {w w' : World} {x : Nat} {o : Obj} (h : Touch (Own B X) w w') (hx : x ∈ X) (hb : w.heap[x]? = some o) : w'.heap[x]? = some o := h.keep hb (fun hs => hs.2 hx)
theorem alloc_own {w : World} {b : Nat} {A : Ar} {B : Nat} {X : List Nat} (h : IsAr w b A (Own B X)) (hB : B ≤ w.heap.size) (hX : ∀ x ∈ X, x < w.heap.size) (k : Nat) (hk : A.next = some k) :
    Calls Try.prog 18 #[.pointer (some ⟨b, 0, none⟩)] w fun e w' => e = .returned (.tuple #[.int .i64 k, .int .i64 0]) ∧ IsAr w' b A.pop (Own B X) ∧ Touch (Own B X) w w' :=
  (alloc_some h k hk).mono fun _ _ ⟨he, hi, ht⟩ => ⟨he, hi.mono (fun n _ hn => hn.elim id (fun hn => ⟨by omega, fun hx => by have := hX n hx; omega⟩)), ht⟩
theorem new_own (n : Nat) (w : World) (h : n ≤ 65536) :
    Calls Try.prog 22 #[.int .i64 n] w fun e w' => e = .returned (.tuple #[.pointer (some ⟨w.heap.size, 0, none⟩), .int .i64 0]) ∧ IsAr w' w.heap.size (fresh n) (Own w.heap.size []) ∧ Below w.heap.size w w' ∧ w'.heap.size = w.heap.size + 1 :=
  (new_is n w h).mono fun _ _ ⟨he, hi, hb, hs⟩ => ⟨he, hi.mono (fun k _ hk => by subst hk; exact ⟨Nat.le_refl _, by simp⟩), hb, hs⟩
theorem IsAr.below {w w' : World} {b : Nat} {A : Ar} {F : Nat → Prop} (h : IsAr w b A F) (hb : Below w.heap.size w w') : IsAr w' b A F := h.keep (Touch.of_below hb (fun _ => False)) (fun _ _ h => h)

set_option maxHeartbeats 1000000 in
theorem works_any (w : World) : Calls Try.prog 13 #[] w fun e w' => e = .returned (.bool true) ∧ Below w.heap.size w w' := by
  go_enter Try.func13, Try.ntmps13
  go_wp2_with fail
  refine (new_own 3 _ (by decide)).mono ?_; rintro e w1 ⟨rfl, hi, hb, hs⟩
  have I1 := Lib.hid hi; have B1 := Lib.hid hb; clear hi hb hs
  go_wp2_with fail
  refine (alloc_own I1.out B1.out.size (by simp) 0 rfl).mono ?_; rintro e w2 ⟨rfl, hi, ht⟩
  have I2 := Lib.hid hi; have B2 := Lib.hid (B1.out.trans (ht.own_below B1.out.size)); clear hi ht
  go_wp2_with fail
  refine (alloc_own I2.out B2.out.size (by simp) 1 rfl).mono ?_; rintro e w3 ⟨rfl, hi, ht⟩
  have I3 := Lib.hid hi; have B3 := Lib.hid (B2.out.trans (ht.own_below B2.out.size)); clear hi ht
  go_wp2_with fail
  refine (free_some I3.out 0 rfl).mono ?_; rintro e w4 ⟨rfl, hi, ht⟩
  have I4 := Lib.hid hi; have B4 := Lib.hid (B3.out.trans (ht.own_below B3.out.size)); clear hi ht
  go_wp2_with fail
  refine (next_some I4.out 0 rfl).mono ?_; rintro e w5 ⟨rfl, hb⟩
  have I5 := Lib.hid (I4.out.below hb); have B5 := Lib.hid (B4.out.trans (hb.mono B4.out.size)); clear hb
  go_wp2_with fail
  refine (free_none I5.out 0 (by decide) rfl).mono ?_; rintro e w6 ⟨rfl, rfl⟩
  go_wp2_with fail
  refine (times_some I5.out 1 (by decide)).mono ?_; rintro e w6 ⟨rfl, rfl⟩
  have hc : (((fresh 3).pop.pop.push 0).count 1) = 1 := by decide
  rw [hc]
  go_wp2_with fail
  go_ret
  exact ⟨rfl, B5.out⟩
end Go.Proofs.Ytndiaflbagikoaa

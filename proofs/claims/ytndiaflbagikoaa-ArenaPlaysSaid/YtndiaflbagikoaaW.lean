/- The document's arena in memory, and the contracts of its functions. -/
import Derived.Test.YtndiaflbagikoaaV
namespace Go.Proofs.Ytndiaflbagikoaa
open Go.ChangeShapes Go.WideShapes Go.ChangeAt Go.RowKit

/-- A row of the call's own, at an index. -/
theorem row_at {w : World} {e : TypeId} {v : Value} {n : Nat} {xs : List Value} (h : w.ownsRow 0 e 1 v n xs) {k : Nat} (hk : k < n) :
    ∃ g cap cur, v = .slice (some ⟨g, 0, none⟩) n cap ∧ n ≤ cap ∧ cap ≤ maxLen ∧ w.heap[g]? = some (.cells cur e (0, 0)) ∧ cur[k]? = xs[k]? ∧ k < xs.length := by
  have hl : xs.length = n := by simpa using h.1
  rcases h.2 with ⟨_, h0⟩ | ⟨g, cap, cur, hv, _, hg, hnc, hcm, hcs, htake⟩
  · omega
  · refine ⟨g, cap, cur, hv, hnc, hcm, hg, ?_, by omega⟩
    have h1 : (cur.toList.take (n * 1))[k]? = xs[k]? := by rw [htake]
    rw [List.getElem?_take, if_pos (by omega)] at h1
    simpa using h1
theorem row_shape {w : World} {e : TypeId} {v : Value} {n : Nat} {xs : List Value} (h : w.ownsRow 0 e 1 v n xs) : ∃ a cap, v = .slice a n cap ∧ n ≤ cap ∧ cap ≤ maxLen := by
  rcases h.2 with ⟨e, h0⟩ | ⟨g, cap, cur, e, _, _, h1, h2, _⟩
  · exact ⟨none, 0, by rw [e, h0], by omega, Nat.zero_le _⟩
  · exact ⟨_, cap, e, h1, h2⟩
theorem row_set {w : World} {e : TypeId} {v : Value} {n : Nat} {xs : List Value} (h : w.ownsRow 0 e 1 v n xs) {g : Nat} (hv : v.ownBlock = some g) {k : Nat} (u : Value) :
    (w.setCell ⟨g, k, none⟩ u).ownsRow 0 e 1 v n (xs.set k u) := by
  obtain ⟨h1, h2⟩ := h
  refine ⟨by simpa using h1, ?_⟩
  rcases h2 with ⟨e1, _⟩ | ⟨g', cap, cur, hv', hb, hg, hnc, hcm, hcs, htake⟩
  · rw [e1] at hv; cases hv
  · rw [hv'] at hv; cases hv
    refine Or.inr ⟨g', cap, cur.setIfInBounds k u, hv', hb, set_of hg k u, hnc, hcm, by simpa using hcs, ?_⟩
    rw [← htake, Array.toList_setIfInBounds, List.take_set]
theorem row_short {w : World} {e : TypeId} {g n m cap : Nat} {xs : List Value} (h : w.ownsRow 0 e 1 (.slice (some ⟨g, 0, none⟩) n cap) n xs) (hm : m ≤ n) : w.ownsRow 0 e 1 (.slice (some ⟨g, 0, none⟩) m cap) m (xs.take m) := by
  have hl : xs.length = n := by simpa using h.1
  refine ⟨by simp; omega, ?_⟩
  rcases h.2 with ⟨e1, _⟩ | ⟨g', cap', cur, hv', hb, hg, hnc, hcm, hcs, htake⟩
  · cases e1
  · cases hv'
    refine Or.inr ⟨g, cap, cur, rfl, hb, hg, by omega, hcm, hcs, ?_⟩
    rw [← htake, List.take_take]; simp [show min m n = m by omega]

def useL (A : Ar) : List Value := (List.range A.slots).map fun i => .bool (A.inUse i)
def cntL (A : Ar) : List Value := (List.range A.slots).map fun i => .int .u64 (A.count i)
def retL (A : Ar) : List Value := A.stack.reverse.map cellN
/-- The document's arena in block c, in an abstract state. -/
structure RefM (w : World) (c : Nat) (vu vt vr : Value) (A : Ar) : Prop where
  head : w.heap[c]? = some (.cells #[.bool true, .int .i64 A.slots, vu, vt, vr] 76 (0, 0))
  u : w.ownsRow 0 4 1 vu A.slots (useL A)
  t : w.ownsRow 0 40 1 vt A.slots (cntL A)
  r : w.ownsRow 0 3 1 vr A.stack.length (retL A)
theorem row_type {w : World} {e e' : TypeId} {v v' : Value} {n n' : Nat} {xs xs' : List Value} (h : w.ownsRow 0 e 1 v n xs) (h' : w.ownsRow 0 e' 1 v' n' xs') (he : e ≠ e') {g : Nat} (hv : v.ownBlock = some g) : v'.ownBlock ≠ some g := by
  intro hv'
  rcases h.2 with ⟨e1, _⟩ | ⟨g1, c1, cur1, e1, _, hg1, _⟩
  · rw [e1] at hv; cases hv
  · rcases h'.2 with ⟨e2, _⟩ | ⟨g2, c2, cur2, e2, _, hg2, _⟩
    · rw [e2] at hv'; cases hv'
    · rw [e1] at hv; rw [e2] at hv'; cases hv; cases hv'
      rw [hg1] at hg2; simp at hg2; exact he hg2.2
theorem row_head {w : World} {e e' : TypeId} {v : Value} {n c : Nat} {xs : List Value} {cs : Array Value} {f : Nat × Nat} (h : w.ownsRow 0 e 1 v n xs) (h' : w.heap[c]? = some (.cells cs e' f)) (he : e ≠ e') : v.ownBlock ≠ some c := by
  intro hv
  rcases h.2 with ⟨e1, _⟩ | ⟨g1, c1, cur1, e1, _, hg1, _⟩
  · rw [e1] at hv; cases hv
  · rw [e1] at hv; cases hv
    rw [hg1] at h'; simp at h'; exact he h'.2.1
/-- What belongs to it. -/
def FootR (c : Nat) (vu vt vr : Value) (k : Nat) : Prop := k = c ∨ vu.ownBlock = some k ∨ vt.ownBlock = some k ∨ vr.ownBlock = some k
def IsRef (w : World) (c : Nat) (A : Ar) (F : Nat → Prop) : Prop := ∃ vu vt vr, RefM w c vu vt vr A ∧ A.Good ∧ ∀ k, FootR c vu vt vr k → F k
theorem RefM.keep {w w' : World} {S : Nat → Prop} {c : Nat} {vu vt vr : Value} {A : Ar} (h : RefM w c vu vt vr A) (ht : Touch S w w') (hs : ∀ k, FootR c vu vt vr k → ¬ S k) : RefM w' c vu vt vr A :=
  ⟨ht.keep h.head (hs _ (Or.inl rfl)), ownsRow_touch h.u ht (fun k hk => hs k (Or.inr (Or.inl hk))), ownsRow_touch h.t ht (fun k hk => hs k (Or.inr (Or.inr (Or.inl hk)))), ownsRow_touch h.r ht (fun k hk => hs k (Or.inr (Or.inr (Or.inr hk))))⟩
theorem IsRef.keep {w w' : World} {c : Nat} {A : Ar} {F S : Nat → Prop} (h : IsRef w c A F) (ht : Touch S w w') (hs : ∀ k, F k → ¬ S k) : IsRef w' c A F := by
  obtain ⟨vu, vt, vr, h1, h2, h3⟩ := h
  exact ⟨vu, vt, vr, h1.keep ht (fun k hk => hs k (h3 k hk)), h2, h3⟩
theorem IsRef.below {w w' : World} {c : Nat} {A : Ar} {F : Nat → Prop} (h : IsRef w c A F) (hb : Below w.heap.size w w') : IsRef w' c A F := h.keep (Touch.of_below hb (fun _ => False)) (fun _ _ h => h)
theorem foot_lt {w : World} {c : Nat} {vu vt vr : Value} {A : Ar} (h : RefM w c vu vt vr A) {k : Nat} (hk : FootR c vu vt vr k) : k < w.heap.size := by
  rcases hk with rfl | hk | hk | hk
  · exact lt_of_block h.head
  · exact own_lt h.u hk
  · exact own_lt h.t hk
  · exact own_lt h.r hk
theorem IsRef.mono {w : World} {c : Nat} {A : Ar} {F G : Nat → Prop} (h : IsRef w c A F) (hg : ∀ k, k < w.heap.size → F k → G k) : IsRef w c A G := by
  obtain ⟨vu, vt, vr, h1, h2, h3⟩ := h
  exact ⟨vu, vt, vr, h1, h2, fun k hk => hg k (foot_lt h1 hk) (h3 k hk)⟩
theorem IsRef.good {w : World} {c : Nat} {A : Ar} {F : Nat → Prop} (h : IsRef w c A F) : A.Good := let ⟨_, _, _, _, h2, _⟩ := h; h2

theorem RefM.cells {w : World} {c : Nat} {vu vt vr : Value} {A : Ar} (h : RefM w c vu vt vr A) :
    w.cell? ⟨c, 0, none⟩ = some (.bool true) ∧ w.cell? ⟨c, 1, none⟩ = some (.int .i64 A.slots) ∧ w.cell? ⟨c, 2, none⟩ = some vu ∧ w.cell? ⟨c, 3, none⟩ = some vt ∧ w.cell? ⟨c, 4, none⟩ = some vr :=
  ⟨cell_of h.head 0, cell_of h.head 1, cell_of h.head 2, cell_of h.head 3, cell_of h.head 4⟩
theorem rvalid_yes {w : World} {c : Nat} (hc : w.cell? ⟨c, 0, none⟩ = some (.bool true)) : Calls Try.prog 40 #[.pointer (some ⟨c, 0, none⟩)] w fun e w' => e = .returned (.bool true) ∧ w = w' := by
  go_enter Try.func40, Try.ntmps40
  go_wp2
  go_ret
  exact ⟨rfl, rfl⟩
theorem rexists_yes {w : World} {c n : Nat} (hc : w.cell? ⟨c, 0, none⟩ = some (.bool true)) (h1 : w.cell? ⟨c, 1, none⟩ = some (.int .i64 n)) (i : Nat) (hi : i < n) :
    Calls Try.prog 41 #[.pointer (some ⟨c, 0, none⟩), .int .i64 i] w fun e w' => e = .returned (.bool true) ∧ w = w' := by
  have h2 : (i : Int) < (n : Int) := by omega
  have h3 : (0 : Int) ≤ (i : Int) := by omega
  go_enter Try.func41, Try.ntmps41
  go_wp2_with (go_at_call 40; refine (rvalid_yes hc).mono ?_; rintro e w' ⟨rfl, rfl⟩)
  go_ret
  exact ⟨rfl, rfl⟩
theorem rexists_far {w : World} {c n : Nat} (hc : w.cell? ⟨c, 0, none⟩ = some (.bool true)) (h1 : w.cell? ⟨c, 1, none⟩ = some (.int .i64 n)) (i : Int) (hi : i < 0 ∨ (n : Int) ≤ i) :
    Calls Try.prog 41 #[.pointer (some ⟨c, 0, none⟩), .int .i64 i] w fun e w' => e = .returned (.bool false) ∧ w = w' := by
  by_cases h0 : 0 ≤ i
  · have h2 : decide (i < (n : Int)) = false := by simp; omega
    clear hi
    go_enter Try.func41, Try.ntmps41
    go_wp2_with (go_at_call 40; refine (rvalid_yes hc).mono ?_; rintro e w' ⟨rfl, rfl⟩)
    go_ret
    exact ⟨rfl, rfl⟩
  · clear hi
    go_enter Try.func41, Try.ntmps41
    go_wp2_with (go_at_call 40; refine (rvalid_yes hc).mono ?_; rintro e w' ⟨rfl, rfl⟩)
    go_ret
    exact ⟨rfl, rfl⟩
theorem useL_at {A : Ar} {k : Nat} (h : k < A.slots) : (useL A)[k]? = some (.bool (A.inUse k)) := by simp [useL, h]
theorem cntL_at {A : Ar} {k : Nat} (h : k < A.slots) : (cntL A)[k]? = some (.int .u64 (A.count k)) := by simp [cntL, h]
section
variable {w : World} {c : Nat} {A : Ar} {F : Nat → Prop}
theorem rused_some (h : IsRef w c A F) (k : Nat) (hk : k < A.slots) : Calls Try.prog 35 #[.pointer (some ⟨c, 0, none⟩), .int .i64 k] w fun e w' => e = .returned (.bool (A.inUse k)) ∧ w = w' := by
  obtain ⟨vu, vt, vr, h1, h2, h3⟩ := h
  obtain ⟨c0, c1, c2, c3, c4⟩ := h1.cells
  obtain ⟨g, cap, cur, rfl, hnc, hcm, hg, hcur, _⟩ := row_at h1.u hk
  have cg : w.cell? ⟨g, k, none⟩ = some (.bool (A.inUse k)) := by rw [cell_of hg, hcur, useL_at hk]
  have hm := h2.max
  generalize A.inUse k = u at *
  clear h1 h2 h3 hcur hg c3 c4
  unfold maxLen at hcm
  generalize A.slots = n at *
  go_enter Try.func35, Try.ntmps35
  go_wp2_with (go_at_call 41; refine (rexists_yes c0 c1 k hk).mono ?_; rintro e w' ⟨rfl, rfl⟩)
  go_ret
  exact ⟨rfl, rfl⟩
theorem rused_none (h : IsRef w c A F) (i : Int) (hi : i < 0 ∨ (A.slots : Int) ≤ i) : Calls Try.prog 35 #[.pointer (some ⟨c, 0, none⟩), .int .i64 i] w fun e w' => e = .returned (.bool false) ∧ w = w' := by
  obtain ⟨vu, vt, vr, h1, h2, h3⟩ := h
  obtain ⟨c0, c1, c2, c3, c4⟩ := h1.cells
  have H := Lib.hid hi
  clear h1 h2 h3 hi c2 c3 c4
  generalize A.slots = n at *
  go_enter Try.func35, Try.ntmps35
  go_wp2_with (go_at_call 41; refine (rexists_far c0 c1 i H.out).mono ?_; rintro e w' ⟨rfl, rfl⟩)
  go_ret
  exact ⟨rfl, rfl⟩
theorem rtimes_some (h : IsRef w c A F) (k : Nat) (hk : k < A.slots) : Calls Try.prog 36 #[.pointer (some ⟨c, 0, none⟩), .int .i64 k] w fun e w' => e = .returned (.int .u64 (A.count k)) ∧ w = w' := by
  obtain ⟨vu, vt, vr, h1, h2, h3⟩ := h
  obtain ⟨c0, c1, c2, c3, c4⟩ := h1.cells
  obtain ⟨g, cap, cur, rfl, hnc, hcm, hg, hcur, _⟩ := row_at h1.t hk
  have cg : w.cell? ⟨g, k, none⟩ = some (.int .u64 (A.count k)) := by rw [cell_of hg, hcur, cntL_at hk]
  have hm := h2.max
  generalize A.count k = u at *
  clear h1 h2 h3 hcur hg c2 c4
  unfold maxLen at hcm
  generalize A.slots = n at *
  go_enter Try.func36, Try.ntmps36
  go_wp2_with (go_at_call 41; refine (rexists_yes c0 c1 k hk).mono ?_; rintro e w' ⟨rfl, rfl⟩)
  go_ret
  exact ⟨rfl, rfl⟩
theorem rtimes_none (h : IsRef w c A F) (i : Int) (hi : i < 0 ∨ (A.slots : Int) ≤ i) : Calls Try.prog 36 #[.pointer (some ⟨c, 0, none⟩), .int .i64 i] w fun e w' => e = .returned (.int .u64 0) ∧ w = w' := by
  obtain ⟨vu, vt, vr, h1, h2, h3⟩ := h
  obtain ⟨c0, c1, c2, c3, c4⟩ := h1.cells
  have H := Lib.hid hi
  clear h1 h2 h3 hi c2 c3 c4
  generalize A.slots = n at *
  go_enter Try.func36, Try.ntmps36
  go_wp2_with (go_at_call 41; refine (rexists_far c0 c1 i H.out).mono ?_; rintro e w' ⟨rfl, rfl⟩)
  go_ret
  exact ⟨rfl, rfl⟩
theorem rcap_is (h : IsRef w c A F) : Calls Try.prog 38 #[.pointer (some ⟨c, 0, none⟩)] w fun e w' => e = .returned (.int .i64 A.slots) ∧ w = w' := by
  obtain ⟨vu, vt, vr, h1, h2, h3⟩ := h
  obtain ⟨c0, c1, c2, c3, c4⟩ := h1.cells
  clear h1 h2 h3 c2 c3 c4
  generalize A.slots = n at *
  go_enter Try.func38, Try.ntmps38
  go_wp2_with (go_at_call 40; refine (rvalid_yes c0).mono ?_; rintro e w' ⟨rfl, rfl⟩)
  go_ret
  exact ⟨rfl, rfl⟩
end
end Go.Proofs.Ytndiaflbagikoaa

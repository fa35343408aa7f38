/- The document's Copy. -/
import Derived.Test.YtndiaflbagikoaaZb
import Derived.Outline
import Derived.Deep.RegionLaw
namespace Go.Proofs.Ytndiaflbagikoaa
open Go.ChangeShapes Go.WideShapes Go.ChangeAt Go.RowKit

theorem run_append_zero {P : Program} (w : World) (t ty e : TypeId) (i : TypeInfo) (z : Value) (ht : P.underlying t = some (.slice e)) (hi : P.info? e = some i) (hz : i.zero = some z) (a : Option Addr) (c : Nat) :
    (Builtin.append_ #[t, t] ty #[.slice none 0 0, .slice a 0 c]).run P w = .ok (.slice none 0 0) w := by
  cases a <;> simp [Builtin.append_, run_underlying ht, sizeOf, typeInfo, zeroValue, hi, hz, Builtin.lenOf, Builtin.firstCells, loadCells, loadCellsFrom]
/-- A row of the call's own, appended to a nil slice: a copy. -/
theorem run_append_copy {P : Program} (w : World) (t ty e : TypeId) (i : TypeInfo) (z : Value) (bytes : Nat) (ht : P.underlying t = some (.slice e)) (hi : P.info? e = some i) (hz : i.zero = some z)
    (hsize : i.size = 1) (hby : i.bytes = bytes) (hzs : z.cells.size = 1) (v : Value) (n : Nat) (xs : List Value) (hown : w.ownsRow 0 e 1 v n xs) (h1 : ∀ u ∈ xs, u.oneCell' = true) (h63 : n ≤ maxLen) (hbytes : n * bytes ≤ 140737488355328) :
    ∃ v' w', (Builtin.append_ #[t, t] ty #[.slice none 0 0, v]).run P w = .ok v' w' ∧ w'.ownsRow 0 e 1 v' n xs ∧ w.grownBy w' none ∧ (∀ g, v'.ownBlock = some g → w.heap.size ≤ g) := by
  have hl : xs.length = n := by simpa using hown.1
  rcases hown.2 with ⟨rfl, h0⟩ | ⟨g, cap, cur, rfl, _, hg, hnc, hcm, hcs, htake⟩
  · subst h0
    have hx : xs = [] := List.eq_nil_of_length_eq_zero hl
    subst hx
    exact ⟨_, _, run_append_zero w t ty e i z ht hi hz none 0, World.ownsRow_nil _ _ _ _, World.grownBy.refl _ _, fun g h => by cases h⟩
  · by_cases h0 : n = 0
    · subst h0
      have hx : xs = [] := List.eq_nil_of_length_eq_zero hl
      subst hx
      exact ⟨_, _, run_append_zero w t ty e i z ht hi hz _ cap, World.ownsRow_nil _ _ _ _, World.grownBy.refl _ _, fun g h => by cases h⟩
    · obtain ⟨v', w', hr, ho, hg', hn⟩ := run_append_mine (P := P) w t ty e i z 1 bytes ht hi hz hsize hby hzs (by decide) (.slice none 0 0) 0 [] (World.ownsRow_nil _ _ _ _) ⟨g, 0, none⟩ n cap xs (by omega) (fun j u hj => by
        rw [addr_add, Nat.zero_add, cell_of hg]
        have h2 : (cur.toList.take (n * 1))[j]? = some u := by rw [htake]; exact hj
        rw [List.getElem?_take] at h2
        split at h2
        · simpa using h2
        · cases h2) h1 (by omega) (by rw [Nat.zero_add]; exact hbytes)
      refine ⟨v', w', hr, by simpa using ho, hg', fun g hh => ?_⟩
      rcases hn g hh with e | e
      · cases e
      · exact e
theorem wpList_append_copy {P : Program} (w : World) {ops : Array Oper} {rest : List Oper} {o : Oper} {a : Act} {Q : Exit → Act → World → Prop} (hgd : o.guard = none) (s x : Operand) (t : TypeId)
    (ho : o.op = .call { callee := .builtin .append, args := #[s, x], argTypes := #[t, t] })
    (e : TypeId) (i : TypeInfo) (z : Value) (bytes : Nat) (ht : P.underlying t = some (.slice e)) (hi : P.info? e = some i) (hz : i.zero = some z)
    (hsize : i.size = 1) (hby : i.bytes = bytes) (hzs : z.cells.size = 1)
    (v : Value) (n : Nat) (xs : List Value) (hs : a.eval s = .slice none 0 0) (hx : a.eval x = v) (hown : w.ownsRow 0 e 1 v n xs) (h1 : ∀ u ∈ xs, u.oneCell' = true) (h63 : n ≤ maxLen) (hbytes : n * bytes ≤ 140737488355328)
    (h : ∀ v' w', w'.ownsRow 0 e 1 v' n xs → w.grownBy w' none → (∀ g, v'.ownBlock = some g → w.heap.size ≤ g) → wpList P ops Q rest (a.put o.dst v') w') : wpList P ops Q (o :: rest) a w := by
  refine wpList_plain hgd fun K hK => ?_
  obtain ⟨v', w', hr, h2, h3, h4⟩ := run_append_copy (P := P) w t o.type e i z bytes ht hi hz hsize hby hzs v n xs hown h1 h63 hbytes
  unfold Oper.wp execOp
  simp only [ho, resolve, invoke, builtin, Sem.run_bind, Sem.run_pure, Result.andThen_ok, List.map_toArray, List.map_cons, List.map_nil, hs, hx, hr]
  exact hK _ _ (h v' w' h2 h3 h4)

theorem step_append_copy {P : Program} {w : World} {ops : Array Oper} {o : Oper} {a : Act} {K : Act → World → Prop} {Q : Exit → Act → World → Prop} {E : Prop} (hgd : o.guard = none) (s x : Operand) (t : TypeId)
    (ho : o.op = .call { callee := .builtin .append, args := #[s, x], argTypes := #[t, t] })
    (e : TypeId) (i : TypeInfo) (z : Value) (bytes : Nat) (ht : P.underlying t = some (.slice e)) (hi : P.info? e = some i) (hz : i.zero = some z)
    (hsize : i.size = 1) (hby : i.bytes = bytes) (hzs : z.cells.size = 1)
    (v : Value) (n : Nat) (xs : List Value) (hs : a.eval s = .slice none 0 0) (hx : a.eval x = v) (hown : w.ownsRow 0 e 1 v n xs) (h1 : ∀ u ∈ xs, u.oneCell' = true) (h63 : n ≤ maxLen) (hbytes : n * bytes ≤ 140737488355328)
    (h : ∀ v' w', w'.ownsRow 0 e 1 v' n xs → w.grownBy w' none → (∀ g, v'.ownBlock = some g → w.heap.size ≤ g) → K (a.put o.dst v') w') : if Region.wanted o (yielded ops a.tmps) = true then Oper.wp P o a w K Q else E := by
  have hw : Region.wanted o (yielded ops a.tmps) = true := by simp [Region.wanted, hgd]
  rw [if_pos hw]
  obtain ⟨v', w', hr, h2, h3, h4⟩ := run_append_copy (P := P) w t o.type e i z bytes ht hi hz hsize hby hzs v n xs hown h1 h63 hbytes
  unfold Oper.wp execOp
  simp only [ho, resolve, invoke, builtin, Sem.run_bind, Sem.run_pure, Result.andThen_ok, List.map_toArray, List.map_cons, List.map_nil, hs, hx, hr]
  exact h v' w' h2 h3 h4
theorem oneUse (A : Ar) : ∀ u ∈ useL A, u.oneCell' = true := fun u hu => by
  simp [useL] at hu; obtain ⟨i, _, rfl⟩ := hu; rfl
theorem oneCnt (A : Ar) : ∀ u ∈ cntL A, u.oneCell' = true := fun u hu => by
  simp [cntL] at hu; obtain ⟨i, _, rfl⟩ := hu; rfl
theorem oneRet (A : Ar) : ∀ u ∈ retL A, u.oneCell' = true := fun u hu => by
  simp [retL] at hu; obtain ⟨i, _, rfl⟩ := hu; rfl

theorem copy_step {w W W1 : World} {d off : Nat} {cs : Array Value} {v1 : Value} (hd : w.heap.size ≤ d) (D : W.heap[d]? = some (.cells cs 76 (0, 0))) (hg : W.drew.grownBy W1 none) (B : Below w.heap.size w W) :
    (W1.setCell ⟨d, off, none⟩ v1).heap[d]? = some (.cells (cs.setIfInBounds off v1) 76 (0, 0)) ∧ Below w.heap.size w (W1.setCell ⟨d, off, none⟩ v1) ∧ Touch (· = d) W (W1.setCell ⟨d, off, none⟩ v1) := by
  have hT : Touch (· = d) W W1 := ((Touch.refl _ W).drew).grown hg (fun k h => by cases h)
  have D1 : W1.heap[d]? = some (.cells cs 76 (0, 0)) := (hg.block d (lt_of_block D) (fun e => by cases e)).trans D
  have hT2 : Touch (· = d) W (W1.setCell ⟨d, off, none⟩ v1) := hT.setCell (fun _ => rfl) _
  exact ⟨set_of D1 off v1, B.trans (hT2.below B.size (fun k hk e => by omega)), hT2⟩
set_option maxRecDepth 100000 in
set_option maxHeartbeats 8000000 in
theorem rcopy_is {w : World} {c : Nat} {A : Ar} {F : Nat → Prop} (h : IsRef w c A F) :
    Calls Try.prog 30 #[.pointer (some ⟨c, 0, none⟩)] w fun e w' => ∃ d, e = .returned (.pointer (some ⟨d, 0, none⟩)) ∧ IsRef w' d A (fun n => w.heap.size ≤ n) ∧ Below w.heap.size w w' := by
  obtain ⟨vu, vt, vr, h1, h2, h3⟩ := h
  obtain ⟨c0, c1, c2, c3, c4⟩ := h1.cells
  have hmax := h2.max
  have hsl : A.stack.length ≤ 65536 := by have := stack_le h2; have := h2.le; omega
  have hclt := lt_of_block h1.head
  have M := Lib.hid h1; have HG := Lib.hid h2
  obtain ⟨i4, hi4, hz40, hz41, hz42⟩ := info_parts info4
  obtain ⟨i40, hi40, hz400, hz401, hz402⟩ := info_parts info40
  obtain ⟨i3, hi3, hz30, hz31, hz32⟩ := info_parts info3
  clear h1 h2 h3
  go_enter Try.func30, Try.ntmps30
  go_wp2_with fail
  refine (rvalid_yes c0).mono ?_; rintro e w' ⟨rfl, rfl⟩
  go_wp2_with fail
  obtain ⟨W0, hW0⟩ : ∃ W, W = w.alloc (.cells #[.bool true, .int .i64 A.slots, .slice none 0 0, .slice none 0 0, .slice none 0 0] 76) := ⟨_, rfl⟩
  rw [← hW0]
  have B0 : Hid (Below w.heap.size w W0) := Lib.hid (by rw [hW0]; exact Below.alloc (Below.refl _ _) (Nat.le_refl _) _)
  have D0 : Hid (W0.heap[w.heap.size]? = some (.cells #[.bool true, .int .i64 A.slots, .slice none 0 0, .slice none 0 0, .slice none 0 0] 76)) := Lib.hid (by rw [hW0]; exact block_new _ _)
  have M0 := Lib.hid (M.out.keep (Touch.of_below B0.out (fun _ => False)) (fun _ _ h => h))
  clear hW0 c0 c1 c2 c3 c4
  obtain ⟨c0, c1, c2, c3, c4⟩ := M0.out.cells
  have d2 := cell_of D0.out 2
  simp at d2
  have hd0 := Lib.hid (lt_of_block D0.out)
  have MR0 := Lib.hid M0.out.u
  clear c0 c1 c3 c4
  go_region_law (refine step_append_copy rfl (.tmp 17) (.tmp 21) 65 rfl 4 i4 (.bool false) 1 Try.underlying65 hi4 hz40 hz41 hz42 rfl vu A.slots (useL A) (by simp [Act.eval]) (by simp [Act.eval]) MR0.out (oneUse A) (by unfold maxLen; omega) (by omega) ?_; intro v1 W1 ho1 hg1 hn1; obtain ⟨a1, k1, hv1, _, _⟩ := row_shape ho1; subst hv1; have D1' := (hg1.block _ hd0.out (fun e => by cases e)).trans D0.out; have e1 := cell_of D1' 2; have f1 := free_of D1' 2; simp at e1)
  all_goals
    have ST := copy_step (off := 2) (v1 := .slice a1 A.slots k1) (Nat.le_refl _) D0.out hg1 B0.out
    have D1 : Hid ((W1.setCell ⟨w.heap.size, 2, none⟩ (.slice a1 A.slots k1)).heap[w.heap.size]? = some (.cells #[.bool true, .int .i64 A.slots, .slice a1 A.slots k1, .slice none 0 0, .slice none 0 0] 76 (0, 0))) := Lib.hid ST.1
    have B1 := Lib.hid ST.2.1
    have M1 := Lib.hid (M.out.keep (Touch.of_below B1.out (fun _ => False)) (fun _ _ h => h))
    have R1 := Lib.hid (ownsRow_touch ho1 (touch_one W1 w.heap.size 2 (.slice a1 A.slots k1)) (fun n hn e => row_head ho1 D1' (by decide) (e ▸ hn)))
    have N1 : Hid (∀ g, (Value.slice a1 A.slots k1).ownBlock = some g → w.heap.size ≤ g) := Lib.hid (fun g hg => by have h1 := hn1 g hg; have h2 := B0.out.size; exact Nat.le_trans h2 h1)
    clear ST ho1 hg1 hn1 D1' e1 f1 d2 c2
    go_wp2_with fail
    generalize W1.setCell ⟨w.heap.size, 2, none⟩ (.slice a1 A.slots k1) = V1 at *
    obtain ⟨c0, c1, c2, c3, c4⟩ := M1.out.cells
    have d2 := cell_of D1.out 3
    simp at d2
    have hd1 := Lib.hid (lt_of_block D1.out)
    have MR1 := Lib.hid M1.out.t
    clear c0 c1 c2 c4
    go_region_law (refine step_append_copy rfl (.tmp 29) (.tmp 33) 74 rfl 40 i40 (.int .u64 0) 8 Try.underlying74 hi40 hz400 hz401 hz402 rfl vt A.slots (cntL A) (by simp [Act.eval]) (by simp [Act.eval]) MR1.out (oneCnt A) (by unfold maxLen; omega) (by omega) ?_; intro v2 W2 ho2 hg2 hn2; obtain ⟨a2, k2, hv2, _, _⟩ := row_shape ho2; subst hv2; have D2' := (hg2.block _ hd1.out (fun e => by cases e)).trans D1.out; have e2 := cell_of D2' 3; have f2 := free_of D2' 3; simp at e2)
    all_goals
      have ST := copy_step (off := 3) (v1 := .slice a2 A.slots k2) (Nat.le_refl _) D1.out hg2 B1.out
      have D2 : Hid ((W2.setCell ⟨w.heap.size, 3, none⟩ (.slice a2 A.slots k2)).heap[w.heap.size]? = some (.cells #[.bool true, .int .i64 A.slots, .slice a1 A.slots k1, .slice a2 A.slots k2, .slice none 0 0] 76 (0, 0))) := Lib.hid ST.1
      have B2 := Lib.hid ST.2.1
      have M2 := Lib.hid (M.out.keep (Touch.of_below B2.out (fun _ => False)) (fun _ _ h => h))
      have R2 := Lib.hid (ownsRow_touch ho2 (touch_one W2 w.heap.size 3 (.slice a2 A.slots k2)) (fun n hn e => row_head ho2 D2' (by decide) (e ▸ hn)))
      have N2 : Hid (∀ g, (Value.slice a2 A.slots k2).ownBlock = some g → w.heap.size ≤ g) := Lib.hid (fun g hg => by have h1 := hn2 g hg; have h2 := B1.out.size; exact Nat.le_trans h2 h1)
      have R1' := Lib.hid (ownsRow_touch R1.out ST.2.2 (fun n hn e => row_head R1.out D1.out (by decide) (e ▸ hn)))
      clear R1
      have R1 := R1'
      clear R1'
      clear ST ho2 hg2 hn2 D2' e2 f2 d2 c3
      go_wp2_with fail
      generalize W2.setCell ⟨w.heap.size, 3, none⟩ (.slice a2 A.slots k2) = V2 at *
      obtain ⟨c0, c1, c2, c3, c4⟩ := M2.out.cells
      have d2 := cell_of D2.out 4
      simp at d2
      have hd2 := Lib.hid (lt_of_block D2.out)
      have MR2 := Lib.hid M2.out.r
      clear c0 c1 c2 c3
      go_region_law (refine step_append_copy rfl (.tmp 41) (.tmp 45) 32 rfl 3 i3 (.int .i64 0) 8 Try.underlying32 hi3 hz30 hz31 hz32 rfl vr A.stack.length (retL A) (by simp [Act.eval]) (by simp [Act.eval]) MR2.out (oneRet A) (by unfold maxLen; omega) (by omega) ?_; intro v3 W3 ho3 hg3 hn3; obtain ⟨a3, k3, hv3, _, _⟩ := row_shape ho3; subst hv3; have D3' := (hg3.block _ hd2.out (fun e => by cases e)).trans D2.out; have e3 := cell_of D3' 4; have f3 := free_of D3' 4; simp at e3)
      all_goals
        have ST := copy_step (off := 4) (v1 := .slice a3 A.stack.length k3) (Nat.le_refl _) D2.out hg3 B2.out
        have D3 : Hid ((W3.setCell ⟨w.heap.size, 4, none⟩ (.slice a3 A.stack.length k3)).heap[w.heap.size]? = some (.cells #[.bool true, .int .i64 A.slots, .slice a1 A.slots k1, .slice a2 A.slots k2, .slice a3 A.stack.length k3] 76 (0, 0))) := Lib.hid ST.1
        have B3 := Lib.hid ST.2.1
        have M3 := Lib.hid (M.out.keep (Touch.of_below B3.out (fun _ => False)) (fun _ _ h => h))
        have R3 := Lib.hid (ownsRow_touch ho3 (touch_one W3 w.heap.size 4 (.slice a3 A.stack.length k3)) (fun n hn e => row_head ho3 D3' (by decide) (e ▸ hn)))
        have N3 : Hid (∀ g, (Value.slice a3 A.stack.length k3).ownBlock = some g → w.heap.size ≤ g) := Lib.hid (fun g hg => by have h1 := hn3 g hg; have h2 := B2.out.size; exact Nat.le_trans h2 h1)
        have R1' := Lib.hid (ownsRow_touch R1.out ST.2.2 (fun n hn e => row_head R1.out D2.out (by decide) (e ▸ hn)))
        clear R1
        have R1 := R1'
        clear R1'
        have R2' := Lib.hid (ownsRow_touch R2.out ST.2.2 (fun n hn e => row_head R2.out D2.out (by decide) (e ▸ hn)))
        clear R2
        have R2 := R2'
        clear R2'
        clear ST ho3 hg3 hn3 D3' e3 f3 d2 c4
        go_wp2_with fail
        generalize W3.setCell ⟨w.heap.size, 4, none⟩ (.slice a3 A.stack.length k3) = V3 at *
        go_ret
        exact ⟨w.heap.size, rfl, ⟨_, _, _, ⟨D3.out, R1.out, R2.out, R3.out⟩, HG.out, fun n hn => by
          rcases hn with rfl | hn | hn | hn
          · exact Nat.le_refl _
          · exact N1.out n hn
          · exact N2.out n hn
          · exact N3.out n hn⟩, B3.out⟩
end Go.Proofs.Ytndiaflbagikoaa

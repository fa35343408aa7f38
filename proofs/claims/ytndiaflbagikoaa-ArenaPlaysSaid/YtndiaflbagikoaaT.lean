/- Copy. -/
import Derived.Test.YtndiaflbagikoaaS
import Derived.Deep.WholeRow
import Derived.StillTailTactics
import Derived.Outline
namespace Go.Proofs.Ytndiaflbagikoaa
open Go.ChangeShapes Go.WideShapes Go.ChangeAt Go.RowKit

theorem info73 : (Try.prog.info? 73).map (·.size) = some 192 := by kernel_rfl
theorem blkc_one (f : Nat → Sl) (j : Nat) : (blkc f j).all (·.oneCell') = true := by
  rw [Array.all_eq_true]
  intro i hi
  have e : (blkc f j)[i] = field (f (64 * j + i / 3)) (i % 3) := Array.getElem_ofFn _
  rw [e]
  unfold field
  split <;> rfl
theorem cell_alloc {w : World} {b o : Nat} {v : Value} (h : w.cell? ⟨b, o, none⟩ = some v) (x : Obj) : (w.alloc x).cell? ⟨b, o, none⟩ = some v :=
  (Below.cell (p := ⟨b, o, none⟩) (Below.alloc (Below.refl w.heap.size w) (Nat.le_refl _) x) (lt_of_cell h)).trans h
theorem ArM.shape {w : World} {b : Nat} {bs : List Nat} {v : Value} {slots begun used : Nat} {last : Int} {f : Nat → Sl} (h : ArM w b bs v slots begun used last f) : ∃ a cap, v = .slice a bs.length cap := by
  rcases h.row.2 with ⟨e, h0⟩ | ⟨g, cap, cur, e, _⟩
  · exact ⟨none, 0, by rw [e, h0]⟩
  · exact ⟨_, cap, e⟩
section
variable {w : World} {b : Nat} {bs : List Nat} {v : Value} {slots begun used : Nat} {last : Int} {f : Nat → Sl}
theorem ArM.grow2 {w1 w2 : World} {Z : Array Value} {v' : Value} {X : Obj} (h : ArM w1 b bs v slots begun used last f) (hz : Z = blkc f bs.length) (ho : w2.ownsRow 0 71 1 v' (bs.length + 1) (bs.map (fun k => Value.pointer (some ⟨k, 0, none⟩)) ++ [Value.pointer (some ⟨w1.heap.size, 0, none⟩)]))
    (hg : ((w1.alloc (.cells Z 73)).alloc X).grownBy w2 v.ownBlock) (hnew : ∀ g, v'.ownBlock = some g → v.ownBlock = some g ∨ w1.heap.size + 1 + 1 ≤ g) :
    ArM (w2.setCell ⟨b, 1, none⟩ v') b (bs ++ [w1.heap.size]) v' slots begun used last f ∧ Touch (Foot b bs v) w1 (w2.setCell ⟨b, 1, none⟩ v') ∧
      w2.heap[b]? = some (.cells #[.pointer (some ⟨b, 0, none⟩), v, .int .i64 slots, .int .i64 begun, .int .i64 used, .int .i64 last] 63 (0, 0)) := by
  have hbl := lt_of_block h.head
  have hT : Touch (fun k => v.ownBlock = some k) w1 w2 := ((Touch.refl _ _).alloc _).alloc _ |>.grown hg (fun k hk _ => hk)
  have hhead := hT.keep h.head h.vb
  have hvb' : v'.ownBlock ≠ some b := fun e => by
    rcases hnew b e with e' | e'
    · exact h.vb e'
    · omega
  have hbs : ∀ k ∈ bs, k < w1.heap.size := fun k hk => by
    obtain ⟨j, hj, rfl⟩ := List.getElem_of_mem hk
    exact lt_of_block (h.blk j hj)
  have hrow : w2.ownsRow 0 71 1 v' (bs ++ [w1.heap.size]).length ((bs ++ [w1.heap.size]).map fun k => .pointer (some ⟨k, 0, none⟩)) := by simpa using ho
  refine ⟨⟨?_, ownsRow_touch hrow (touch_one w2 b 1 v') (fun k hk e => hvb' (e ▸ hk)), fun j hj => ?_, ?_, ?_, hvb', fun k hk => ?_⟩, ?_, hhead⟩
  · rw [set_of hhead]; rfl
  · by_cases hjl : j < bs.length
    · have e : (bs ++ [w1.heap.size])[j] = bs[j] := List.getElem_append_left hjl
      rw [e]
      exact block_set (hT.keep (h.blk j hjl) (h.vbs _ (List.getElem_mem hjl))) (h.ne hjl) _
    · have hj' : j = bs.length := by simp at hj; omega
      subst hj'
      have e : (bs ++ [w1.heap.size])[bs.length] = w1.heap.size := by simp
      rw [e, ← hz]
      have e2 : w2.heap[w1.heap.size]? = some (.cells Z 73) := by
        rw [hg.block _ (by simp; omega) (fun e => ?_)]
        · exact block_old (block_new _ _) _
        · have := own_lt h.row e.symm; omega
      exact block_set e2 (by show w1.heap.size ≠ b; omega) _
  · rw [List.nodup_append]
    refine ⟨h.nodup, by simp, fun a ha c hc => ?_⟩
    simp at hc; subst hc; have := hbs a ha; omega
  · simp; exact ⟨h.hb, by omega⟩
  · intro e
    rcases hnew k e with e' | e'
    · simp at hk
      rcases hk with hk | hk
      · exact h.vbs k hk e'
      · have := own_lt h.row e'; omega
    · simp at hk
      rcases hk with hk | hk
      · have := hbs k hk; omega
      · omega
  · exact Touch.setCell (S := Foot b bs v) (hT.mono (fun k _ hk => Or.inr (Or.inr hk))) (fun _ => Or.inl rfl) _

end
/-- The two laws on whole rows, for an operation that is written out (so that a mismatch fails at once). -/
theorem wpList_load_row' {P : Program} {ops : Array Oper} {rest : List Oper} {a : Act} {w : World} {Q : Exit → Act → World → Prop} {dst : Option Tmp} {ty' : TypeId} {pos : String} {after : Array Edge} (ty : TypeId) (x : Operand)
    (g : Nat) (t : TypeId) (cs : Array Value) (fr : Nat × Nat) (d : TypeDesc) (hg : w.heap[g]? = some (.cells cs t fr)) (hx : a.eval x = .pointer (some ⟨g, 0, none⟩))
    (hu : P.underlying ty = some d) (hd : (match d with | .struct _ | .array _ _ => true | _ => false) = true) (hi : (P.info? ty).map (·.size) = some cs.size)
    (h : wpList P ops Q rest (a.put dst (.agg cs)) w) : wpList P ops Q (⟨dst, .load ty x, ty', pos, after, none⟩ :: rest) a w :=
  wpList_load_row rfl ty x rfl g hx t cs fr d hg hu hd hi h
theorem wpList_store_new {P : Program} {ops : Array Oper} {rest : List Oper} {a : Act} {w : World} {Q : Exit → Act → World → Prop} {dst : Option Tmp} {ty' : TypeId} {pos : String} {after : Array Edge} (ty : TypeId) (x y : Operand)
    (t : TypeId) (old cells : Array Value) (hx : a.eval x = .pointer (some ⟨w.heap.size, 0, none⟩)) (hy : a.eval y = .agg cells) (hi : (P.info? ty).map (·.size) = some cells.size)
    (hold : old.size = cells.size) (h1 : cells.all (·.oneCell') = true)
    (h : wpList P ops Q rest (a.put dst undef) (w.alloc (.cells cells t))) : wpList P ops Q (⟨dst, .store ty x y, ty', pos, after, none⟩ :: rest) a (w.alloc (.cells old t)) :=
  wpList_store_row rfl ty x y rfl w.heap.size cells hx hy t old (block_new _ _) hi hold h1 (by rw [World.setRow_alloc_new]; exact h)
def CopyRel (w : World) (c n : Nat) (slots begun used : Nat) (last : Int) (f : Nat → Sl) (vi : Value) (wr : World) : Prop :=
  ∃ (j : Nat) (bs : List Nat) (v : Value), j ≤ n ∧ vi = .int .i64 j ∧ bs.length = j ∧ ArM wr c bs v slots begun used last f ∧ (∀ k, Foot c bs v k → w.heap.size ≤ k) ∧ Below w.heap.size w wr

set_option maxRecDepth 100000 in
set_option maxHeartbeats 4000000 in
theorem copy_m {w : World} {b : Nat} {bs : List Nat} {v : Value} {slots begun used : Nat} {last : Int} {f : Nat → Sl} (h : ArM w b bs v slots begun used last f) (hbs : bs.length ≤ 100000) :
    Calls Try.prog 27 #[.pointer (some ⟨b, 0, none⟩)] w fun e w' => ∃ c bs' v', e = .returned (.pointer (some ⟨c, 0, none⟩)) ∧ ArM w' c bs' v' slots begun used last f ∧ bs'.length = bs.length ∧ (∀ k, Foot c bs' v' k → w.heap.size ≤ k) ∧ Below w.heap.size w w' := by
  obtain ⟨c0, c1, c2, c3, c4, c5⟩ := h.cells
  obtain ⟨va, vc, rfl⟩ := h.shape
  have H := Lib.hid h
  clear h
  have k1 := fun x => cell_alloc c1 x
  go_enter Try.func27, Try.ntmps27
  go_wp2_with fail
  refine (valid_yes _ _ c0).mono ?_; rintro e w' ⟨rfl, rfl⟩
  go_wp2_with fail
  go_still_tail 17, (by kernel_rfl)
  go_wp2_with fail
  clear k1 c0 c1 c2 c3 c4 c5
  go_loopw [5, 6, 37] (fun _ _ vi wr => CopyRel w w.heap.size bs.length slots begun used last f vi wr) (fun _ _ vi _ => bs.length - (intOf vi).toNat)
  case atStart => exact ⟨0, [], .slice none 0 0, Nat.zero_le _, rfl, rfl, ⟨block_drew (block_new _ _), World.ownsRow_nil _ _ _ _, by simp, by simp, by simp, by simp [Value.ownBlock], by simp⟩, by simp [Foot, Value.ownBlock], below_drewN (Below.alloc (Below.refl _ _) (Nat.le_refl _) _) 1⟩
  case round =>
    obtain ⟨j, bs', v', hj, rfl, hl, hm, hf, hbl⟩ := hrel
    have BL := Lib.hid hbl; have M := Lib.hid hm; have HF := Lib.hid hf; have HL := Lib.hid hl
    have HR := Lib.hid (H.out.keep (Touch.of_below BL.out (fun _ => False)) (fun _ _ h => h))
    clear hbl hm hf hl
    by_cases hlt : j < bs.length
    · obtain ⟨g, cap, hv, cg⟩ := HR.out.at_ hlt
      have hva : va = some ⟨g, 0, none⟩ := by cases hv; rfl
      subst hva
      have hblk := HR.out.blk j hlt
      have HB := Lib.hid hblk
      clear hv hblk
      generalize bs[j] = B at *
      have d1 := cell_of M.out.head 1; have e1 := free_of M.out.head 1
      simp at d1
      have k1 := fun x => cell_alloc d1 x
      have k2 := fun x y => cell_alloc (cell_alloc d1 x) y
      have h73 := zero73
      obtain ⟨i0, hi, hz0, hz1, hz2⟩ := info_parts info71
      have hsz : (Try.prog.info? 73).map (·.size) = some (blkc f j).size := by rw [info73, blkc_size]
      have HSZ := Lib.hid hsz
      clear hsz
      have hrow := M.out.row
      rw [HL.out] at hrow
      have MR := Lib.hid hrow; clear hrow
      have HZS := Lib.hid (show zblk.size = (blkc f j).size by rw [blkc_size]; exact blkc_size _ _)
      go_wp2_with (first | ((with_reducible refine wpList_load_row' 73 (.tmp 42) B 73 (blkc f j) (0, 0) _ HB.out ?_ Try.underlying73 ?_ HSZ.out ?_); exact rfl; exact rfl) | ((with_reducible refine wpList_store_new 73 (.tmp 6) (.tmp 43) 73 zblk (blkc f j) ?_ ?_ HSZ.out HZS.out (blkc_one _ _) ?_); exact rfl; exact rfl) | (at_builtin; refine wpList_append_mine _ rfl (.tmp 48) (.tmp 49) 61 rfl 71 i0 (.pointer none) 1 8 Try.underlying61 hi hz0 hz1 hz2 rfl (by decide) v' j _ rfl ((MR.out.alloc _).alloc _) ⟨wr.heap.size + 1, 0, none⟩ 1 1 [.pointer (some ⟨wr.heap.size, 0, none⟩)] rfl rfl ?_ ?_ ?_ ?_ ?_))
      · intro j u hj
        match j, hj with
        | 0, hj => simp at hj; subst hj; simp [Addr.add]
      · intro u hu; simp at hu; subst hu; rfl
      · unfold maxLen; omega
      · omega
      · intro v2 w2 hown hgrow hnew
        rw [← HL.out] at hown
        have G := M.out.grow2 (Z := blkc f j) (by rw [HL.out]) hown hgrow hnew
        have hex : ∃ g n cap, v2 = .slice (some ⟨g, 0, none⟩) n cap := by
          rcases hown.2 with ⟨_, h0⟩ | ⟨g, cap, cur, hv, _⟩
          · omega
          · exact ⟨g, _, cap, hv⟩
        have HS := Lib.hid BL.out.size
        have HF2 : Hid (∀ k, Foot w.heap.size (bs' ++ [wr.heap.size]) v2 k → w.heap.size ≤ k) := by
          intro k hk
          rcases hk with hk | hk | hk
          · exact HF.out k (Or.inl hk)
          · simp at hk
            rcases hk with hk | hk
            · exact HF.out k (Or.inr (Or.inl hk))
            · subst hk; exact HS.out
          · rcases hnew k hk with h | h
            · exact HF.out k (Or.inr (Or.inr h))
            · have := HS.out; omega
        have HM2 := Lib.hid G.1
        have BL2 := Lib.hid (BL.out.trans (G.2.1.below BL.out.size (fun k hk hfoot => by have := HF.out k hfoot; omega)))
        have d2 := cell_of G.2.2 1
        have e2 := free_of G.2.2 1
        simp at d2
        obtain ⟨g2, n2, cap2, rfl⟩ := hex
        clear hown hnew hgrow G k1 k2 d1 e1
        go_wp2_with fail
        go_roundw
        case rel => exact ⟨j + 1, _, _, by omega, by go_num, by simp [HL.out], HM2.out, HF2.out, BL2.out⟩
        case measure => simp [intOf]; omega
    · obtain rfl : j = bs.length := by omega
      go_wp2_with fail
      go_ret
      exact ⟨_, bs', v', rfl, M.out, HL.out, HF.out, BL.out⟩
/-- Copy. -/
theorem copy_is {w : World} {b : Nat} {A : Ar} {F : Nat → Prop} (h : IsAr w b A F) :
    Calls Try.prog 27 #[.pointer (some ⟨b, 0, none⟩)] w fun e w' => ∃ c, e = .returned (.pointer (some ⟨c, 0, none⟩)) ∧ IsAr w' c A (fun k => w.heap.size ≤ k) ∧ Below w.heap.size w w' := by
  obtain ⟨bs, v, h1, h2, h3, h4⟩ := h
  refine (copy_m h1 (by have := h3.max; have := h3.le; omega)).mono ?_
  rintro e w' ⟨c, bs', v', rfl, hm, hl, hf, hb⟩
  exact ⟨c, rfl, ⟨bs', v', hm, by rw [hl]; exact h2, h3, hf⟩, hb⟩
end Go.Proofs.Ytndiaflbagikoaa

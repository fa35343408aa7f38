/- Alloc where a block of slots is added. -/
import Derived.Test.YtndiaflbagikoaaB
namespace Go.Proofs.Ytndiaflbagikoaa
open Go.ChangeShapes Go.WideShapes Go.ChangeAt Go.RowKit
theorem own_lt {w : World} {e : TypeId} {size : Nat} {v : Value} {n : Nat} {xs : List Value} {g : Nat} (h : w.ownsRow 0 e size v n xs) (hv : v.ownBlock = some g) : g < w.heap.size := by
  rcases h.2 with ⟨rfl, _⟩ | ⟨g', cap, cur, rfl, _, hh, _⟩
  · simp [Value.ownBlock] at hv
  · simp [Value.ownBlock] at hv
    rw [← hv]
    exact lt_of_block hh
/-- The cells of a new block. -/
def zblk : Array Value := blkc (fun _ => ⟨0, 0, 0⟩) 0
theorem zero73 (w : World) : Sem.run Try.prog (zeroValue 73) w = .ok (.agg zblk) w := by kernel_rfl
theorem zblk_eq (f : Nat → Sl) (j : Nat) (h : ∀ n, 64 * j ≤ n → f n = ⟨0, 0, 0⟩) : zblk = blkc f j := by
  unfold zblk blkc
  congr 1
  funext k
  rw [h _ (by omega)]
theorem info71 : (Try.prog.info? 71).map (fun i => (i.zero, i.size, i.bytes)) = some (some (.pointer none), 1, 8) := by kernel_rfl
section
variable {w : World} {b : Nat} {bs : List Nat} {v : Value} {slots begun used : Nat} {last : Int} {f : Nat → Sl}
theorem ArM.grow {w1 w2 : World} {v' : Value} {X : Obj} (h : ArM w1 b bs v slots begun used last f) (hz : zblk = blkc f bs.length) (ho : w2.ownsRow 0 71 1 v' (bs.length + 1) (bs.map (fun k => Value.pointer (some ⟨k, 0, none⟩)) ++ [Value.pointer (some ⟨w1.heap.size, 0, none⟩)]))
    (hg : ((w1.alloc (.cells zblk 73)).alloc X).grownBy w2 v.ownBlock) (hnew : ∀ g, v'.ownBlock = some g → v.ownBlock = some g ∨ w1.heap.size + 1 + 1 ≤ g) :
    ArM (w2.setCell ⟨b, 1, none⟩ v') b (bs ++ [w1.heap.size]) v' slots begun used last f ∧ Touch (Foot b bs v) w1 (w2.setCell ⟨b, 1, none⟩ v') ∧
      w2.heap[b]? = some (.cells #[.pointer (some ⟨b, 0, none⟩), v, .int .i64 slots, .int .i64 begun, .int .i64 used, .int .i64 last] 63 (0, 0)) := by
  have hbl := lt_of_block h.head
  have hT : Touch (fun k => v.ownBlock = some k) w1 w2 := ((Touch.refl _ _).alloc _).alloc _ |>.grown hg (fun k hk _ => hk)
  have hhead := hT.keep h.head h.vb
  have hvb' : v'.ownBlock ≠ some b := fun e => by
    rcases hnew b e with e' | e'
    · exact h.vb e'
    · omega
  have hbs : ∀ k ∈ bs, k < w1.heap.size := fun k hk => by
    obtain ⟨j, hj, rfl⟩ := List.getElem_of_mem hk
    exact lt_of_block (h.blk j hj)
  have hrow : w2.ownsRow 0 71 1 v' (bs ++ [w1.heap.size]).length ((bs ++ [w1.heap.size]).map fun k => .pointer (some ⟨k, 0, none⟩)) := by simpa using ho
  refine ⟨⟨?_, ownsRow_touch hrow (touch_one w2 b 1 v') (fun k hk e => hvb' (e ▸ hk)), fun j hj => ?_, ?_, ?_, hvb', fun k hk => ?_⟩, ?_, hhead⟩
  · rw [set_of hhead]; rfl
  · by_cases hjl : j < bs.length
    · have e : (bs ++ [w1.heap.size])[j] = bs[j] := List.getElem_append_left hjl
      rw [e]
      exact block_set (hT.keep (h.blk j hjl) (h.vbs _ (List.getElem_mem hjl))) (h.ne hjl) _
    · have hj' : j = bs.length := by simp at hj; omega
      subst hj'
      have e : (bs ++ [w1.heap.size])[bs.length] = w1.heap.size := by simp
      rw [e, ← hz]
      have e2 : w2.heap[w1.heap.size]? = some (.cells zblk 73) := by
        rw [hg.block _ (by simp; omega) (fun e => ?_)]
        · exact block_old (block_new _ _) _
        · have := own_lt h.row e.symm; omega
      exact block_set e2 (by show w1.heap.size ≠ b; omega) _
  · rw [List.nodup_append]
    refine ⟨h.nodup, by simp, fun a ha c hc => ?_⟩
    simp at hc; subst hc; have := hbs a ha; omega
  · simp; exact ⟨h.hb, by omega⟩
  · intro e
    rcases hnew k e with e' | e'
    · simp at hk
      rcases hk with hk | hk
      · exact h.vbs k hk e'
      · have := own_lt h.row e'; omega
    · simp at hk
      rcases hk with hk | hk
      · have := hbs k hk; omega
      · omega
  · exact Touch.setCell (S := Foot b bs v) (hT.mono (fun k _ hk => Or.inr (Or.inr hk))) (fun _ => Or.inl rfl) _

set_option maxHeartbeats 1000000 in
theorem alloc_grow (h : ArM w b bs v slots begun used (-1) f) (hf : ∀ n, begun ≤ n → f n = ⟨0, 0, 0⟩) (hl : begun < slots) (hk : begun / 64 = bs.length) (h64 : begun % 64 = 0) (hm : begun < 1000000) (hu : used < 1000000) :
    Calls Try.prog 18 #[.pointer (some ⟨b, 0, none⟩)] w fun e w' => e = .returned (.tuple #[.int .i64 begun, .int .i64 0]) ∧ (∃ B v', ArM w' b (bs ++ [B]) v' slots (begun + 1) (used + 1) (-1) (upd f begun ⟨1, -1, inc (f begun).tm⟩) ∧ ∀ k, Foot b (bs ++ [B]) v' k → Foot b bs v k ∨ w.heap.size ≤ k) ∧ Touch (Foot b bs v) w w' := by
  obtain ⟨c0, c1, c2, c3, c4, c5⟩ := h.cells
  have hq : ((begun : Int) % 64 == 0) = true := by simp; omega
  have hq2 : ((begun : Int) == -1) = false := by simp
  have H := Lib.hid h
  have HZ := Lib.hid (zblk_eq f bs.length (fun n hn => hf n (by omega)))
  clear h c1 c2 c4 h64 hf
  go_enter Try.func18, Try.ntmps18
  go_wp2_with fail
  refine (valid_yes _ _ c0).mono ?_; rintro e w' ⟨rfl, rfl⟩
  go_wp2_with fail
  refine (next_fresh H.out hl).mono ?_; rintro e w1 ⟨rfl, hb1⟩
  have HM1 := Lib.hid (H.out.keep (Touch.of_below hb1 (fun _ => False)) (fun _ _ h => h))
  have T0 := Lib.hid (Touch.of_below hb1 (Foot b bs v))
  clear hb1 c0 c3 c5
  obtain ⟨c0, c1, c2, c3, c4, c5⟩ := HM1.out.cells
  have fb := free_of HM1.out.head 3
  clear c0 c2 c4
  have h73 := zero73
  obtain ⟨i0, hi, hz0, hz1, hz2⟩ := info_parts info71
  have hrow := HM1.out.row
  have HR := Lib.hid hrow; clear hrow
  go_wp2_with (at_builtin; go_loud (refine wpList_append_mine _ rfl (.tmp 39) (.tmp 41) 61 rfl 71 i0 (.pointer none) 1 8 Try.underlying61 hi hz0 hz1 hz2 rfl (by decide) v bs.length _ rfl ((HR.out.alloc _).alloc _) ⟨w1.heap.size + 1, 0, none⟩ 1 1 [.pointer (some ⟨w1.heap.size, 0, none⟩)] rfl rfl ?_ ?_ ?_ ?_ ?_))
  · intro j u hj
    match j, hj with
    | 0, hj => simp at hj; subst hj; simp [Addr.add]
  · intro u hu; simp at hu; subst hu; rfl
  · unfold maxLen; omega
  · omega
  · intro v' w2 hown hgrow hnew
    have G := HM1.out.grow HZ.out hown hgrow hnew
    have HS1 := Lib.hid T0.out.size
    have hex : ∃ g n cap, v' = .slice (some ⟨g, 0, none⟩) n cap := by
      rcases hown.2 with ⟨_, h0⟩ | ⟨g, cap, cur, hv, _⟩
      · omega
      · exact ⟨g, _, cap, hv⟩
    have HF : Hid (∀ k, Foot b (bs ++ [w1.heap.size]) v' k → Foot b bs v k ∨ w.heap.size ≤ k) := by
      intro k hk
      rcases hk with hk | hk | hk
      · exact Or.inl (Or.inl hk)
      · simp at hk
        rcases hk with hk | hk
        · exact Or.inl (Or.inr (Or.inl hk))
        · subst hk; exact Or.inr HS1.out
      · rcases hnew k hk with h | h
        · exact Or.inl (Or.inr (Or.inr h))
        · exact Or.inr (by have := HS1.out; omega)
    obtain ⟨g, n, cap, rfl⟩ := hex
    have T1 := Lib.hid (T0.out.trans G.2.1)
    have HM2 := Lib.hid G.1
    have d1 := cell_of G.2.2 1; have d3 := cell_of G.2.2 3
    have e1 := free_of G.2.2 1; have e3 := free_of G.2.2 3
    simp at d1 d3
    clear hown hnew hgrow G c1 c3 c5 fb
    go_wp2_with fail
    have M1 := HM2.out.begun_set (begun + 1)
    obtain ⟨W, hW⟩ : ∃ W, W = (w2.setCell ⟨b, 1, none⟩ (.slice (some ⟨g, 0, none⟩) n cap)).setCell ⟨b, 3, none⟩ (.int .i64 ((begun : Int) + 1)) := ⟨_, rfl⟩
    have T2 : Hid (Touch (Foot b bs v) w W) := by rw [hW]; exact T1.out.trans ((Touch.refl _ _).setCell (fun _ => Or.inl rfl) _)
    rw [show (((begun + 1 : Nat) : Int)) = (begun : Int) + 1 by omega] at M1
    rw [← hW] at M1 ⊢
    have HM := Lib.hid M1
    clear hW M1 d1 d3 e1 e3
    have hk' : begun / 64 < (bs ++ [w1.heap.size]).length := by simp; omega
    have hB : (bs ++ [w1.heap.size])[begun / 64]'hk' = w1.heap.size := by simp [hk]
    obtain ⟨c0, c1, c2, c3, c4, c5⟩ := HM.out.cells
    have fb := free_of HM.out.head 4
    have d0 : W.cell? ⟨(bs ++ [w1.heap.size])[begun / 64], begun % 64 * 3, none⟩ = some (.int .i64 (f begun).st) := HM.out.slot hk' 0 (by omega)
    have d1 : W.cell? ⟨(bs ++ [w1.heap.size])[begun / 64], begun % 64 * 3 + 1, none⟩ = some (.int .i64 (f begun).af) := HM.out.slot hk' 1 (by omega)
    have d2 : W.cell? ⟨(bs ++ [w1.heap.size])[begun / 64], begun % 64 * 3 + 2, none⟩ = some (.int .u64 (f begun).tm) := HM.out.slot hk' 2 (by omega)
    have f0 := free_of (HM.out.blk _ hk') (begun % 64 * 3)
    have f1 := free_of (HM.out.blk _ hk') (begun % 64 * 3 + 1)
    have f2 := free_of (HM.out.blk _ hk') (begun % 64 * 3 + 2)
    have hne := HM.out.ne hk'
    have TK := Lib.hid (taken HM.out hk')
    have AT := Lib.hid (at_any HM.out begun hk' hm)
    rw [hB] at d0 d1 d2 f0 f1 f2 hne TK AT
    refine (AT.out).mono ?_; rintro e w' ⟨rfl, rfl⟩
    clear c0 c1 c2 c3 c5 hB hk'
    have HNB := Lib.hid (show w.heap.size ≤ w1.heap.size from HS1.out)
    generalize hBB : w1.heap.size = B at *
    clear hBB
    go_wp2_with fail
    go_ret2
    have tk := TK.out
    exact ⟨rfl, ⟨B, _, tk.1, HF.out⟩, Touch.trans' T2.out tk.2 (fun k hk h => (HF.out k h).elim id (fun h => absurd h (by omega)))⟩
end
end Go.Proofs.Ytndiaflbagikoaa

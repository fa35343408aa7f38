/- The document's Free; Alloc of a full arena. -/
import Derived.Test.YtndiaflbagikoaaZ
namespace Go.Proofs.Ytndiaflbagikoaa
open Go.ChangeShapes Go.WideShapes Go.ChangeAt Go.RowKit

theorem ralloc_none {w : World} {c : Nat} {A : Ar} {F : Nat → Prop} (h : IsRef w c A F) (hk : A.next = none) {m : Int} (hm : Tkn A m) :
    Calls Try.prog 28 #[.pointer (some ⟨c, 0, none⟩)] w fun e w' => e = .returned (.tuple #[.int .i64 0, .int .i64 4]) ∧ Below w.heap.size w w' := by
  have HNX := Lib.hid (rnext_is h hm)
  have hnx : nxt A = 0 ∧ nxb A = false := by simp [nxt, nxb, hk]
  rw [hnx.1, hnx.2] at HNX
  obtain ⟨vu, vt, vr, h1, _, _⟩ := h
  obtain ⟨c0, _, _, _, _⟩ := h1.cells
  clear h1 hk hm hnx
  go_enter Try.func28, Try.ntmps28
  go_wp2_with fail
  refine (rvalid_yes c0).mono ?_; rintro e w' ⟨rfl, rfl⟩
  go_wp2_with fail
  refine (HNX.out).mono ?_; rintro e w1 ⟨rfl, hb⟩
  have B1 := Lib.hid hb
  clear hb c0
  go_wp2_with fail
  go_ret2
  exact ⟨rfl, B1.out⟩
theorem rfree_far {w : World} {c : Nat} {A : Ar} {F : Nat → Prop} (h : IsRef w c A F) (i : Int) (hi : i < 0 ∨ (A.slots : Int) ≤ i) :
    Calls Try.prog 29 #[.pointer (some ⟨c, 0, none⟩), .int .i64 i] w fun e w' => e = .returned (.int .i64 3) ∧ w = w' := by
  obtain ⟨vu, vt, vr, h1, h2, h3⟩ := h
  obtain ⟨c0, c1, c2, c3, c4⟩ := h1.cells
  have H := Lib.hid hi
  clear h1 h2 h3 hi c2 c3 c4
  generalize A.slots = n at *
  go_enter Try.func29, Try.ntmps29
  go_wp2_with (first | (go_at_call 40; refine (rvalid_yes c0).mono ?_; rintro e w' ⟨rfl, rfl⟩) | (go_at_call 41; refine (rexists_far c0 c1 i H.out).mono ?_; rintro e w' ⟨rfl, rfl⟩))
  go_ret
  exact ⟨rfl, rfl⟩
theorem rfree_none {w : World} {c : Nat} {A : Ar} {F : Nat → Prop} (h : IsRef w c A F) (k : Nat) (hk : k < A.slots) (hu : A.inUse k = false) :
    Calls Try.prog 29 #[.pointer (some ⟨c, 0, none⟩), .int .i64 k] w fun e w' => e = .returned (.int .i64 5) ∧ w = w' := by
  obtain ⟨vu, vt, vr, h1, h2, h3⟩ := h
  obtain ⟨c0, c1, c2, c3, c4⟩ := h1.cells
  obtain ⟨g, cap, cur, rfl, hnc, hcm, hg, hcur, _⟩ := row_at h1.u hk
  have cg : w.cell? ⟨g, k, none⟩ = some (.bool false) := by rw [cell_of hg, hcur, useL_at hk, hu]
  have hm := h2.max
  clear h1 h2 h3 hcur hg c3 c4 hu
  unfold maxLen at hcm
  generalize A.slots = n at *
  go_enter Try.func29, Try.ntmps29
  go_wp2_with (first | (go_at_call 40; refine (rvalid_yes c0).mono ?_; rintro e w' ⟨rfl, rfl⟩) | (go_at_call 41; refine (rexists_yes c0 c1 k hk).mono ?_; rintro e w' ⟨rfl, rfl⟩))
  go_ret
  exact ⟨rfl, rfl⟩
theorem ref_given {w w2 : World} {c gu cu k : Nat} {vt vr v' : Value} {A : Ar} {F : Nat → Prop} {o : Obj} (hg : A.Good) (hk : A.inUse k = true) (h : RefM w c (.slice (some ⟨gu, 0, none⟩) A.slots cu) vt vr A)
    (hF : ∀ n, FootR c (.slice (some ⟨gu, 0, none⟩) A.slots cu) vt vr n → F n)
    (ho : w2.ownsRow 0 3 1 v' (A.stack.length + 1) (retL A ++ [cellN k])) (hgr : ((w.setCell ⟨gu, k, none⟩ (.bool false)).alloc o).grownBy w2 vr.ownBlock) (hn : ∀ g, v'.ownBlock = some g → vr.ownBlock = some g ∨ w.heap.size + 1 ≤ g) :
    IsRef (w2.setCell ⟨c, 4, none⟩ v') c (A.push k) (fun n => F n ∨ w.heap.size ≤ n) ∧ Touch F w (w2.setCell ⟨c, 4, none⟩ v') ∧ w2.heap[c]? = some (.cells #[.bool true, .int .i64 A.slots, .slice (some ⟨gu, 0, none⟩) A.slots cu, vt, vr] 76 (0, 0)) := by
  have e1 : (useL A).set k (.bool false) = useL (A.push k) := useL_set rfl (fun i => push_use i)
  have nuc : gu ≠ c := fun e => row_head h.u h.head (by decide) (by rw [e]; rfl)
  have ntu : vt.ownBlock ≠ some gu := row_type h.u h.t (by decide) (g := gu) rfl
  have hu1 := row_set h.u (g := gu) rfl (k := k) (.bool false)
  have ht1 := ownsRow_touch h.t (touch_one w gu k (.bool false)) (fun n hn e => ntu (e ▸ hn))
  have hh1 := block_set h.head (p := ⟨gu, k, none⟩) (fun e => nuc e.symm) (.bool false)
  have hT : Touch (fun n => vr.ownBlock = some n) (w.setCell ⟨gu, k, none⟩ (.bool false)) w2 := ((Touch.refl _ _).alloc _).grown hgr (fun n hn _ => hn)
  have hru := row_type h.u h.r (by decide) (g := gu) rfl
  have hh2 := hT.keep hh1 (row_head h.r h.head (by decide))
  have hu2 := ownsRow_touch hu1 hT (fun n hn e => by cases hn; exact hru e)
  have ht2 := ownsRow_touch ht1 hT (fun n hn e => row_type h.t h.r (by decide) hn e)
  have hh3 := set_of hh2 4 v'
  have hu3 := ownsRow_touch hu2 (touch_one w2 c 4 v') (fun n hn e => row_head hu2 hh2 (by decide) (e ▸ hn))
  have ht3 := ownsRow_touch ht2 (touch_one w2 c 4 v') (fun n hn e => row_head ht2 hh2 (by decide) (e ▸ hn))
  have hr3 := ownsRow_touch ho (touch_one w2 c 4 v') (fun n hn e => row_head ho hh2 (by decide) (e ▸ hn))
  rw [e1] at hu3
  have er : retL (A.push k) = retL A ++ [cellN k] := by simp [retL, Ar.push]
  refine ⟨⟨_, vt, v', ⟨hh3, hu3, ht3, by rw [er]; exact hr3⟩, push_good hg hk, fun n hn' => ?_⟩, ?_, hh2⟩
  · rcases hn' with rfl | hn' | hn' | hn'
    · exact Or.inl (hF _ (Or.inl rfl))
    · exact Or.inl (hF n (Or.inr (Or.inl hn')))
    · exact Or.inl (hF n (Or.inr (Or.inr (Or.inl hn'))))
    · rcases hn n hn' with e | e
      · exact Or.inl (hF n (Or.inr (Or.inr (Or.inr e))))
      · exact Or.inr (by omega)
  · have t1 : Touch F w (w.setCell ⟨gu, k, none⟩ (.bool false)) := (Touch.refl F w).setCell (p := ⟨gu, k, none⟩) (fun _ => hF gu (Or.inr (Or.inl rfl))) _
    exact (t1.trans (hT.mono (fun n _ hn => hF n (Or.inr (Or.inr (Or.inr hn)))))).setCell (p := ⟨c, 4, none⟩) (fun _ => hF c (Or.inl rfl)) v'

set_option maxHeartbeats 2000000 in
theorem rfree_some {w : World} {c : Nat} {A : Ar} {F : Nat → Prop} (h : IsRef w c A F) (k : Nat) (hk : A.inUse k = true) :
    Calls Try.prog 29 #[.pointer (some ⟨c, 0, none⟩), .int .i64 k] w fun e w' => e = .returned (.int .i64 0) ∧ IsRef w' c (A.push k) (fun n => F n ∨ w.heap.size ≤ n) ∧ Touch F w w' := by
  have hkn : k < A.slots := by have := h.good.le; simp [Ar.inUse] at hk; omega
  have hmax := h.good.max
  have hsl : A.stack.length ≤ 65536 := by have := stack_le h.good; have := h.good.le; omega
  obtain ⟨vu, vt, vr, h1, h2, h3⟩ := h
  obtain ⟨c0, c1, c2, c3, c4⟩ := h1.cells
  obtain ⟨gu, cu, curu, rfl, hnu, hmu, hgu, hku, _⟩ := row_at h1.u hkn
  obtain ⟨va, vc, hvr, _, _⟩ := row_shape h1.r
  subst hvr
  have M := Lib.hid h1; have HG := Lib.hid h2; have HF := Lib.hid h3; have HK := Lib.hid hk
  have nuc : gu ≠ c := fun e => row_head h1.u h1.head (by decide) (by rw [e]; rfl)
  have cg : w.cell? ⟨gu, k, none⟩ = some (.bool true) := by rw [cell_of hgu, hku, useL_at hkn, hk]
  have fg : w.frozen? ⟨gu, k, none⟩ = false := free_of hgu k
  have d4 := cell_of (block_set h1.head (p := ⟨gu, k, none⟩) (fun e => nuc e.symm) (.bool false)) 4
  simp at d4
  have hr1 := ownsRow_touch h1.r (touch_one w gu k (.bool false)) (fun n hn e => row_type h1.u h1.r (by decide) (g := gu) rfl (e ▸ hn))
  have OW := Lib.hid hr1
  unfold maxLen at hmu
  obtain ⟨i0, hi, hz0, hz1, hz2⟩ := info_parts info3
  clear h1 h2 h3 hku hgu hk c3 c4 nuc hr1
  have d5 := cell_alloc d4
  go_enter Try.func29, Try.ntmps29
  go_wp2_with (first | (go_at_call 40; refine (rvalid_yes c0).mono ?_; rintro e w' ⟨rfl, rfl⟩) | (go_at_call 41; refine (rexists_yes c0 c1 k hkn).mono ?_; rintro e w' ⟨rfl, rfl⟩) | (at_builtin; refine wpList_append_mine _ rfl (.tmp 30) (.tmp 32) 32 rfl 3 i0 (.int .i64 0) 1 8 Try.underlying32 hi hz0 hz1 hz2 rfl (by decide) _ _ _ rfl (OW.out.alloc _) ⟨w.heap.size, 0, none⟩ 1 1 [cellN k] rfl rfl ?_ ?_ ?_ ?_ ?_))
  · intro j u hj
    match j, hj with
    | 0, hj =>
      simp at hj; subst hj
      have := cell_of (block_new (w.setCell ⟨gu, k, none⟩ (.bool false)) (.cells #[.int .i64 k] 3)) 0
      rw [World.size_setCell] at this
      simpa [Addr.add, cellN] using this
  · intro u hu; simp at hu; subst hu; rfl
  · unfold maxLen; omega
  · omega
  · intro v' w2 ho hg hn
    have G := ref_given HG.out HK.out M.out HF.out ho hg hn
    have HGG := Lib.hid (And.intro G.1 G.2.1)
    have e4 := cell_of G.2.2 4
    simp at e4
    have f4 := free_of G.2.2 4
    obtain ⟨va2, vc2, hv2, _, _⟩ := row_shape ho
    subst hv2
    clear ho hg hn G d4 d5 cg fg
    go_wp2_with fail
    go_ret
    exact ⟨rfl, HGG.out.1, HGG.out.2⟩
end Go.Proofs.Ytndiaflbagikoaa

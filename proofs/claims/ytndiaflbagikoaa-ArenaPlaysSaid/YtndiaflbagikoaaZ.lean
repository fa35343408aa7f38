/- The document's Alloc, Free and Copy. -/
import Derived.Test.YtndiaflbagikoaaY
namespace Go.Proofs.Ytndiaflbagikoaa
open Go.ChangeShapes Go.WideShapes Go.ChangeAt Go.RowKit

theorem cntL_set {A A' : Ar} {k : Nat} (hs : A'.slots = A.slots) (h : ∀ i, A'.count i = if i = k then A'.count k else A.count i) : (cntL A).set k (.int .u64 (A'.count k)) = cntL A' := by
  apply List.ext_getElem?
  intro i
  rw [List.getElem?_set]
  by_cases hi : i < A.slots
  · rw [cntL_at (A := A') (by omega), cntL_at hi, h i]
    by_cases e : k = i
    · subst e; simp [cntL, hi]
    · rw [if_neg e, if_neg (fun e' => e e'.symm)]
  · simp [cntL, hs, hi]
    intro e; omega
theorem useL_set {A A' : Ar} {k : Nat} {b : Bool} (hs : A'.slots = A.slots) (h : ∀ i, A'.inUse i = if i = k then b else A.inUse i) : (useL A).set k (.bool b) = useL A' := by
  apply List.ext_getElem?
  intro i
  rw [List.getElem?_set]
  by_cases hi : i < A.slots
  · rw [useL_at (A := A') (by omega), useL_at hi, h i]
    by_cases e : k = i
    · subst e; simp [useL, hi]
    · rw [if_neg e, if_neg (fun e' => e e'.symm)]
  · simp [useL, hs, hi]
    intro e; omega
theorem pop_count {A : Ar} (hg : A.Good) {k : Nat} (h : A.next = some k) {m : Int} (hm : Tkn A m) (hm2 : m ≤ 1000000) (i : Nat) : A.pop.count i = if i = k then A.count k + 1 else A.count i := by
  obtain ⟨slots, begun, stack, times⟩ := A
  rcases next_cases h with ⟨t, hs⟩ | ⟨hs, rfl, h2⟩
  · simp only at hs; subst hs
    have hx : k < begun := hg.lt k (by simp)
    have hmk : 1 ≤ times k ∧ times k ≤ m := hm k hx
    by_cases hi : i = k
    · subst hi
      simp only [Ar.count, Ar.pop, tick, if_pos hx, if_true]
      exact inc_small (by omega) (by omega)
    · simp [Ar.count, Ar.pop, tick, hi]
  · simp only at hs; subst hs
    by_cases hi : i = k
    · subst hi; simp [Ar.count, Ar.pop]
    · rw [if_neg hi]
      by_cases hb : i < k
      · simp [Ar.count, Ar.pop, hb, hi, show i < k + 1 by omega]
      · simp [Ar.count, Ar.pop, hb, show ¬ i < k + 1 by omega]
theorem tkn_pop {A : Ar} (hg : A.Good) {k : Nat} (h : A.next = some k) {m : Int} (hm : Tkn A m) (h0 : 0 ≤ m) (hm2 : m ≤ 1000000) : Tkn A.pop (m + 1) := by
  intro i hi
  have hc := pop_count hg h hm hm2 i
  have e : A.pop.count i = A.pop.times i := by simp [Ar.count, hi]
  rw [← e, hc]
  by_cases hb : i < A.begun
  · have h1 := hm i hb
    have e2 : A.count i = A.times i := by simp [Ar.count, hb]
    split
    · rename_i hik; subst hik; omega
    · omega
  · have e2 : A.count i = 0 := by simp [Ar.count, hb]
    have hik : i = k := by
      rcases next_cases h with ⟨t, hs⟩ | ⟨hs, rfl, h2⟩
      · have : A.pop.begun = A.begun := by unfold Ar.pop; rw [hs]
        omega
      · have : A.pop.begun = A.begun + 1 := by unfold Ar.pop; rw [hs]
        omega
    subst hik
    simp [e2]; omega
theorem tkn_push {A : Ar} {k : Nat} {m : Int} (hm : Tkn A m) : Tkn (A.push k) m := hm
theorem tkn_mono {A : Ar} {m m' : Int} (hm : Tkn A m) (h : m ≤ m') : Tkn A m' := fun i hi => ⟨(hm i hi).1, Int.le_trans (hm i hi).2 h⟩
theorem count_le {A : Ar} {m : Int} (hm : Tkn A m) (h0 : 0 ≤ m) (k : Nat) : 0 ≤ A.count k ∧ A.count k ≤ m := by
  unfold Ar.count; split
  · have := hm k (by assumption); omega
  · omega

/-- After the flag and the count were turned. -/
theorem ref_taken {w : World} {c gu gt cu ct k : Nat} {vr : Value} {A : Ar} {F : Nat → Prop} (hg : A.Good) (hk : A.next = some k) {m : Int} (hm : Tkn A m) (hm2 : m ≤ 1000000)
    (hh : w.heap[c]? = some (.cells #[.bool true, .int .i64 A.slots, .slice (some ⟨gu, 0, none⟩) A.slots cu, .slice (some ⟨gt, 0, none⟩) A.slots ct, vr] 76 (0, 0)))
    (hu : w.ownsRow 0 4 1 (.slice (some ⟨gu, 0, none⟩) A.slots cu) A.slots (useL A)) (ht : w.ownsRow 0 40 1 (.slice (some ⟨gt, 0, none⟩) A.slots ct) A.slots (cntL A))
    (hr : w.ownsRow 0 3 1 vr A.pop.stack.length (retL A.pop)) (hF : ∀ n, FootR c (.slice (some ⟨gu, 0, none⟩) A.slots cu) (.slice (some ⟨gt, 0, none⟩) A.slots ct) vr n → F n) :
    IsRef ((w.setCell ⟨gu, k, none⟩ (.bool true)).setCell ⟨gt, k, none⟩ (.int .u64 (A.count k + 1))) c A.pop F ∧ Touch F w ((w.setCell ⟨gu, k, none⟩ (.bool true)).setCell ⟨gt, k, none⟩ (.int .u64 (A.count k + 1))) := by
  have es := pop_slots A
  have e1 : (useL A).set k (.bool true) = useL A.pop := useL_set es (fun i => pop_use hg hk i)
  have e2 : (cntL A).set k (.int .u64 (A.count k + 1)) = cntL A.pop := by
    have hc := pop_count hg hk hm hm2
    have := cntL_set (k := k) es (fun i => by rw [hc i, hc k]; simp)
    rwa [hc k, if_pos rfl] at this
  have nuc : gu ≠ c := fun e => row_head hu hh (by decide) (by rw [e]; rfl)
  have ntc : gt ≠ c := fun e => row_head ht hh (by decide) (by rw [e]; rfl)
  have ntu : gt ≠ gu := fun e => row_type hu ht (by decide) (g := gu) rfl (by rw [e]; rfl)
  have nru : vr.ownBlock ≠ some gu := row_type hu hr (by decide) (g := gu) rfl
  have nrt : vr.ownBlock ≠ some gt := row_type ht hr (by decide) (g := gt) rfl
  have hu1 := row_set hu (g := gu) rfl (k := k) (.bool true)
  have ht1 := ownsRow_touch ht (touch_one w gu k (.bool true)) (fun n hn e => by cases hn; exact ntu e)
  have hr1 := ownsRow_touch hr (touch_one w gu k (.bool true)) (fun n hn e => nru (e ▸ hn))
  have hh1 := block_set hh (p := ⟨gu, k, none⟩) (fun e => nuc e.symm) (.bool true)
  have hu2 := ownsRow_touch hu1 (touch_one _ gt k (.int .u64 (A.count k + 1))) (fun n hn e => by cases hn; exact ntu e.symm)
  have ht2 := row_set ht1 (g := gt) rfl (k := k) (.int .u64 (A.count k + 1))
  have hr2 := ownsRow_touch hr1 (touch_one _ gt k (.int .u64 (A.count k + 1))) (fun n hn e => nrt (e ▸ hn))
  have hh2 := block_set hh1 (p := ⟨gt, k, none⟩) (fun e => ntc e.symm) (.int .u64 (A.count k + 1))
  rw [e1] at hu2
  rw [e2] at ht2
  refine ⟨⟨_, _, vr, ⟨by rw [es]; exact hh2, by rw [es]; exact hu2, by rw [es]; exact ht2, hr2⟩, pop_good hg hk, hF⟩, ?_⟩
  exact ((Touch.refl F w).setCell (p := ⟨gu, k, none⟩) (fun _ => hF gu (Or.inr (Or.inl rfl))) _).setCell (p := ⟨gt, k, none⟩) (fun _ => hF gt (Or.inr (Or.inr (Or.inl rfl)))) _
theorem ref_short {w : World} {c gr cr x : Nat} {t : List Nat} {vu vt : Value} {A : Ar} (hs : A.stack = x :: t) (h : RefM w c vu vt (.slice (some ⟨gr, 0, none⟩) (t.length + 1) cr) A) :
    (w.setCell ⟨c, 4, none⟩ (.slice (some ⟨gr, 0, none⟩) t.length cr)).ownsRow 0 3 1 (.slice (some ⟨gr, 0, none⟩) t.length cr) A.pop.stack.length (retL A.pop) := by
  have es : A.pop.stack = t := by unfold Ar.pop; rw [hs]
  have hr := h.r
  have e0 : A.stack.length = t.length + 1 := by rw [hs]; rfl
  rw [e0] at hr
  have h1 := row_short hr (show t.length ≤ t.length + 1 by omega)
  have e1 : (retL A).take t.length = retL A.pop := by
    unfold retL; rw [hs, es]
    simp [List.map_append, List.take_append]
  rw [e1] at h1
  rw [es]
  have hne : gr ≠ c := fun e => row_head h.r h.head (by decide) (by rw [e]; rfl)
  exact ownsRow_touch h1 (touch_one w c 4 _) (fun n hn e => by cases hn; exact hne e)

set_option maxHeartbeats 2000000 in
theorem ralloc_some {w : World} {c : Nat} {A : Ar} {F : Nat → Prop} (h : IsRef w c A F) (k : Nat) (hk : A.next = some k) {m : Int} (hm : Tkn A m) (h0 : 0 ≤ m) (hm2 : m ≤ 1000000) :
    Calls Try.prog 28 #[.pointer (some ⟨c, 0, none⟩)] w fun e w' => e = .returned (.tuple #[.int .i64 k, .int .i64 0]) ∧ IsRef w' c A.pop F ∧ Touch F w w' := by
  have hkn := next_lt h.good hk
  have HNX := Lib.hid (rnext_is h hm)
  have hnx : nxt A = k ∧ nxb A = true := by simp [nxt, nxb, hk]
  rw [hnx.1, hnx.2] at HNX
  clear hnx
  have H := Lib.hid h
  obtain ⟨vu, vt, vr, h1, _, _⟩ := h
  obtain ⟨c0, _, _, _, _⟩ := h1.cells
  have hmax := H.out.good.max
  have hcl := count_le hm h0 k
  have HK := Lib.hid hk; have HM := Lib.hid hm
  clear h1 hk hm
  go_enter Try.func28, Try.ntmps28
  go_wp2_with fail
  refine (rvalid_yes c0).mono ?_; rintro e w' ⟨rfl, rfl⟩
  go_wp2_with fail
  refine (HNX.out).mono ?_; rintro e w1 ⟨rfl, hb⟩
  have R1 := Lib.hid (H.out.below hb); have T1 := Lib.hid (Touch.of_below hb F)
  clear hb c0
  obtain ⟨vu, vt, vr, h1, hgood, hF⟩ := R1.out
  obtain ⟨gu, cu, curu, rfl, hnu, hmu, hgu, hku, _⟩ := row_at h1.u hkn
  obtain ⟨gt, ct, curt, rfl, hnt, hmt, hgt, hkt, _⟩ := row_at h1.t hkn
  rw [useL_at hkn] at hku
  rw [cntL_at hkn] at hkt
  unfold maxLen at hmu hmt
  have M := Lib.hid h1; have HF := Lib.hid hF
  clear h1 hgood hF
  have huc := Lib.hid (row_head M.out.u M.out.head (by decide)); have htc := Lib.hid (row_head M.out.t M.out.head (by decide)); have hut := Lib.hid (row_type M.out.u M.out.t (by decide) (g := gu) rfl)
  have nuc : gu ≠ c := fun e => huc.out (by rw [e]; rfl)
  have ntc : gt ≠ c := fun e => htc.out (by rw [e]; rfl)
  have ntu : gt ≠ gu := fun e => hut.out (by rw [e]; rfl)
  have NE := Lib.hid (And.intro nuc (And.intro ntc ntu))
  obtain ⟨c0, c1, c2, c3, c4⟩ := M.out.cells
  have hcw : IntKind.u64.wrap (A.count k + 1) = A.count k + 1 := IntWalk.u64_in _ (by omega)
  cases hs : A.stack with
  | nil =>
    have hr := M.out.r
    rw [hs] at hr
    obtain ⟨ra, rc, rfl, _, _⟩ := row_shape hr
    have HS := Lib.hid hs
    have hln : ([] : List Nat).length = 0 := rfl
    rw [hln] at c4
    clear hr hs hln
    have f1 : w1.frozen? ⟨gu, k, none⟩ = false := free_of hgu k
    have d1 : w1.cell? ⟨gu, k, none⟩ = some (.bool (A.inUse k)) := by rw [cell_of hgu]; exact hku
    have W2 : (w1.setCell ⟨gu, k, none⟩ (.bool true)).heap[c]? = _ := block_set M.out.head (fun e => nuc e.symm) _
    have W3 : (w1.setCell ⟨gu, k, none⟩ (.bool true)).heap[gt]? = _ := block_set hgt ntu _
    have d2 := cell_of W2 3
    simp at d2
    have d3 : (w1.setCell ⟨gu, k, none⟩ (.bool true)).cell? ⟨gt, k, none⟩ = some (.int .u64 (A.count k)) := by rw [cell_of W3]; exact hkt
    have f3 := free_of W3 k
    have HC := Lib.hid (And.intro W2 W3)
    clear W2 W3 nuc ntc ntu hgu hgt hku hkt huc htc hut
    go_wp2_with fail
    go_ret2
    have es : A.pop.stack = [] := by unfold Ar.pop; rw [HS.out]
    have hr' : w1.ownsRow 0 3 1 (.slice ra ([] : List Nat).length rc) A.pop.stack.length (retL A.pop) := by
      have := M.out.r
      unfold retL at this ⊢
      rw [HS.out] at this; rw [es]; exact this
    have := ref_taken (F := F) R1.out.good HK.out HM.out hm2 M.out.head M.out.u M.out.t hr' HF.out
    exact ⟨rfl, this.1, T1.out.trans this.2⟩
  | cons x t =>
    have hr := M.out.r
    rw [hs] at hr
    obtain ⟨gr, cr, curr, rfl, hnr, hmr, hgr, _, _⟩ := row_at hr (show t.length < (x :: t).length by simp)
    unfold maxLen at hmr
    have HR := Lib.hid hr; have HS := Lib.hid hs
    have hln : (x :: t).length = t.length + 1 := rfl
    rw [hln] at c4 hnr hr M
    have fc := free_of M.out.head 4
    have HL := Lib.hid (show t.length = A.pop.stack.length by unfold Ar.pop; rw [hs])
    clear hr hs hln
    generalize hL : t.length = L at *
    have HLL := Lib.hid hL
    clear hL
    have e2 : IntKind.i64.wrap ((L : Int) + 1 - 1) = (L : Int) := by rw [show (L : Int) + 1 - 1 = L by omega]; exact IntWalk.i64_in _ (by omega)
    have e1 : IntKind.i64.wrap (L : Int) = (L : Int) := IntWalk.i64_in _ (by omega)
    have e3 : (0 : Int) ≤ (L : Int) := by omega
    have e4 : (L : Int) ≤ (cr : Int) := by omega
    have e5 : L ≤ cr := by omega
    have X1 : (w1.setCell ⟨c, 4, none⟩ (.slice (some ⟨gr, 0, none⟩) L cr)).heap[c]? = _ := set_of M.out.head 4 _
    have X2 : (w1.setCell ⟨c, 4, none⟩ (.slice (some ⟨gr, 0, none⟩) L cr)).heap[gu]? = _ := block_set hgu nuc _
    have X3 : (w1.setCell ⟨c, 4, none⟩ (.slice (some ⟨gr, 0, none⟩) L cr)).heap[gt]? = _ := block_set hgt ntc _
    have W2 : ((w1.setCell ⟨c, 4, none⟩ (.slice (some ⟨gr, 0, none⟩) L cr)).setCell ⟨gu, k, none⟩ (.bool true)).heap[c]? = _ := block_set X1 (fun e => nuc e.symm) _
    have W3 : ((w1.setCell ⟨c, 4, none⟩ (.slice (some ⟨gr, 0, none⟩) L cr)).setCell ⟨gu, k, none⟩ (.bool true)).heap[gt]? = _ := block_set X3 ntu _
    have f1 := free_of X2 k
    have d1 : (w1.setCell ⟨c, 4, none⟩ (.slice (some ⟨gr, 0, none⟩) L cr)).cell? ⟨gu, k, none⟩ = some (.bool (A.inUse k)) := by rw [cell_of X2]; exact hku
    have d2 := cell_of W2 3
    simp at d2
    have d3 : ((w1.setCell ⟨c, 4, none⟩ (.slice (some ⟨gr, 0, none⟩) L cr)).setCell ⟨gu, k, none⟩ (.bool true)).cell? ⟨gt, k, none⟩ = some (.int .u64 (A.count k)) := by rw [cell_of W3]; exact hkt
    have f3 := free_of W3 k
    have HC := Lib.hid (And.intro X1 (And.intro X2 (And.intro X3 (And.intro W2 W3))))
    clear X1 X2 X3 W2 W3 nuc ntc ntu hgu hgt hku hkt huc htc hut
    go_wp2_with fail
    go_still_tail 14, (by kernel_rfl)
    go_wp2_with fail
    go_ret2
    have e := HLL.out
    subst e
    have hu' := ownsRow_touch M.out.u (touch_one w1 c 4 (.slice (some ⟨gr, 0, none⟩) t.length cr)) (fun n hn e => by cases hn; exact NE.out.1 e)
    have ht' := ownsRow_touch M.out.t (touch_one w1 c 4 (.slice (some ⟨gr, 0, none⟩) t.length cr)) (fun n hn e => by cases hn; exact NE.out.2.1 e)
    have := ref_taken (F := F) R1.out.good HK.out HM.out hm2 HC.out.1 hu' ht' (ref_short HS.out M.out) HF.out
    have hT := (T1.out.setCell (p := ⟨c, 4, none⟩) (fun _ => HF.out c (Or.inl rfl)) (.slice (some ⟨gr, 0, none⟩) t.length cr)).trans this.2
    exact ⟨rfl, this.1.below (Below.drew (Below.refl _ _)), hT.drew⟩
end Go.Proofs.Ytndiaflbagikoaa

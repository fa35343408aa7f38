/- The walk of the law MsortCounts. -/
import Derived.Test.YtmholiddejgccaaW
import Derived.BigRegion
import Derived.Deep.RegionHeld3
namespace Go.Proofs.Ytmholiddejgccaa
open Go.ChangeShapes Go.WideShapes Go.ChangeAt Go.RowKit

theorem encR_at {zs : List Rc} {i : Nat} (hi : i < zs.length) : (flat encR zs)[i * 4]? = some (.int .u64 (zs.getD i d0).u) ∧ (flat encR zs)[i * 4 + 1]? = some (.int .u64 (zs.getD i d0).v) ∧ (flat encR zs)[i * 4 + 2]? = some (.int .i64 (zs.getD i d0).w) ∧ (flat encR zs)[i * 4 + 3]? = some (.int .i64 (zs.getD i d0).t) := by
  have e : zs.getD i d0 = zs[i] := by simp [hi]
  rw [e]
  exact ⟨flat_at encR_len hi (j := 0) (by decide), flat_at encR_len hi (j := 1) (by decide), flat_at encR_len hi (j := 2) (by decide), flat_at encR_len hi (j := 3) (by decide)⟩
def sets8 (c : Array Value) (p : Nat) (v0 v1 v2 v3 v4 v5 v6 v7 : Value) : Array Value :=
  (((((((c.setIfInBounds p v0).setIfInBounds (p + 1) v1).setIfInBounds (p + 2) v2).setIfInBounds (p + 3) v3).setIfInBounds (p + 4) v4).setIfInBounds (p + 4 + 1) v5).setIfInBounds (p + 4 + 2) v6).setIfInBounds (p + 4 + 3) v7
theorem sets8_out (c : Array Value) (p : Nat) (v0 v1 v2 v3 v4 v5 v6 v7 : Value) {o : Nat} (h : o < p ∨ p + 8 ≤ o) : (sets8 c p v0 v1 v2 v3 v4 v5 v6 v7)[o]? = c[o]? := by
  unfold sets8
  repeat rw [Array.getElem?_setIfInBounds_ne (by omega)]
theorem sets8_in (c : Array Value) (p : Nat) (v0 v1 v2 v3 v4 v5 v6 v7 : Value) (h : p + 8 ≤ c.size) {d : Nat} (hd : d < 8) : (sets8 c p v0 v1 v2 v3 v4 v5 v6 v7)[p + d]? = [v0, v1, v2, v3, v4, v5, v6, v7][d]? := by
  unfold sets8
  match d, hd with
  | 0, _ => repeat rw [Array.getElem?_setIfInBounds_ne (by omega)]
            exact Array.getElem?_setIfInBounds_self_of_lt (by first | omega | (simp; omega))
  | 1, _ => repeat rw [Array.getElem?_setIfInBounds_ne (by omega)]
            exact Array.getElem?_setIfInBounds_self_of_lt (by first | omega | (simp; omega))
  | 2, _ => repeat rw [Array.getElem?_setIfInBounds_ne (by omega)]
            exact Array.getElem?_setIfInBounds_self_of_lt (by first | omega | (simp; omega))
  | 3, _ => repeat rw [Array.getElem?_setIfInBounds_ne (by omega)]
            exact Array.getElem?_setIfInBounds_self_of_lt (by first | omega | (simp; omega))
  | 4, _ => repeat rw [Array.getElem?_setIfInBounds_ne (by omega)]
            exact Array.getElem?_setIfInBounds_self_of_lt (by first | omega | (simp; omega))
  | 5, _ => repeat rw [Array.getElem?_setIfInBounds_ne (by omega)]
            exact Array.getElem?_setIfInBounds_self_of_lt (by first | omega | (simp; omega))
  | 6, _ => repeat rw [Array.getElem?_setIfInBounds_ne (by omega)]
            exact Array.getElem?_setIfInBounds_self_of_lt (by first | omega | (simp; omega))
  | 7, _ => exact Array.getElem?_setIfInBounds_self_of_lt (by first | omega | (simp; omega))
/-- Two neighbours exchanged, in a slice of the call's own. -/
theorem swap_sl {w : World} {g la cap i : Nat} {cur : Array Value} {zs : List Rc} (hg : w.heap[g]? = some (.cells cur 24 (0, 0))) (hal : la = zs.length) (hnc : la ≤ cap) (hcm : cap ≤ maxLen) (hcs : cur.size = cap * 4) (htk : cur.toList.take (la * 4) = flat encR zs) (hi : i + 1 < la) (x y : Rc) :
    IsSl 4 encR ((((((((w.setCell ⟨g, i * 4, none⟩ (.int .u64 y.u)).setCell ⟨g, i * 4 + 1, none⟩ (.int .u64 y.v)).setCell ⟨g, i * 4 + 2, none⟩ (.int .i64 y.w)).setCell ⟨g, i * 4 + 3, none⟩ (.int .i64 y.t)).setCell ⟨g, i * 4 + 4, none⟩ (.int .u64 x.u)).setCell ⟨g, i * 4 + 4 + 1, none⟩ (.int .u64 x.v)).setCell ⟨g, i * 4 + 4 + 2, none⟩ (.int .i64 x.w)).setCell ⟨g, i * 4 + 4 + 3, none⟩ (.int .i64 x.t)).drew
      (some ⟨g, 0, none⟩) la cap ((zs.set i y).set (i + 1) x) := by
  have hb := set_of (set_of (set_of (set_of (set_of (set_of (set_of (set_of hg (i * 4) (.int .u64 y.u)) (i * 4 + 1) (.int .u64 y.v)) (i * 4 + 2) (.int .i64 y.w)) (i * 4 + 3) (.int .i64 y.t)) (i * 4 + 4) (.int .u64 x.u)) (i * 4 + 4 + 1) (.int .u64 x.v)) (i * 4 + 4 + 2) (.int .i64 x.w)) (i * 4 + 4 + 3) (.int .i64 x.t)
  have hb' := block_drew hb
  refine ⟨by simp [hal], hnc, hcm, fun h => (by cases h), fun _ => ⟨g, 0, rfl, lt_of_block hb', fun j hj c hc => ?_⟩⟩
  rw [cell_of hb']
  show (sets8 cur (i * 4) _ _ _ _ _ _ _ _)[0 + j * 4 + c]? = _
  simp at hj
  have hcz : la * 4 ≤ cap * 4 := Nat.mul_le_mul_right _ hnc
  by_cases e1 : j = i
  · subst e1
    rw [show 0 + j * 4 + c = j * 4 + c by omega, sets8_in _ _ _ _ _ _ _ _ _ _ (by omega) (by omega)]
    rw [List.getElem_set_ne (by omega), List.getElem_set_self]
    match c, hc with
    | 0, _ => rfl
    | 1, _ => rfl
    | 2, _ => rfl
    | 3, _ => rfl
  · by_cases e2 : j = i + 1
    · subst e2
      rw [show 0 + (i + 1) * 4 + c = i * 4 + (4 + c) by omega, sets8_in _ _ _ _ _ _ _ _ _ _ (by omega) (by omega)]
      rw [List.getElem_set_self]
      match c, hc with
      | 0, _ => rfl
      | 1, _ => rfl
      | 2, _ => rfl
      | 3, _ => rfl
    · rw [sets8_out _ _ _ _ _ _ _ _ _ _ (by omega), List.getElem_set_ne (by omega), List.getElem_set_ne (by omega)]
      rw [show 0 + j * 4 + c = j * 4 + c by omega, ← flat_at encR_len hj hc, ← htk, List.getElem?_take, if_pos (by omega)]
      simp
theorem splitI (zs : List Rc) {i : Nat} (h : i + 1 < zs.length) : ∃ p q, zs = p ++ zs.getD i d0 :: zs.getD (i + 1) d0 :: q ∧ p.length = i := by
  refine ⟨zs.take i, zs.drop (i + 2), ?_, by simp; omega⟩
  have e1 : zs.getD i d0 = zs[i] := by simp [show i < zs.length by omega]
  have e2 : zs.getD (i + 1) d0 = zs[i + 1] := by simp [h]
  rw [e1, e2]
  conv => lhs; rw [← List.take_append_drop i zs]
  rw [List.drop_eq_getElem_cons (by omega), List.drop_eq_getElem_cons h]
set_option maxRecDepth 100000 in
set_option maxHeartbeats 8000000 in
theorem counts_law (aa : Option Addr) (la ca : Nat) (zs : List Rc) (at' : Int) (n : Int) (w : World) (h : IsSl 4 encR w aa la ca zs) (ha : (Lit.int .u8 at').wf = true) (hn : (Lit.int .u8 n).wf = true) :
    Calls Try.prog 8 #[.slice aa la ca, .int .u8 at', .int .u8 n] w fun e w' => e = .returned (.bool true) ∧ Below w.heap.size w w' := by
  have hm := h.hmax; have hl := h.hle; unfold maxLen at hm
  have H := Lib.hid h
  have HAL := Lib.hid h.hlen
  have hn' := bounds_u8 hn
  have ha' := bounds_u8 ha
  obtain ⟨n, rfl⟩ := Int.eq_ofNat_of_zero_le hn'.1
  obtain ⟨at', rfl⟩ := Int.eq_ofNat_of_zero_le ha'.1
  have hn2 : n < 256 := by have := hn'.2; omega
  have ha2 : at' < 256 := by have := ha'.2; omega
  by_cases h2 : 200 < la
  · clear h hn hn' ha ha'
    go_enter Try.func8, Try.ntmps8
    go_wp2_with fail
    go_ret
    exact ⟨rfl, Below.refl _ _⟩
  have hla : la ≤ 65536 := by omega
  have HK := Lib.hid (thr_kn n)
  have TH := Lib.hid (fun w => thr_any hn2 w)
  have I1 := Lib.hid (fun w a c zs (h : IsSl 4 encR w a la c zs) => inv_yes HK.out h hla)
  have S1 := Lib.hid (fun w a c (h : IsSl 4 encR w a la c zs) => sorted_yes HK.out h hla)
  have LS := Lib.hid (fun x y w => pless_yes HK.out x y w)
  have CP := Lib.hid (fun w (h : IsSl 4 encR w aa la ca zs) => copied_any h (by omega))
  have hsm : inv (ltK (thr n)) zs ≤ 4294967296 := by
    have := inv_small (lt := ltK (thr n)) (zs := zs) (j := zs.length) (by have := HAL.out; omega)
    rwa [List.take_length] at this
  clear h hn hn' ha ha'
  generalize hlt : ltK (thr n) = lt at *
  generalize thr n = k at *
  have SW : Hid (∀ i, i + 1 < zs.length → inv lt ((zs.set i (zs.getD (i + 1) d0)).set (i + 1) (zs.getD i d0)) + (if lt (zs.getD (i + 1) d0) (zs.getD i d0) then 1 else 0) = inv lt zs + (if lt (zs.getD i d0) (zs.getD (i + 1) d0) then 1 else 0)) := Lib.hid (fun i hi => by
    obtain ⟨p, q, e, hp⟩ := splitI zs hi
    generalize zs.getD i d0 = x at *
    generalize zs.getD (i + 1) d0 = y at *
    subst hp
    have hs := inv_swap (lt := lt) p y x q _ _ rfl rfl
    rw [e, show ((p ++ x :: y :: q).set p.length y).set (p.length + 1) x = p ++ y :: x :: q by
      clear e hs hi
      induction p with
      | nil => rfl
      | cons a p ih => simp]
    omega)
  generalize hX : inv lt zs = X at *
  have HX := Lib.hid hX
  have AS : Hid (∀ x y, lt x y = true → lt y x = false) := Lib.hid (fun x y hh => by rw [← hlt] at hh ⊢; exact (swoK _).asymm hh)
  clear hlt hX
  have hx0 : ((X == 0 : Bool) == (((X : Nat) : Int) == 0)) = true := by
    cases X with
    | zero => rfl
    | succ X => simp; omega
  have hx1 : ((X == 0 : Bool) != (((X : Nat) : Int) == 0)) = false := by rw [bne, hx0]; rfl
  have hx2 : (((X : Nat) : Int) == 0) = (X == 0 : Bool) := by
    cases X with
    | zero => rfl
    | succ X => simp; omega
  by_cases hl2 : la < 2
  · go_enter Try.func8, Try.ntmps8
    go_wp2_with fail
    refine (TH.out _).mono ?_; rintro e w' ⟨rfl, rfl⟩
    go_wp2_with fail
    refine (I1.out _ _ _ _ H.out).mono ?_; rintro e w1 ⟨rfl, hb⟩
    rw [HX.out]
    have H1 := Lib.hid (H.out.below hb); have B1 := Lib.hid hb
    clear hb
    go_wp2_with fail
    refine (S1.out _ _ _ H1.out).mono ?_; rintro e w2 ⟨rfl, hb⟩
    have B2 := Lib.hid (B1.out.trans (hb.mono B1.out.size))
    clear hb
    go_wp2_with fail
    refine (works_any _).mono ?_; rintro e w6 ⟨rfl, hb⟩
    have B6 := Lib.hid (B2.out.trans (hb.mono B2.out.size))
    clear hb
    go_wp2_with fail
    go_ret
    exact ⟨rfl, B6.out⟩
  · have hmod := Nat.mod_lt at' (show 0 < la - 1 by omega)
    have hme : (at' : Int) % ((la : Int) - 1) = ((at' % (la - 1) : Nat) : Int) := by rw [show (la : Int) - 1 = ((la - 1 : Nat) : Int) by omega]; rfl
    generalize at' % (la - 1) = i at *
    have hil : i + 1 < la := by omega
    have hiz : i + 1 < zs.length := by have := HAL.out; omega
    have hsw := SW.out i hiz
    have hI2 := fun w a c (h : IsSl 4 encR w a la c _) => I1.out w a c ((zs.set i (zs.getD (i + 1) d0)).set (i + 1) (zs.getD i d0)) h
    have C1 := Lib.hid (fun w => LS.out (zs.getD i d0) (zs.getD (i + 1) d0) w)
    have C2 := Lib.hid (fun w => LS.out (zs.getD (i + 1) d0) (zs.getD i d0) w)
    have A12 := Lib.hid (AS.out (zs.getD i d0) (zs.getD (i + 1) d0))
    generalize hY : inv lt ((zs.set i (zs.getD (i + 1) d0)).set (i + 1) (zs.getD i d0)) = Y at *
    have HY := Lib.hid hY
    have HI2 := Lib.hid hI2
    have HSW := Lib.hid hsw
    clear hY hI2 hsw
    go_enter Try.func8, Try.ntmps8
    go_wp2_with fail
    refine (TH.out _).mono ?_; rintro e w' ⟨rfl, rfl⟩
    go_wp2_with fail
    refine (I1.out _ _ _ _ H.out).mono ?_; rintro e w1 ⟨rfl, hb⟩
    rw [HX.out]
    have H1 := Lib.hid (H.out.below hb); have B1 := Lib.hid hb
    clear hb
    go_wp2_with fail
    refine (S1.out _ _ _ H1.out).mono ?_; rintro e w2 ⟨rfl, hb⟩
    have H2 := Lib.hid (H1.out.below hb); have B2 := Lib.hid (B1.out.trans (hb.mono B1.out.size))
    clear hb
    go_wp2_with fail
    refine (CP.out _ H2.out).mono ?_; rintro e w3 ⟨a3, c3, rfl, ho, hs, hb⟩
    have H3 := Lib.hid (H2.out.below hb); have B3 := Lib.hid (B2.out.trans (hb.mono B2.out.size))
    obtain ⟨g, c, cur, hv, hg, hnc, hcm, hcs, htk⟩ : ∃ g c cur, Value.slice a3 la c3 = .slice (some ⟨g, 0, none⟩) la c ∧ w3.heap[g]? = some (.cells cur 24 (0, 0)) ∧ la ≤ c ∧ c ≤ maxLen ∧ cur.size = c * 4 ∧ cur.toList.take (la * 4) = flat encR zs := by
      rcases ho.row.2 with ⟨_, h0⟩ | ⟨g, cap, cur, hv, _, hg, hnc, hcm, hcs, htake⟩
      · have := HAL.out; omega
      · rw [← HAL.out] at hv hnc htake
        exact ⟨g, cap, cur, hv, hg, hnc, hcm, hcs, htake⟩
    have hgB : w2.heap.size ≤ g := ho.blk g (by rw [hv]; rfl)
    injection hv with hv1 _ hv3
    subst hv1 hv3
    unfold maxLen at hcm
    have ecell : ∀ j u, j < la * 4 → (flat encR zs)[j]? = some u → cur[j]? = some u := fun j u hj hu => by
      rw [← htk, List.getElem?_take, if_pos hj] at hu
      simpa using hu
    obtain ⟨x0, x1, x2, x3⟩ := encR_at (zs := zs) (i := i) (by omega)
    obtain ⟨y0, y1, y2, y3⟩ := encR_at (zs := zs) (i := i + 1) (by omega)
    have cx0 : w3.cell? ⟨g, i * 4, none⟩ = some (.int .u64 (zs.getD i d0).u) := by rw [cell_of hg]; exact ecell _ _ (by omega) x0
    have cx1 : w3.cell? ⟨g, i * 4 + 1, none⟩ = some (.int .u64 (zs.getD i d0).v) := by rw [cell_of hg]; exact ecell _ _ (by omega) x1
    have cx2 : w3.cell? ⟨g, i * 4 + 2, none⟩ = some (.int .i64 (zs.getD i d0).w) := by rw [cell_of hg]; exact ecell _ _ (by omega) x2
    have cx3 : w3.cell? ⟨g, i * 4 + 3, none⟩ = some (.int .i64 (zs.getD i d0).t) := by rw [cell_of hg]; exact ecell _ _ (by omega) x3
    have cy0 : w3.cell? ⟨g, (i + 1) * 4, none⟩ = some (.int .u64 (zs.getD (i + 1) d0).u) := by rw [cell_of hg]; exact ecell _ _ (by omega) y0
    have cy1 : w3.cell? ⟨g, (i + 1) * 4 + 1, none⟩ = some (.int .u64 (zs.getD (i + 1) d0).v) := by rw [cell_of hg]; exact ecell _ _ (by omega) y1
    have cy2 : w3.cell? ⟨g, (i + 1) * 4 + 2, none⟩ = some (.int .i64 (zs.getD (i + 1) d0).w) := by rw [cell_of hg]; exact ecell _ _ (by omega) y2
    have cy3 : w3.cell? ⟨g, (i + 1) * 4 + 3, none⟩ = some (.int .i64 (zs.getD (i + 1) d0).t) := by rw [cell_of hg]; exact ecell _ _ (by omega) y3
    have ff := free_of hg
    have f0 := ff (i * 4); have f1 := ff (i * 4 + 1); have f2 := ff (i * 4 + 2); have f3 := ff (i * 4 + 3)
    have f4 := ff ((i + 1) * 4); have f5 := ff ((i + 1) * 4 + 1); have f6 := ff ((i + 1) * 4 + 2); have f7 := ff ((i + 1) * 4 + 3)
    have HG := Lib.hid hg; have HE := Lib.hid ecell; have HTK := Lib.hid htk; have HCS := Lib.hid hcs; have HB3 := Lib.hid hb
    clear hg ecell htk ff hs ho x0 x1 x2 x3 y0 y1 y2 y3 hcs hb
    generalize hx : zs.getD i d0 = x at *
    generalize hy : zs.getD (i + 1) d0 = y at *
    have HXX := Lib.hid hx; have HYY := Lib.hid hy
    clear hx hy
    have q1 : (0 : Int) ≤ (i : Int) + 1 := by omega
    have q2 : (i : Int) + 1 < (la : Int) := by omega
    have q3 : ((i : Int) + 1).toNat = i + 1 := by omega
    have q4 : (i : Int) < (la : Int) := by omega
    have q5 : (i + 1) * 4 = i * 4 + 4 := by omega
    rw [q5] at cy0 cy1 cy2 cy3 f4 f5 f6 f7
    go_wp2_with fail
    go_region
    obtain ⟨w4, hw4⟩ : ∃ W, W = ((((((((w3.setCell ⟨g, i * 4, none⟩ (.int .u64 y.u)).setCell ⟨g, i * 4 + 1, none⟩ (.int .u64 y.v)).setCell ⟨g, i * 4 + 2, none⟩ (.int .i64 y.w)).setCell ⟨g, i * 4 + 3, none⟩ (.int .i64 y.t)).setCell ⟨g, i * 4 + 4, none⟩ (.int .u64 x.u)).setCell ⟨g, i * 4 + 4 + 1, none⟩ (.int .u64 x.v)).setCell ⟨g, i * 4 + 4 + 2, none⟩ (.int .i64 x.w)).setCell ⟨g, i * 4 + 4 + 3, none⟩ (.int .i64 x.t)).drew := ⟨_, rfl⟩
    have M4 : Hid (IsSl 4 encR w4 (some ⟨g, 0, none⟩) la c3 ((zs.set i y).set (i + 1) x)) := Lib.hid (by rw [hw4]; exact swap_sl HG.out HAL.out hnc (by unfold maxLen; exact hcm) HCS.out HTK.out hil x y)
    have B4 : Hid (Below w2.heap.size w2 w4) := Lib.hid (by
      rw [hw4]
      exact ((((((((HB3.out.setCell (p := ⟨g, i * 4, none⟩) hgB _).setCell (p := ⟨g, i * 4 + 1, none⟩) hgB _).setCell (p := ⟨g, i * 4 + 2, none⟩) hgB _).setCell (p := ⟨g, i * 4 + 3, none⟩) hgB _).setCell (p := ⟨g, i * 4 + 4, none⟩) hgB _).setCell (p := ⟨g, i * 4 + 4 + 1, none⟩) hgB _).setCell (p := ⟨g, i * 4 + 4 + 2, none⟩) hgB _).setCell (p := ⟨g, i * 4 + 4 + 3, none⟩) hgB _).drew)
    rw [← hw4]
    clear hw4 cx0 cx1 cx2 cx3 cy0 cy1 cy2 cy3 f0 f1 f2 f3 f4 f5 f6 f7 H3 B3 HG HE HTK HCS HB3 hgB
    have H4 := Lib.hid (H2.out.below B4.out)
    have BB4 := Lib.hid (B2.out.trans (B4.out.mono B2.out.size))
    clear B4
    go_wp2_with fail
    refine (HI2.out _ _ _ M4.out).mono ?_; rintro e w5 ⟨rfl, hb⟩
    have H5 := Lib.hid (H4.out.below hb); have B5 := Lib.hid (BB4.out.trans (hb.mono BB4.out.size))
    clear hb
    obtain ⟨b, off, rfl, _, _⟩ := H.out.at_ (by intro h; rw [h] at hiz; simp at hiz)
    obtain ⟨x0, x1, x2, x3⟩ := at4 H5.out (show i < zs.length by omega) d0
    obtain ⟨y0, y1, y2, y3⟩ := at4 H5.out hiz d0
    rw [HXX.out] at x0 x1 x2 x3
    rw [HYY.out] at y0 y1 y2 y3
    rw [q5] at y0 y1 y2 y3
    have hbw5 := lt_of_cell x0
    have qw : IntKind.i64.wrap ((i : Int) + 1) = (i : Int) + 1 := IntWalk.i64_in _ (by omega)
    have q0 : (0 : Int) ≤ (i : Int) := by omega
    go_wp2_with fail
    go_region_held3 (fun w' => w'.cell? ⟨b, off + i * 4, none⟩ = some (.int .u64 x.u) ∧ w'.cell? ⟨b, off + i * 4 + 1, none⟩ = some (.int .u64 x.v) ∧ w'.cell? ⟨b, off + i * 4 + 2, none⟩ = some (.int .i64 x.w) ∧ w'.cell? ⟨b, off + i * 4 + 3, none⟩ = some (.int .i64 x.t) ∧
        w'.cell? ⟨b, off + (i * 4 + 4), none⟩ = some (.int .u64 y.u) ∧ w'.cell? ⟨b, off + (i * 4 + 4) + 1, none⟩ = some (.int .u64 y.v) ∧ w'.cell? ⟨b, off + (i * 4 + 4) + 2, none⟩ = some (.int .i64 y.w) ∧ w'.cell? ⟨b, off + (i * 4 + 4) + 3, none⟩ = some (.int .i64 y.t))
      (first | go_keep | exact keep8 hb hbw5 ⟨x0, x1, x2, x3, y0, y1, y2, y3⟩)
      (first | (go_at_call 12; refine (C1.out _).mono ?_; rintro e w6 ⟨rfl, hb⟩))
    rename_i hh
    have B6 := Lib.hid (B5.out.trans ((Below.drew (Below.refl w5.heap.size w5)).trans hb |>.mono B5.out.size))
    have hbw6 : b < w6.heap.size := Nat.lt_of_lt_of_le hbw5 hb.size
    clear hb x0 x1 x2 x3 y0 y1 y2 y3
    obtain ⟨x0, x1, x2, x3, y0, y1, y2, y3⟩ := hh
    go_wp2_with fail
    go_region_held3 (fun w' => w'.cell? ⟨b, off + i * 4, none⟩ = some (.int .u64 x.u) ∧ w'.cell? ⟨b, off + i * 4 + 1, none⟩ = some (.int .u64 x.v) ∧ w'.cell? ⟨b, off + i * 4 + 2, none⟩ = some (.int .i64 x.w) ∧ w'.cell? ⟨b, off + i * 4 + 3, none⟩ = some (.int .i64 x.t) ∧
        w'.cell? ⟨b, off + (i * 4 + 4), none⟩ = some (.int .u64 y.u) ∧ w'.cell? ⟨b, off + (i * 4 + 4) + 1, none⟩ = some (.int .u64 y.v) ∧ w'.cell? ⟨b, off + (i * 4 + 4) + 2, none⟩ = some (.int .i64 y.w) ∧ w'.cell? ⟨b, off + (i * 4 + 4) + 3, none⟩ = some (.int .i64 y.t))
      (first | go_keep | exact keep8 hb hbw6 ⟨x0, x1, x2, x3, y0, y1, y2, y3⟩)
      (first | (go_at_call 12; refine (C2.out _).mono ?_; rintro e w7 ⟨rfl, hb⟩))
    have B7 := Lib.hid (B6.out.trans ((Below.drew (Below.refl w6.heap.size w6)).trans hb |>.mono B6.out.size))
    clear hb x0 x1 x2 x3 y0 y1 y2 y3 qw
    have hsw := HSW.out
    have ha12 := A12.out
    cases hr1 : lt x y
    · rw [hr1] at hsw
      cases hr2 : lt y x
      · rw [hr2] at hsw
        have hyx : Y = X := by simpa using hsw
        subst hyx
        clear hsw ha12 hr1 hr2
        go_wp2_with fail
        refine (works_any _).mono ?_; rintro e w8 ⟨rfl, hb⟩
        have B8 := Lib.hid (B7.out.trans (hb.mono B7.out.size))
        clear hb
        go_wp2_with fail
        go_ret
        exact ⟨rfl, B8.out⟩
      · rw [hr2] at hsw
        have hyx : X = Y + 1 := by simpa using hsw.symm
        have he : (X : Int) - 1 = (Y : Int) := by omega
        have hX0 : 1 ≤ X := by omega
        clear hsw ha12 hr1 hr2 hyx
        go_wp2_with fail
        refine (works_any _).mono ?_; rintro e w8 ⟨rfl, hb⟩
        have B8 := Lib.hid (B7.out.trans (hb.mono B7.out.size))
        clear hb
        go_wp2_with fail
        go_ret
        exact ⟨rfl, B8.out⟩
    · have hr2 : lt y x = false := ha12 hr1
      rw [hr1, hr2] at hsw
      have hyx : Y = X + 1 := by simpa using hsw
      rw [hr2]
      subst hyx
      clear hsw ha12 hr1 hr2
      go_wp2_with fail
      refine (works_any _).mono ?_; rintro e w8 ⟨rfl, hb⟩
      have B8 := Lib.hid (B7.out.trans (hb.mono B7.out.size))
      clear hb
      go_wp2_with fail
      go_ret
      exact ⟨rfl, B8.out⟩
end Go.Proofs.Ytmholiddejgccaa

/- Draws of both. -/
import Derived.Test.YtejleobpohpdpaaDoorG
namespace Go.Proofs.YtejleobpohpdpaaDoor
open Go.ChangeShapes Go.WideShapes Go.ChangeAt Go.RowKit

theorem OutR.drew {α : Type} {sz : Nat} {enc : α → List Value} {e : TypeId} {w : World} {B : Nat} {v : Value} {zs : List α} (h : OutR sz enc e w B v zs) : OutR sz enc e w.drew B v zs :=
  ⟨ownsRow_touch h.row (Touch.refl (fun _ => False) w).drew (fun _ _ h => h), h.blk⟩
theorem inv_swp {q : List Nat} (h : IsP q) {i j : Nat} (hi : i < q.length) (hj : j < q.length) : invp (swp q i j) = ((invp q).set (q.getD j 0) i).set (q.getD i 0) j := by
  have hs := isP_swp h hi hj
  have hgi := h.get_lt hi; have hgj := h.get_lt hj
  refine gext (by simp [invp_len, swp_len]) fun y hy => ?_
  rw [invp_len, swp_len] at hy
  rw [invp_get (by rw [swp_len]; exact hy), set_get (by rw [List.length_set, invp_len]; exact hgi), set_get (by rw [invp_len]; exact hgj)]
  by_cases e1 : y = q.getD i 0
  · rw [if_pos e1]
    have h1 := hs.idx_get (i := j) (by rw [swp_len]; exact hj)
    rw [swp_get hi hj, if_pos rfl] at h1
    rw [e1]; exact h1
  · rw [if_neg e1]
    by_cases e2 : y = q.getD j 0
    · rw [if_pos e2]
      have h1 := hs.idx_get (i := i) (by rw [swp_len]; exact hi)
      rw [swp_get hi hj, if_neg (by rintro rfl; exact e1 e2), if_pos rfl] at h1
      rw [e2]; exact h1
    · rw [if_neg e2, invp_get hy]
      have h1 := hs.idx_get (i := q.idxOf y) (by rw [swp_len]; exact h.idx_lt hy)
      have h2 := h.get_idx hy
      rw [swp_get hi hj, if_neg (by intro e; rw [e] at h2; exact e2 h2.symm), if_neg (by intro e; rw [e] at h2; exact e1 h2.symm), h2] at h1
      exact h1
theorem invp_range (n : Nat) : invp (List.range n) = List.range n := by
  refine gext (by simp [invp_len]) fun y hy => ?_
  rw [invp_len, List.length_range] at hy
  have := (isP_range n).idx_get (i := y) (by simpa using hy)
  rw [range_get hy] at this
  rw [invp_get (by simpa using hy), this, range_get hy]
def PDrRel (w w3 : World) (p : List Nat) (g1 g2 : Nat) (vo vi : Value) (wr : World) : Prop :=
  ∃ k : Nat, k ≤ p.length - 1 ∧ vi = .int .i64 k ∧ Blk .i64 3 wr g1 p.length (ns (now p k)) ∧ Blk .i64 3 wr g2 p.length (ns (invp (now p k))) ∧ OutR 1 (encK .u64) 30 wr w3.heap.size vo (ns (drs p k)) ∧ Below w.heap.size w wr ∧ w3.heap.size ≤ wr.heap.size
set_option maxRecDepth 100000 in
set_option maxHeartbeats 8000000 in
theorem pdrs_ok {p : List Nat} (hp : IsP p) (hl : p.length ≤ 16384) {w : World} {aa : Option Addr} {la ca : Nat} (h : IsK .i64 w aa la ca (ns p)) :
    Calls Tryd.prog 22 #[.slice aa la ca] w fun e w' => ∃ v, e = .returned (.tuple #[v, .int .i64 0]) ∧ OutR 1 (encK .u64) 30 w' w.heap.size v (ns (drs p (p.length - 1))) ∧ Below w.heap.size w w' := by
  have hal := h.hlen; have hac := h.hle; have ham := h.hmax
  rw [ns_len] at hal
  unfold maxLen at ham
  have HC := Lib.hid (pcheck h)
  rw [chk_yes (okP_ns hp hl)] at HC
  have HI := Lib.hid (fun w => pident la (by omega) w)
  have H := Lib.hid h; have HAL := Lib.hid hal; have HP := Lib.hid hp
  obtain ⟨i0, hi, hz0, hz1, hz2⟩ := info_parts info30
  clear h hal hp
  go_enter Tryd.func22, Tryd.ntmps22
  go_wp2_with fail
  refine (HC.out).mono ?_; rintro e w1 ⟨rfl, hb⟩
  have B1 := Lib.hid hb
  clear hb
  go_wp2_with fail
  refine (HI.out _).mono ?_; rintro e w2 ⟨g1, hg1, rfl, hgb, hb⟩
  have G1 := Lib.hid hgb; have B2 := Lib.hid (B1.out.trans (hb.mono B1.out.size))
  have hs2 := hb.size
  clear hb hgb
  go_wp2_with fail
  refine (HI.out _).mono ?_; rintro e w3 ⟨g2, hg2, rfl, hgb, hb⟩
  have G2 := Lib.hid hgb; have B3 := Lib.hid (B2.out.trans (hb.mono B2.out.size)); have G13 := Lib.hid (G1.out.below hb)
  have hs3 := hb.size
  have hl1 := G1.out.lt
  have hl2 := G2.out.lt
  have hw1 := B1.out.size
  have hg12 : g1 ≠ g2 := by omega
  have hg21 : g2 ≠ g1 := by omega
  clear hb hgb G1
  go_wp2_with fail
  go_loopw [7, 8, 9, 24] (fun vo _ _ vi wr => PDrRel w w3 p g1 g2 vo vi wr) (fun _ _ _ vi _ => la - (intOf vi).toNat)
  case atStart => exact ⟨0, Nat.zero_le _, rfl, by rw [now, ← HAL.out]; exact G13.out, by rw [now, invp_range, ← HAL.out]; exact G2.out, ⟨World.ownsRow_nil _ _ _ _, fun g h => by cases h⟩, B3.out, Nat.le_refl _⟩
  case round =>
    clear G13 G2
    obtain ⟨k, hk, rfl, hb1, hb2, ho, hbl, hsz⟩ := hrel
    have G1 := Lib.hid hb1; have G2 := Lib.hid hb2; have BL := Lib.hid hbl; have O := Lib.hid ho
    clear hb1 hb2 hbl ho
    by_cases hlt : k < la - 1
    · have hkp : k < p.length := by have := HAL.out; omega
      have hki : (k : Int) < (la : Int) - 1 := by omega
      obtain ⟨b, off, rfl, _, _⟩ := H.out.at_ (by intro h; have h1 := ns_len p; rw [h] at h1; simp at h1; omega)
      have x0 := (H.out.below BL.out).cellK (i := k) (by rw [ns_len]; exact hkp)
      rw [ns_get] at x0
      obtain ⟨n1, n2, n3⟩ := now_ok HP.out k (by omega)
      have N1 := Lib.hid n1; have N2 := Lib.hid n2
      have hxl := HP.out.get_lt hkp
      obtain ⟨hj1, hj2⟩ := now_idx HP.out hkp
      have c0 := G2.out.cell (i := p.getD k 0) (by rw [ns_len, invp_len, n2]; exact hxl)
      rw [ns_get, invp_get (by rw [n2]; exact hxl)] at c0
      have hjx := n1.get_idx (x := p.getD k 0) (by rw [n2]; exact hxl)
      have hswp : now p (k + 1) = swp (now p k) k ((now p k).idxOf (p.getD k 0)) := rfl
      have hdr := drs_succ p k
      have hdl := drs_len p k
      have hlx : p.getD k 0 < la := by have := HAL.out; omega
      have hjl : (now p k).idxOf (p.getD k 0) < la := by have := HAL.out; omega
      clear n1 n2 n3
      generalize (now p k).idxOf (p.getD k 0) = j at *
      generalize p.getD k 0 = x at *
      have HJX := Lib.hid hjx; have HSWP := Lib.hid hswp; have HDR := Lib.hid hdr; have HDL := Lib.hid hdl
      clear hjx hswp hdr hdl
      have hsub : (j : Int) - (k : Int) = ((j - k : Nat) : Int) := by omega
      go_wp2_with (at_builtin; refine wpList_app rfl (.tmp 34) (.tmp 39) 22 rfl 30 i0 .u64 8 Tryd.underlying22 hi hz0 hz1 hz2 (by decide) rfl O.out hsz ((j - k : Nat) : Int) rfl (by rw [ns_len, HDL.out]; omega) ?_)
      intro v4 w4 h1 h2 h3 h4
      clear hsub x0 c0
      have O4 : Hid (OutR 1 (encK .u64) 30 w4 w3.heap.size v4 (ns (drs p (k + 1)))) := Lib.hid (by rw [HDR.out, ← ns_app]; exact h1)
      have T1 := Lib.hid (G1.out.touch h2 (fun hh => by have := O.out.blk _ hh; omega)); have T2 := Lib.hid (G2.out.touch h2 (fun hh => by have := O.out.blk _ hh; omega))
      have BL4 := Lib.hid (BL.out.trans (h3.mono (by omega)))
      have hs4 : w3.heap.size ≤ w4.heap.size := Nat.le_trans hsz h2.size
      clear h1 h2 h3 h4
      have hkl : k < la := by omega
      have c1 := T1.out.cell (i := k) (by rw [ns_len, N2.out]; omega)
      have c2 := T1.out.cell (i := j) (by rw [ns_len, N2.out]; omega)
      rw [ns_get] at c1 c2
      rw [HJX.out] at c2
      have f1 := T1.out.free k
      have f2 := T1.out.free j
      have hsw1 := (T1.out.set (i := k) (by rw [ns_len, N2.out]; exact hkp) (x : Nat)).set (i := j) (by rw [List.length_set, ns_len, N2.out]; exact hj2) ((now p k).getD k 0 : Nat)
      have hinv := inv_swp N1.out (i := k) (j := j) (by rw [N2.out]; exact hkp) (by rw [N2.out]; exact hj2)
      rw [← HSWP.out, HJX.out] at hinv
      have hnow : now p (k + 1) = ((now p k).set k x).set j ((now p k).getD k 0) := by rw [HSWP.out, swp, HJX.out]
      rw [ns_set, ns_set, ← hnow] at hsw1
      have hyl : (now p k).getD k 0 < la := by have := N1.out.get_lt (i := k) (by rw [N2.out]; exact hkp); rw [N2.out] at this; have := HAL.out; omega
      have hk1 : (now p (k + 1)).getD k 0 = x := by
        rw [HSWP.out, swp_get (by rw [N2.out]; exact hkp) (by rw [N2.out]; exact hj2), HJX.out]
        split
        · rename_i e; subst e; exact HJX.out
        · rw [if_pos rfl]
      have hk2 : (now p (k + 1)).getD j 0 = (now p k).getD k 0 := by
        rw [HSWP.out, swp_get (by rw [N2.out]; exact hkp) (by rw [N2.out]; exact hj2), if_pos rfl]
      have hyx : k ≠ j → (now p k).getD k 0 ≠ x := fun hne e => hne (by
        have h1 := HJX.out; rw [← e] at h1
        exact (N1.out.inj (by rw [N2.out]; exact hj2) (by rw [N2.out]; exact hkp) h1).symm)
      generalize (now p k).getD k 0 = y at *
      have HS1 := Lib.hid hsw1; have HINV := Lib.hid hinv; have K1 := Lib.hid hk1; have K2 := Lib.hid hk2; have YX := Lib.hid hyx
      clear hsw1 hinv hk1 hk2 hnow hyx
      have BL5 := Lib.hid ((BL4.out.setCell (p := ⟨g1, k, none⟩) (by show w.heap.size ≤ g1; omega) (.int .i64 (x : Nat))).setCell (p := ⟨g1, j, none⟩) (by show w.heap.size ≤ g1; omega) (.int .i64 (y : Nat)))
      have T25 := Lib.hid ((T2.out.other (p := ⟨g1, k, none⟩) hg21 (.int .i64 (x : Nat))).other (p := ⟨g1, j, none⟩) hg21 (.int .i64 (y : Nat)))
      have O5 := Lib.hid (show OutR 1 (encK .u64) 30 ((w4.setCell ⟨g1, k, none⟩ (.int .i64 (x : Nat))).setCell ⟨g1, j, none⟩ (.int .i64 (y : Nat))) w3.heap.size v4 (ns (drs p (k + 1))) from
        ⟨ownsRow_touch O4.out.row (((Touch.refl (fun k => k = g1) w4).setCell (p := ⟨g1, k, none⟩) (fun _ => rfl) _).setCell (p := ⟨g1, j, none⟩) (fun _ => rfl) _) (fun kk hk' e => by have := O4.out.blk _ hk'; omega), O4.out.blk⟩)
      go_wp2_with fail
      rcases Nat.eq_or_lt_of_le hj1 with hkj | hkj
      · subst hkj
        obtain rfl : x = y := by rw [c1] at c2; simp at c2; omega
        go_region
        obtain ⟨w5, hw5⟩ : ∃ W, W = ((w4.setCell ⟨g1, k, none⟩ (.int .i64 (x : Nat))).setCell ⟨g1, k, none⟩ (.int .i64 (x : Nat))).drew := ⟨_, rfl⟩
        have G15 : Hid (Blk .i64 3 w5 g1 p.length (ns (now p (k + 1)))) := Lib.hid (by rw [hw5]; exact HS1.out.drew)
        have G25 : Hid (Blk .i64 3 w5 g2 p.length (ns (invp (now p k)))) := Lib.hid (by rw [hw5]; exact T25.out.drew)
        have B5 : Hid (Below w.heap.size w w5) := Lib.hid (by rw [hw5]; exact BL5.out.drew)
        have OO5 : Hid (OutR 1 (encK .u64) 30 w5 w3.heap.size v4 (ns (drs p (k + 1)))) := Lib.hid (by rw [hw5]; exact O5.out.drew)
        have hs5 : w3.heap.size ≤ w5.heap.size := by rw [hw5]; simpa using hs4
        rw [← hw5]
        clear hw5 HS1 T25 BL5 O5 c1 c2 f1 f2 T1 T2 BL4 O4
        have c1 := G15.out.cell (i := k) (by rw [ns_len, (now_ok HP.out (k + 1) (by omega)).2.1]; exact hkp)
        rw [ns_get, K1.out] at c1
        have c2 := G15.out.cell (i := k) (by rw [ns_len, (now_ok HP.out (k + 1) (by omega)).2.1]; exact hkp)
        rw [ns_get, K2.out] at c2
        have d1 := G25.out.cell (i := x) (by rw [ns_len, invp_len, N2.out]; exact hxl)
        have d2 := G25.out.cell (i := x) (by rw [ns_len, invp_len, N2.out]; have := HAL.out; omega)
        have e1 := G25.out.free x
        have e2 := G25.out.free x
        have HN := Lib.hid ((G25.out.set (i := x) (by rw [ns_len, invp_len, N2.out]; exact hxl) (k : Nat)).set (i := x) (by rw [List.length_set, ns_len, invp_len, N2.out]; have := HAL.out; omega) (k : Nat))
        rw [ns_set, ns_set, ← HINV.out] at HN
        have G16 := Lib.hid ((G15.out.other (p := ⟨g2, x, none⟩) hg12 (.int .i64 (k : Nat))).other (p := ⟨g2, x, none⟩) hg12 (.int .i64 (k : Nat)))
        have B6 := Lib.hid ((B5.out.setCell (p := ⟨g2, x, none⟩) (by show w.heap.size ≤ g2; omega) (.int .i64 (k : Nat))).setCell (p := ⟨g2, x, none⟩) (by show w.heap.size ≤ g2; omega) (.int .i64 (k : Nat)))
        have O6 := Lib.hid (show OutR 1 (encK .u64) 30 ((w5.setCell ⟨g2, x, none⟩ (.int .i64 (k : Nat))).setCell ⟨g2, x, none⟩ (.int .i64 (k : Nat))) w3.heap.size v4 (ns (drs p (k + 1))) from
          ⟨ownsRow_touch OO5.out.row (((Touch.refl (fun k => k = g2) w5).setCell (p := ⟨g2, x, none⟩) (fun _ => rfl) _).setCell (p := ⟨g2, x, none⟩) (fun _ => rfl) _) (fun kk hk' e => by have := OO5.out.blk _ hk'; omega), OO5.out.blk⟩)
        generalize (ns (invp (now p k))).getD x 0 = z1 at *
        go_wp2_with fail
        go_region
        go_wp2_with fail
        go_roundw
        case rel => exact ⟨k + 1, by have := HAL.out; omega, by go_num, G16.out.drew, HN.out.drew, O6.out.drew, B6.out.drew, by simpa using hs5⟩
        case measure => simp [intOf]; omega
      · have hne : k ≠ j := by omega
        have hyx := YX.out hne
        have hxy : x ≠ y := Ne.symm hyx
        go_region
        obtain ⟨w5, hw5⟩ : ∃ W, W = ((w4.setCell ⟨g1, k, none⟩ (.int .i64 (x : Nat))).setCell ⟨g1, j, none⟩ (.int .i64 (y : Nat))).drew := ⟨_, rfl⟩
        have G15 : Hid (Blk .i64 3 w5 g1 p.length (ns (now p (k + 1)))) := Lib.hid (by rw [hw5]; exact HS1.out.drew)
        have G25 : Hid (Blk .i64 3 w5 g2 p.length (ns (invp (now p k)))) := Lib.hid (by rw [hw5]; exact T25.out.drew)
        have B5 : Hid (Below w.heap.size w w5) := Lib.hid (by rw [hw5]; exact BL5.out.drew)
        have OO5 : Hid (OutR 1 (encK .u64) 30 w5 w3.heap.size v4 (ns (drs p (k + 1)))) := Lib.hid (by rw [hw5]; exact O5.out.drew)
        have hs5 : w3.heap.size ≤ w5.heap.size := by rw [hw5]; simpa using hs4
        rw [← hw5]
        clear hw5 HS1 T25 BL5 O5 c1 c2 f1 f2 T1 T2 BL4 O4
        have c1 := G15.out.cell (i := k) (by rw [ns_len, (now_ok HP.out (k + 1) (by omega)).2.1]; exact hkp)
        rw [ns_get, K1.out] at c1
        have c2 := G15.out.cell (i := j) (by rw [ns_len, (now_ok HP.out (k + 1) (by omega)).2.1]; exact hj2)
        rw [ns_get, K2.out] at c2
        have d1 := G25.out.cell (i := x) (by rw [ns_len, invp_len, N2.out]; exact hxl)
        have d2 := G25.out.cell (i := y) (by rw [ns_len, invp_len, N2.out]; have := HAL.out; omega)
        have e1 := G25.out.free x
        have e2 := G25.out.free y
        have HN := Lib.hid ((G25.out.set (i := x) (by rw [ns_len, invp_len, N2.out]; exact hxl) (k : Nat)).set (i := y) (by rw [List.length_set, ns_len, invp_len, N2.out]; have := HAL.out; omega) (j : Nat))
        rw [ns_set, ns_set, ← HINV.out] at HN
        have G16 := Lib.hid ((G15.out.other (p := ⟨g2, x, none⟩) hg12 (.int .i64 (k : Nat))).other (p := ⟨g2, y, none⟩) hg12 (.int .i64 (j : Nat)))
        have B6 := Lib.hid ((B5.out.setCell (p := ⟨g2, x, none⟩) (by show w.heap.size ≤ g2; omega) (.int .i64 (k : Nat))).setCell (p := ⟨g2, y, none⟩) (by show w.heap.size ≤ g2; omega) (.int .i64 (j : Nat)))
        have O6 := Lib.hid (show OutR 1 (encK .u64) 30 ((w5.setCell ⟨g2, x, none⟩ (.int .i64 (k : Nat))).setCell ⟨g2, y, none⟩ (.int .i64 (j : Nat))) w3.heap.size v4 (ns (drs p (k + 1))) from
          ⟨ownsRow_touch OO5.out.row (((Touch.refl (fun k => k = g2) w5).setCell (p := ⟨g2, x, none⟩) (fun _ => rfl) _).setCell (p := ⟨g2, y, none⟩) (fun _ => rfl) _) (fun kk hk' e => by have := OO5.out.blk _ hk'; omega), OO5.out.blk⟩)
        generalize (ns (invp (now p k))).getD x 0 = z1 at *
        generalize (ns (invp (now p k))).getD y 0 = z2 at *
        go_wp2_with fail
        go_region
        go_wp2_with fail
        go_roundw
        case rel => exact ⟨k + 1, by have := HAL.out; omega, by go_num, G16.out.drew, HN.out.drew, O6.out.drew, B6.out.drew, by simpa using hs5⟩
        case measure => simp [intOf]; omega
    · have hki : ¬ (k : Int) < (la : Int) - 1 := by omega
      have hkk : k = p.length - 1 := by have := HAL.out; omega
      have HF : Hid (OutR 1 (encK .u64) 30 wr w.heap.size u7 (ns (drs p (p.length - 1)))) := Lib.hid (by rw [← hkk]; exact ⟨O.out.row, fun g hg => by have := O.out.blk g hg; omega⟩)
      clear hkk
      go_wp2_with fail
      go_ret2
      exact ⟨_, rfl, HF.out, BL.out⟩
end Go.Proofs.YtejleobpohpdpaaDoor

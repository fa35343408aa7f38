/- Merging is sorting (plain); Merge of the program and of the document. -/
import Derived.Test.YtmholiddejgccaaQ
namespace Go.Proofs.Ytmholiddejgccaa
open Go.ChangeShapes Go.WideShapes Go.ChangeAt Go.RowKit

theorem srt_map {lt : Rc → Rc → Bool} {zs : List Rc} {l : List Nat} (h : Srt lt (l.map fun i => zs.getD i d0)) : Srt (ltI lt zs) l := by
  unfold Srt at h ⊢
  rw [List.pairwise_map] at h
  exact h
theorem idx_parts (xs ys : List Rc) : (List.range xs.length).map (fun i => (xs ++ ys).getD i d0) = xs ∧ (List.range' xs.length ys.length).map (fun i => (xs ++ ys).getD i d0) = ys := by
  constructor
  · apply List.ext_getElem
    · simp
    · intro i h1 h2
      simp [List.getElem?_append, h2]
  · apply List.ext_getElem
    · simp
    · intro i h1 h2
      simp [List.getElem?_append, h2]
      rw [if_neg (by omega)]; rfl
theorem mrg_arr {lt : Rc → Rc → Bool} (h : SWO lt) {xs ys : List Rc} (hx : Srt lt xs) (hy : Srt lt ys) : mrg lt xs ys = arr lt (xs ++ ys) := by
  obtain ⟨e1, e2⟩ := idx_parts xs ys
  have hm : mrg lt xs ys = (mrg (ltI lt (xs ++ ys)) (List.range xs.length) (List.range' xs.length ys.length)).map (fun i => (xs ++ ys).getD i d0) := by
    have := mrg_map (lt := lt) (fun i : Nat => (xs ++ ys).getD i d0) (List.range xs.length) (List.range' xs.length ys.length)
    rw [e1, e2] at this
    exact this
  rw [hm, sortI]
  congr 1
  have s1 : (List.range xs.length).Pairwise (ord (ltI lt (xs ++ ys))) := srt_ord List.pairwise_lt_range (srt_map (by rw [e1]; exact hx))
  have s2 : (List.range' xs.length ys.length).Pairwise (ord (ltI lt (xs ++ ys))) := srt_ord (List.pairwise_lt_range' ) (srt_map (by rw [e2]; exact hy))
  refine ord_unique (swoI h _) ?_ (mrg_ord (swoI h _) s1 s2 (fun x hx y hy => ?_)) (arr_ord (swoI h _) List.pairwise_lt_range)
  · refine (mrg_perm _ _).trans ?_
    have : List.range xs.length ++ List.range' xs.length ys.length = List.range (xs ++ ys).length := by
      rw [List.range_eq_range', List.range_eq_range', List.length_append]
      have := List.range'_append (s := 0) (m := xs.length) (n := ys.length) (step := 1)
      simpa using this
    rw [this]
    exact (arr_perm _).symm
  · simp at hx hy; omega
theorem inv_srt {lt : Rc → Rc → Bool} {zs : List Rc} (h : (inv lt zs == 0) = true) : Srt lt zs := inv_zero.1 (by simpa using h)

section
variable {w : World} {aa ab : Option Addr} {la ca lb cb : Nat} {xs ys : List Rc}
set_option maxHeartbeats 2000000 in
theorem pmerge_ok {k : Int} (hk : kn k) (ha : IsSl 4 encR w aa la ca xs) (hb : IsSl 4 encR w ab lb cb ys) (hl : la + lb ≤ 65536) (sa : (inv (ltK k) xs == 0) = true) (sb : (inv (ltK k) ys == 0) = true)
    (ba : ∀ x, aa = some x → x.block < w.heap.size) (bb : ∀ x, ab = some x → x.block < w.heap.size) :
    Calls Try.prog 26 #[.slice aa la ca, .slice ab lb cb, .int .i64 k] w fun e w' => ∃ v', e = .returned (.tuple #[v', .int .i64 0]) ∧ OutR 4 encR 24 w' w.heap.size v' (mrg (ltK k) xs ys) ∧ Below w.heap.size w w' := by
  have HC := Lib.hid (fun w => pcheck_ok hk (n := (la : Int) + (lb : Int)) (by omega) w)
  have OA := Lib.hid (ordered_any hk ha)
  have OB := Lib.hid (fun w' (hw : Below w.heap.size w w') => ordered_any hk (hb.below hw))
  rw [sa] at OA
  rw [sb] at OB
  have hal := ha.hlen; have hbl := hb.hlen
  have MG := Lib.hid (fun (w3 : World) (B : Nat) (hB : B ≤ w3.heap.size) (vo : Value) (ho : OutR 4 encR 24 w3 B vo ([] : List Rc)) (hw3 : Below w.heap.size w w3) (hwB : w.heap.size ≤ B) =>
    mergeR (w0 := w3) (B := B) (entK hk) (fun W _ x y => HLk hk W x y) (Below.refl _ _) hB (ys := []) ho (ha.below hw3) (hb.below hw3)
      (fun x hx => ⟨Nat.lt_of_lt_of_le (ba x hx) hw3.size, fun hh => by have := ho.blk _ hh; have := ba x hx; omega⟩) (fun x hx => ⟨Nat.lt_of_lt_of_le (bb x hx) hw3.size, fun hh => by have := ho.blk _ hh; have := bb x hx; omega⟩) (by simp; omega))
  have hac := ha.hle; have ham := ha.hmax; have hbc := hb.hle; have hbm := hb.hmax
  unfold maxLen at ham hbm
  obtain ⟨i0, hi, hz0, hz1, hz2⟩ := info_parts info24
  clear hk ha hb sa sb ba bb hal hbl
  generalize fnK k = f at *
  generalize ltK k = lt at *
  go_enter Try.func26, Try.ntmps26
  go_wp2_with fail
  refine (HC.out _).mono ?_; rintro e w' ⟨rfl, rfl⟩
  go_wp2_with fail
  refine (OA.out).mono ?_; rintro e w1 ⟨rfl, hb⟩
  have B1 := Lib.hid hb; clear hb
  go_wp2_with fail
  refine (OB.out _ B1.out).mono ?_; rintro e w2 ⟨rfl, hb⟩
  have B2 := Lib.hid (B1.out.trans (hb.mono B1.out.size)); clear hb
  obtain ⟨n, hn⟩ : ∃ n, la + lb = n := ⟨_, rfl⟩
  have es : (la : Int) + (lb : Int) = (n : Int) := by omega
  have hn2 : n ≤ 65536 := by omega
  clear hn
  go_wp2_with (at_make; refine wpList_make_own _ rfl _ _ 31 rfl w2.heap.size 24 i0 (.agg #[.int .u64 0, .int .u64 0, .int .i64 0, .int .i64 0]) 4 Try.underlying31 hi hz0 hz1 .i64 .i64 _ n rfl rfl rfl (by rw [hz2]; omega) (by unfold maxLen; omega) (Nat.le_refl _) ?_)
  intro w3 hown hgrow
  have hb3 := Below.grown (Below.refl w2.heap.size w2) hgrow (Nat.le_refl _) (fun k h => by cases h)
  have O3 := Lib.hid (out_of_make (enc := encR) hown)
  have B3 := Lib.hid (B2.out.trans (hb3.mono B2.out.size))
  have HS3 := Lib.hid hb3.size
  clear hown hgrow hb3
  go_wp2_with fail
  refine (MG.out w3 w2.heap.size HS3.out _ O3.out B3.out B2.out.size).mono ?_; rintro e w4 ⟨v4, rfl, ho4, hb4⟩
  have O4 := Lib.hid ho4; have B4 := Lib.hid (B3.out.trans (hb4.mono B2.out.size))
  clear ho4 hb4 es
  generalize mprs lt xs ys = pr at *
  go_wp2_with fail
  go_ret2
  exact ⟨v4, rfl, ⟨O4.out.row, fun g hg => Nat.le_trans B2.out.size (O4.out.blk g hg)⟩, B4.out⟩
theorem pmerge_bad {k : Int} (hk : kn k) (ha : IsSl 4 encR w aa la ca xs) (hb : IsSl 4 encR w ab lb cb ys) (hl : la + lb ≤ 65536) (sa : ((inv (ltK k) xs == 0) && (inv (ltK k) ys == 0)) = false) :
    Calls Try.prog 26 #[.slice aa la ca, .slice ab lb cb, .int .i64 k] w fun e w' => e = .returned (.tuple #[.slice none 0 0, .int .i64 8]) ∧ Below w.heap.size w w' := by
  have HC := Lib.hid (fun w => pcheck_ok hk (n := (la : Int) + (lb : Int)) (by omega) w)
  have OA := Lib.hid (ordered_any hk ha)
  have OB := Lib.hid (fun w' (hw : Below w.heap.size w w') => ordered_any hk (hb.below hw))
  have hac := ha.hle; have ham := ha.hmax; have hbc := hb.hle; have hbm := hb.hmax
  unfold maxLen at ham hbm
  clear hk ha hb
  generalize fnK k = f at *
  generalize (inv (ltK k) xs == 0) = s1 at *
  generalize (inv (ltK k) ys == 0) = s2 at *
  cases s1
  · clear sa
    go_enter Try.func26, Try.ntmps26
    go_wp2_with fail
    refine (HC.out _).mono ?_; rintro e w' ⟨rfl, rfl⟩
    go_wp2_with fail
    refine (OA.out).mono ?_; rintro e w1 ⟨rfl, hb⟩
    have B1 := Lib.hid hb; clear hb
    go_wp2_with fail
    go_ret2
    exact ⟨rfl, B1.out⟩
  · simp only [Bool.true_and] at sa
    subst sa
    go_enter Try.func26, Try.ntmps26
    go_wp2_with fail
    refine (HC.out _).mono ?_; rintro e w' ⟨rfl, rfl⟩
    go_wp2_with fail
    refine (OA.out).mono ?_; rintro e w1 ⟨rfl, hb⟩
    have B1 := Lib.hid hb; clear hb
    go_wp2_with fail
    refine (OB.out _ B1.out).mono ?_; rintro e w2 ⟨rfl, hb⟩
    have B2 := Lib.hid (B1.out.trans (hb.mono B1.out.size)); clear hb
    go_wp2_with fail
    go_ret2
    exact ⟨rfl, B2.out⟩
theorem pmerge_no {k : Int} (hk : ¬ (kn k ∧ (la : Int) + (lb : Int) ≤ 65536)) (h1 : la ≤ 4611686018427387903) (h2 : lb ≤ 4611686018427387903) :
    Calls Try.prog 26 #[.slice aa la ca, .slice ab lb cb, .int .i64 k] w fun e w' => e = .returned (.tuple #[.slice none 0 0, .int .i64 (errK k ((la : Int) + (lb : Int)))]) ∧ w = w' := by
  have HC := Lib.hid (fun w => pcheck_no hk w)
  have he := (errK_cases (k := k) (n := (la : Int) + (lb : Int))).resolve_left (fun h => hk ⟨h.1, h.2.1⟩)
  obtain ⟨_, e1, e2⟩ := he
  clear hk
  generalize errK k ((la : Int) + (lb : Int)) = er at *
  go_enter Try.func26, Try.ntmps26
  go_wp2_with fail
  refine (HC.out _).mono ?_; rintro e w' ⟨rfl, rfl⟩
  go_wp2_with fail
  go_ret2
  exact ⟨rfl, rfl⟩
/-! The document's. -/
set_option maxHeartbeats 2000000 in
theorem rmerge_ok {k : Int} (hk : kn k) (ha : IsSl 4 encR w aa la ca xs) (hb : IsSl 4 encR w ab lb cb ys) (hl : la + lb ≤ 65536) (sa : (inv (ltK k) xs == 0) = true) (sb : (inv (ltK k) ys == 0) = true) :
    Calls Try.prog 27 #[.slice aa la ca, .slice ab lb cb, .int .i64 k] w fun e w' => ∃ v', e = .returned (.tuple #[v', .int .i64 0]) ∧ OutR 4 encR 24 w' w.heap.size v' (arr (ltK k) (xs ++ ys)) ∧ Below w.heap.size w w' := by
  have HC := Lib.hid (fun w => rcheck_ok hk (n := (la : Int) + (lb : Int)) (by omega) w)
  have OA := Lib.hid (rsorted_yes hk ha (by omega))
  have OB := Lib.hid (fun w' (hw : Below w.heap.size w w') => rsorted_yes hk (hb.below hw) (by omega))
  rw [sa] at OA
  rw [sb] at OB
  have hal := ha.hlen; have hbl := hb.hlen
  have hac := ha.hle; have ham := ha.hmax; have hbc := hb.hle; have hbm := hb.hmax
  unfold maxLen at ham hbm
  have SR := Lib.hid (fun (W : World) (a : Option Addr) (c : Nat) (h : IsSl 4 encR W a (la + lb) c (xs ++ ys)) => rsort_yes hk h hl)
  have HA := Lib.hid ha; have HB := Lib.hid hb; have HAL := Lib.hid hal; have HBL := Lib.hid hbl
  obtain ⟨i0, hi, hz0, hz1, hz2⟩ := info_parts info24
  clear hk ha hb sa sb hal hbl
  generalize arr (ltK k) (xs ++ ys) = res at *
  go_enter Try.func27, Try.ntmps27
  go_wp2_with fail
  refine (HC.out _).mono ?_; rintro e w' ⟨rfl, rfl⟩
  go_wp2_with fail
  refine (OA.out).mono ?_; rintro e w1 ⟨rfl, hb⟩
  have B1 := Lib.hid hb; clear hb
  go_wp2_with fail
  refine (OB.out _ B1.out).mono ?_; rintro e w2 ⟨rfl, hb⟩
  have B2 := Lib.hid (B1.out.trans (hb.mono B1.out.size)); clear hb
  have O2 : Hid (OutR 4 encR 24 w2 w2.heap.size (.slice none 0 0) ([] : List Rc)) := Lib.hid ⟨World.ownsRow_nil _ _ _ _, fun g h => by cases h⟩
  have A2 := Lib.hid (HA.out.below B2.out); have BB2 := Lib.hid (HB.out.below B2.out)
  go_wp2_with (at_builtin; refine wpList_append_slice _ rfl (.tmp 42) (.tmp 43) 31 rfl 24 i0 (.agg #[.int .u64 0, .int .u64 0, .int .i64 0, .int .i64 0]) 4 32 Try.underlying31 hi hz0 hz1 hz2 rfl (by decide) _ _ _ rfl O2.out.row _ _ _ (flat encR xs) rfl ?_ ?_ ?_ (flat_one encR_one _) ?_ ?_ ?_)
  · rw [flat_length encR_len, HAL.out]
  · intro h; exact ⟨by have := HA.out.hle; have := HA.out.hnone h; omega, HA.out.hnone h⟩
  · intro a ha
    subst ha
    exact slNews encR_len A2.out
  · unfold maxLen; simp; omega
  · simp; omega
  · intro v3 w3 hr3 hg3 hn3
    have G := O2.out.grow (ys := xs) (Below.refl _ _) (Nat.le_refl _) (by rw [← HAL.out]; simpa using hr3) hg3 hn3
    have OR := Lib.hid (show w3.ownsRow 0 24 4 v3 la (flat encR xs) by simpa [flat] using hr3)
    have O3 := Lib.hid G.1; have T3 := Lib.hid (BB2.out.below G.2.2.1); have B3 := Lib.hid (B2.out.trans (G.2.2.1.mono B2.out.size)); have HS3 := Lib.hid G.2.2.1.size
    clear hr3 hg3 hn3 G
    go_wp2_with (at_builtin; refine wpList_append_slice _ rfl (.tmp 45) (.tmp 46) 31 rfl 24 i0 (.agg #[.int .u64 0, .int .u64 0, .int .i64 0, .int .i64 0]) 4 32 Try.underlying31 hi hz0 hz1 hz2 rfl (by decide) _ _ _ rfl OR.out _ _ _ (flat encR ys) rfl ?_ ?_ ?_ (flat_one encR_one _) ?_ ?_ ?_)
    · rw [flat_length encR_len, HBL.out]
    · intro h; exact ⟨by have := HB.out.hle; have := HB.out.hnone h; omega, HB.out.hnone h⟩
    · intro a ha
      subst ha
      exact slNews encR_len T3.out
    · unfold maxLen; omega
    · omega
    · intro v4 w4 hr4 hg4 hn4
      have G := O3.out.grow (ys := ys) (Below.refl _ _) HS3.out (by rw [← HBL.out]; simpa [HAL.out] using hr4) hg4 hn4
      obtain ⟨a4, c4, hv4⟩ : ∃ a c, v4 = .slice a (la + lb) c := own_shape hr4
      subst hv4
      have S4 := Lib.hid (IsSl.of_own (zs := xs ++ ys) encR_len (by simpa [flat] using hr4) (by rw [List.length_append, HAL.out, HBL.out]))
      have B4 := Lib.hid (B3.out.trans (G.2.2.1.mono B2.out.size))
      clear hr4 hg4 hn4 G
      go_wp2_with fail
      refine (SR.out _ _ _ S4.out).mono ?_; rintro e w5 ⟨v5, rfl, ho, hb⟩
      have O5 := Lib.hid ho; have B5 := Lib.hid (B4.out.trans (hb.mono B4.out.size))
      clear ho hb
      go_wp2_with fail
      go_ret2
      exact ⟨v5, rfl, ⟨O5.out.row, fun g hg => Nat.le_trans B4.out.size (O5.out.blk g hg)⟩, B5.out⟩
end
end Go.Proofs.Ytmholiddejgccaa

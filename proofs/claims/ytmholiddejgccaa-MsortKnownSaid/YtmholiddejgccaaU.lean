/- The walk of the law MsortJoins. -/
import Derived.Test.YtmholiddejgccaaT
namespace Go.Proofs.Ytmholiddejgccaa
open Go.ChangeShapes Go.WideShapes Go.ChangeAt Go.RowKit

theorem join_plain {lt : Rc → Rc → Bool} (h : SWO lt) (xs ys : List Rc) : arr lt (arr lt xs ++ arr lt ys) = arr lt (xs ++ ys) := by
  rw [← mrg_arr h (arr_srt h xs) (arr_srt h ys)]
  obtain ⟨e1, e2⟩ := idx_parts xs ys
  have a1 : arr lt xs = (arr (ltI lt (xs ++ ys)) (List.range xs.length)).map (fun i => (xs ++ ys).getD i d0) := by
    have := arr_map (lt := lt) (fun i : Nat => (xs ++ ys).getD i d0) (List.range xs.length)
    rw [e1] at this
    exact this
  have a2 : arr lt ys = (arr (ltI lt (xs ++ ys)) (List.range' xs.length ys.length)).map (fun i => (xs ++ ys).getD i d0) := by
    have := arr_map (lt := lt) (fun i : Nat => (xs ++ ys).getD i d0) (List.range' xs.length ys.length)
    rw [e2] at this
    exact this
  rw [a1, a2, mrg_map, sortI]
  congr 1
  refine ord_unique (swoI h (xs ++ ys)) ?_ (mrg_ord (swoI h _) (arr_ord (swoI h _) List.pairwise_lt_range) (arr_ord (swoI h _) List.pairwise_lt_range') (fun x hx y hy => ?_)) (arr_ord (swoI h _) List.pairwise_lt_range)
  · refine (mrg_perm _ _).trans ?_
    refine (List.Perm.append (arr_perm _) (arr_perm _)).trans ?_
    have : List.range xs.length ++ List.range' xs.length ys.length = List.range (xs ++ ys).length := by
      rw [List.range_eq_range', List.range_eq_range', List.length_append]
      have := List.range'_append (s := 0) (m := xs.length) (n := ys.length) (step := 1)
      simpa using this
    rw [this]
    exact (arr_perm _).symm
  · have hx := (arr_perm _).mem_iff.1 hx
    have hy := (arr_perm _).mem_iff.1 hy
    simp at hx hy; omega
theorem inv_arr {lt : Rc → Rc → Bool} (h : SWO lt) (zs : List Rc) : (inv lt (arr lt zs) == 0) = true := by
  have := inv_zero.2 (arr_srt h zs)
  simp [this]
/-- The key of a number. -/
def thr (n : Nat) : Int := (n : Int) % 3 + 1
theorem thr_kn (n : Nat) : kn (thr n) := by unfold thr; exact ⟨by omega, by omega⟩
theorem thr_any {n : Nat} (hn : n < 256) (w : World) : Calls Try.prog 25 #[.int .u8 n] w fun e w' => e = .returned (.int .i64 (thr n)) ∧ w = w' := by
  have e : thr n = (n : Int) % 3 + 1 := rfl
  rw [e]
  go_enter Try.func25, Try.ntmps25
  go_wp2_with fail
  go_ret
  refine ⟨?_, rfl⟩
  go_num
theorem okB_of {k : Int} {n : Nat} (hk : kn k) (hn : n ≤ 65536) : okB k n = true := by
  have h1 : 1 ≤ k := hk.1
  have h2 : k ≤ 3 := hk.2
  simp [okB]; omega
theorem srtL_of {k : Int} {zs : List Rc} (hk : kn k) (hn : zs.length ≤ 65536) : srtL k zs = arr (ltK k) zs := by simp [srtL, okB_of hk hn]
theorem psort_of {w : World} {aa : Option Addr} {la ca : Nat} {zs : List Rc} {k : Int} (hk : kn k) (h : IsSl 4 encR w aa la ca zs) (hl : la ≤ 65536) :
    Calls Try.prog 16 #[.slice aa la ca, .int .i64 k] w (SortPost 4 encR 24 0 (arr (ltK k) zs) w) := by
  have hal := h.hlen
  have := psort (k := k) h
  rw [errK_ok hk (by omega), srtL_of hk (by omega)] at this
  exact this
theorem pmerge_of {w : World} {aa ab : Option Addr} {la ca lb cb : Nat} {xs ys : List Rc} {k : Int} (hk : kn k) (ha : IsSl 4 encR w aa la ca (arr (ltK k) xs)) (hb : IsSl 4 encR w ab lb cb (arr (ltK k) ys)) (hl : la + lb ≤ 65536) (ba : Lies w aa) (bb : Lies w ab) :
    Calls Try.prog 26 #[.slice aa la ca, .slice ab lb cb, .int .i64 k] w (SortPost 4 encR 24 0 (arr (ltK k) (xs ++ ys)) w) := by
  have hal := ha.hlen; have hbl := hb.hlen
  have h := pmerge (k := k) ha hb (by omega) (by omega) ba bb
  have ho : okB k ((arr (ltK k) xs).length + (arr (ltK k) ys).length) = true := okB_of hk (by omega)
  have hs : bothB k (arr (ltK k) xs) (arr (ltK k) ys) = true := by
    unfold bothB
    rw [inv_arr (swoK k), inv_arr (swoK k)]; rfl
  have e1 : mrgE k (arr (ltK k) xs) (arr (ltK k) ys) = 0 := by simp only [mrgE, ho, hs, if_true]
  have e2 : mrgL k (arr (ltK k) xs) (arr (ltK k) ys) = arr (ltK k) (xs ++ ys) := by simp only [mrgL, ho, hs, Bool.and_self, if_true, join_plain (swoK k)]
  rw [e1, e2] at h
  exact h
set_option maxRecDepth 100000 in
set_option maxHeartbeats 4000000 in
theorem joins_law (aa : Option Addr) (la ca : Nat) (zs : List Rc) (at_ n : Int) (w : World) (h : IsSl 4 encR w aa la ca zs) (ha : (Lit.int .u8 at_).wf = true) (hn : (Lit.int .u8 n).wf = true) :
    Calls Try.prog 10 #[.slice aa la ca, .int .u8 at_, .int .u8 n] w fun e w' => e = .returned (.bool true) ∧ Below w.heap.size w w' := by
  have hm := h.hmax; have hl := h.hle; unfold maxLen at hm
  have H := Lib.hid h
  have hal := h.hlen
  have ha' := bounds_u8 ha
  have hn' := bounds_u8 hn
  obtain ⟨at_, rfl⟩ := Int.eq_ofNat_of_zero_le ha'.1
  obtain ⟨n, rfl⟩ := Int.eq_ofNat_of_zero_le hn'.1
  have hn2 : n < 256 := by have := hn'.2; omega
  have ha2 : at_ < 256 := by have := ha'.2; omega
  clear ha hn ha' hn'
  by_cases h2 : 200 < la
  · clear h
    go_enter Try.func10, Try.ntmps10
    go_wp2_with fail
    go_ret
    exact ⟨rfl, Below.refl _ _⟩
  have hla : la ≤ 65536 := by omega
  have HK := Lib.hid (thr_kn n)
  obtain ⟨i, hi⟩ : ∃ i, at_ % (la + 1) = i := ⟨_, rfl⟩
  have ei : (at_ : Int) % ((la : Int) + 1) = (i : Int) := by rw [← hi]; simp
  have hi1 : i ≤ la := by have := Nat.mod_lt at_ (show la + 1 > 0 by omega); omega
  have hi2 : i ≤ 65536 := by omega
  have hi3 : la - i ≤ 65536 := by omega
  have hLL : (arr (ltK (thr n)) (zs.take i)).length + (arr (ltK (thr n)) (zs.drop i)).length ≤ 65536 := by rw [arr_length, arr_length]; simp; omega
  have TH := Lib.hid (fun w => thr_any hn2 w)
  have S1 := Lib.hid (fun w a c (h : IsSl 4 encR w a i c (zs.take i)) => psort_of HK.out h hi2)
  have S2 := Lib.hid (fun w a c (h : IsSl 4 encR w a (la - i) c (zs.drop i)) => psort_of HK.out h hi3)
  have S3 := Lib.hid (fun w a c (h : IsSl 4 encR w a la c zs) => psort_of HK.out h hla)
  have MG := Lib.hid (fun w a1 c1 a2 c2 (h1 : IsSl 4 encR w a1 (arr (ltK (thr n)) (zs.take i)).length c1 (arr (ltK (thr n)) (zs.take i))) (h2 : IsSl 4 encR w a2 (arr (ltK (thr n)) (zs.drop i)).length c2 (arr (ltK (thr n)) (zs.drop i))) (b1 : Lies w a1) (b2 : Lies w a2) => pmerge_of HK.out h1 h2 hLL b1 b2)
  rw [List.take_append_drop] at MG
  clear HK hLL
  generalize arr (ltK (thr n)) (zs.take i) = p1 at *
  generalize arr (ltK (thr n)) (zs.drop i) = p2 at *
  generalize arr (ltK (thr n)) zs = p3 at *
  generalize thr n = k at *
  clear hi
  have TK := Lib.hid (h.take hi1)
  by_cases hz : zs = []
  · obtain rfl : la = 0 := by rw [hal, hz]; rfl
    obtain rfl : i = 0 := by omega
    have hdz : zs.drop 0 = [] := by rw [hz]; rfl
    cases aa with
    | none =>
      obtain rfl : ca = 0 := h.hnone rfl
      have DP : Hid (IsSl 4 encR w none 0 0 (zs.drop 0)) := Lib.hid (by rw [hdz]; exact IsSl.nil w)
      clear h hal hz hdz
      go_enter Try.func10, Try.ntmps10
      go_wp2_with fail
      refine (TH.out _).mono ?_; rintro e w' ⟨rfl, rfl⟩
      go_wp2_with fail
      refine (S1.out _ _ _ TK.out).mono ?_; rintro e w1 ⟨a1, c1, rfl, hs, hl, hb⟩
      have H1 := Lib.hid (H.out.below hb); have D1 := Lib.hid (DP.out.below hb); have X1 := Lib.hid hs; have XX1 : Hid (Lies w1 a1) := Lib.hid fun x hx => (hl x hx).2
      have B1 := Lib.hid hb
      clear hs hl hb
      go_wp2_with fail
      refine (S2.out _ _ _ D1.out).mono ?_; rintro e w2 ⟨a2, c2, rfl, hs, hl, hb⟩
      have H2 := Lib.hid (H1.out.below hb); have X2 := Lib.hid (X1.out.below hb); have XX2 := Lib.hid (XX1.out.below hb); have Y2 := Lib.hid hs; have YY2 : Hid (Lies w2 a2) := Lib.hid fun x hx => (hl x hx).2
      have B2 := Lib.hid (B1.out.trans (hb.mono B1.out.size))
      clear hs hl hb
      go_wp2_with fail
      refine (MG.out _ _ _ _ _ X2.out Y2.out XX2.out YY2.out).mono ?_; rintro e w3 ⟨a3, c3, rfl, hs, hl, hb⟩
      have H3 := Lib.hid (H2.out.below hb); have X3 := Lib.hid hs
      have B3 := Lib.hid (B2.out.trans (hb.mono B2.out.size))
      clear hs hl hb
      go_wp2_with fail
      refine (S3.out _ _ _ H3.out).mono ?_; rintro e w4 ⟨a4, c4, rfl, hs, hl, hb⟩
      have X4 := Lib.hid (X3.out.below hb); have Y4 := Lib.hid hs
      have B4 := Lib.hid (B3.out.trans (hb.mono B3.out.size))
      clear hs hl hb
      go_wp2_with fail
      refine (same_yes X4.out Y4.out).mono ?_; rintro e w5 ⟨rfl, hb⟩
      have B5 := Lib.hid (B4.out.trans (hb.mono B4.out.size))
      clear hb
      go_wp2_with fail
      refine (works_any _).mono ?_; rintro e w6 ⟨rfl, hb⟩
      have B6 := Lib.hid (B5.out.trans (hb.mono B5.out.size))
      clear hb
      go_wp2_with fail
      go_ret
      exact ⟨rfl, B6.out⟩
    | some x =>
      have DP : Hid (IsSl 4 encR w (some x) 0 ca (zs.drop 0)) := Lib.hid (by rw [hdz]; exact ⟨rfl, Nat.zero_le _, h.hmax, fun e => (by cases e), fun e => absurd rfl e⟩)
      clear h hal hz hdz
      go_enter Try.func10, Try.ntmps10
      go_wp2_with fail
      refine (TH.out _).mono ?_; rintro e w' ⟨rfl, rfl⟩
      go_wp2_with fail
      refine (S1.out _ _ _ TK.out).mono ?_; rintro e w1 ⟨a1, c1, rfl, hs, hl, hb⟩
      have H1 := Lib.hid (H.out.below hb); have D1 := Lib.hid (DP.out.below hb); have X1 := Lib.hid hs; have XX1 : Hid (Lies w1 a1) := Lib.hid fun x hx => (hl x hx).2
      have B1 := Lib.hid hb
      clear hs hl hb
      go_wp2_with fail
      refine (S2.out _ _ _ D1.out).mono ?_; rintro e w2 ⟨a2, c2, rfl, hs, hl, hb⟩
      have H2 := Lib.hid (H1.out.below hb); have X2 := Lib.hid (X1.out.below hb); have XX2 := Lib.hid (XX1.out.below hb); have Y2 := Lib.hid hs; have YY2 : Hid (Lies w2 a2) := Lib.hid fun x hx => (hl x hx).2
      have B2 := Lib.hid (B1.out.trans (hb.mono B1.out.size))
      clear hs hl hb
      go_wp2_with fail
      refine (MG.out _ _ _ _ _ X2.out Y2.out XX2.out YY2.out).mono ?_; rintro e w3 ⟨a3, c3, rfl, hs, hl, hb⟩
      have H3 := Lib.hid (H2.out.below hb); have X3 := Lib.hid hs
      have B3 := Lib.hid (B2.out.trans (hb.mono B2.out.size))
      clear hs hl hb
      go_wp2_with fail
      refine (S3.out _ _ _ H3.out).mono ?_; rintro e w4 ⟨a4, c4, rfl, hs, hl, hb⟩
      have X4 := Lib.hid (X3.out.below hb); have Y4 := Lib.hid hs
      have B4 := Lib.hid (B3.out.trans (hb.mono B3.out.size))
      clear hs hl hb
      go_wp2_with fail
      refine (same_yes X4.out Y4.out).mono ?_; rintro e w5 ⟨rfl, hb⟩
      have B5 := Lib.hid (B4.out.trans (hb.mono B4.out.size))
      clear hb
      go_wp2_with fail
      refine (works_any _).mono ?_; rintro e w6 ⟨rfl, hb⟩
      have B6 := Lib.hid (B5.out.trans (hb.mono B5.out.size))
      clear hb
      go_wp2_with fail
      go_ret
      exact ⟨rfl, B6.out⟩
  · obtain ⟨b, off, rfl, -, -⟩ := h.at_ hz
    have DP := Lib.hid (h.drop hi1)
    clear h hz hal
    by_cases hc : ca = i
    · rw [if_pos hc] at DP
      obtain rfl : ca = la := by omega
      subst hc
      simp only [Nat.sub_self] at DP S2
      clear hi3 hl hi1
      go_enter Try.func10, Try.ntmps10
      go_wp2_with fail
      refine (TH.out _).mono ?_; rintro e w' ⟨rfl, rfl⟩
      go_wp2_with fail
      refine (S1.out _ _ _ TK.out).mono ?_; rintro e w1 ⟨a1, c1, rfl, hs, hl, hb⟩
      have H1 := Lib.hid (H.out.below hb); have D1 := Lib.hid (DP.out.below hb); have X1 := Lib.hid hs; have XX1 : Hid (Lies w1 a1) := Lib.hid fun x hx => (hl x hx).2
      have B1 := Lib.hid hb
      clear hs hl hb
      go_wp2_with fail
      refine (S2.out _ _ _ D1.out).mono ?_; rintro e w2 ⟨a2, c2, rfl, hs, hl, hb⟩
      have H2 := Lib.hid (H1.out.below hb); have X2 := Lib.hid (X1.out.below hb); have XX2 := Lib.hid (XX1.out.below hb); have Y2 := Lib.hid hs; have YY2 : Hid (Lies w2 a2) := Lib.hid fun x hx => (hl x hx).2
      have B2 := Lib.hid (B1.out.trans (hb.mono B1.out.size))
      clear hs hl hb
      go_wp2_with fail
      refine (MG.out _ _ _ _ _ X2.out Y2.out XX2.out YY2.out).mono ?_; rintro e w3 ⟨a3, c3, rfl, hs, hl, hb⟩
      have H3 := Lib.hid (H2.out.below hb); have X3 := Lib.hid hs
      have B3 := Lib.hid (B2.out.trans (hb.mono B2.out.size))
      clear hs hl hb
      go_wp2_with fail
      refine (S3.out _ _ _ H3.out).mono ?_; rintro e w4 ⟨a4, c4, rfl, hs, hl, hb⟩
      have X4 := Lib.hid (X3.out.below hb); have Y4 := Lib.hid hs
      have B4 := Lib.hid (B3.out.trans (hb.mono B3.out.size))
      clear hs hl hb
      go_wp2_with fail
      refine (same_yes X4.out Y4.out).mono ?_; rintro e w5 ⟨rfl, hb⟩
      have B5 := Lib.hid (B4.out.trans (hb.mono B4.out.size))
      clear hb
      go_wp2_with fail
      refine (works_any _).mono ?_; rintro e w6 ⟨rfl, hb⟩
      have B6 := Lib.hid (B5.out.trans (hb.mono B5.out.size))
      clear hb
      go_wp2_with fail
      go_ret
      exact ⟨rfl, B6.out⟩
    · rw [if_neg hc] at DP
      go_enter Try.func10, Try.ntmps10
      go_wp2_with fail
      refine (TH.out _).mono ?_; rintro e w' ⟨rfl, rfl⟩
      go_wp2_with fail
      refine (S1.out _ _ _ TK.out).mono ?_; rintro e w1 ⟨a1, c1, rfl, hs, hl, hb⟩
      have H1 := Lib.hid (H.out.below hb); have D1 := Lib.hid (DP.out.below hb); have X1 := Lib.hid hs; have XX1 : Hid (Lies w1 a1) := Lib.hid fun x hx => (hl x hx).2
      have B1 := Lib.hid hb
      clear hs hl hb
      go_wp2_with fail
      refine (S2.out _ _ _ D1.out).mono ?_; rintro e w2 ⟨a2, c2, rfl, hs, hl, hb⟩
      have H2 := Lib.hid (H1.out.below hb); have X2 := Lib.hid (X1.out.below hb); have XX2 := Lib.hid (XX1.out.below hb); have Y2 := Lib.hid hs; have YY2 : Hid (Lies w2 a2) := Lib.hid fun x hx => (hl x hx).2
      have B2 := Lib.hid (B1.out.trans (hb.mono B1.out.size))
      clear hs hl hb
      go_wp2_with fail
      refine (MG.out _ _ _ _ _ X2.out Y2.out XX2.out YY2.out).mono ?_; rintro e w3 ⟨a3, c3, rfl, hs, hl, hb⟩
      have H3 := Lib.hid (H2.out.below hb); have X3 := Lib.hid hs
      have B3 := Lib.hid (B2.out.trans (hb.mono B2.out.size))
      clear hs hl hb
      go_wp2_with fail
      refine (S3.out _ _ _ H3.out).mono ?_; rintro e w4 ⟨a4, c4, rfl, hs, hl, hb⟩
      have X4 := Lib.hid (X3.out.below hb); have Y4 := Lib.hid hs
      have B4 := Lib.hid (B3.out.trans (hb.mono B3.out.size))
      clear hs hl hb
      go_wp2_with fail
      refine (same_yes X4.out Y4.out).mono ?_; rintro e w5 ⟨rfl, hb⟩
      have B5 := Lib.hid (B4.out.trans (hb.mono B4.out.size))
      clear hb
      go_wp2_with fail
      refine (works_any _).mono ?_; rintro e w6 ⟨rfl, hb⟩
      have B6 := Lib.hid (B5.out.trans (hb.mono B5.out.size))
      clear hb
      go_wp2_with fail
      go_ret
      exact ⟨rfl, B6.out⟩
end Go.Proofs.Ytmholiddejgccaa

/- The law ShuffleExtra. -/
import Derived.Test.YtejleobpohpdpaaDoorU
namespace Go.Proofs.YtejleobpohpdpaaDoor
open Go.ChangeShapes Go.WideShapes Go.ChangeAt Go.RowKit

set_option maxRecDepth 100000 in
set_option maxHeartbeats 4000000 in
theorem extra_law (s : Int) (aa : Option Addr) (la ca : Nat) (ds : List Int) (ab : Option Addr) (lb cb : Nat) (es : List Int) (w : World) (ht : Tab w) (hs : (Lit.int .u8 s).wf = true) (h : IsInts .u64 w aa la ca ds) (h2 : IsInts .u64 w ab lb cb es) :
    Calls Tryd.prog 8 #[.int .u8 s, .slice aa la ca, .slice ab lb cb] w fun e w' => e = .returned (.bool true) ∧ Below w.heap.size w w' := by
  have HT := Lib.hid ht
  have hb' := bounds_u8 hs
  obtain ⟨s, rfl⟩ := Int.eq_ofNat_of_zero_le hb'.1
  have hs2 : s < 256 := by have := hb'.2; omega
  have hac := h.sl.hle; have ham := h.sl.hmax; have hbc := h2.sl.hle; have hbm := h2.sl.hmax
  unfold maxLen at ham hbm
  have hm := Nat.mod_lt s (show 0 < 101 by decide)
  by_cases hlb : 200 < lb
  · clear h h2 hs ht hb'
    go_enter Tryd.func8, Tryd.ntmps8
    go_wp2_with fail
    refine (works_any HT.out).mono ?_; rintro e w4 ⟨rfl, hb⟩
    have B4 := Lib.hid hb
    clear hb
    go_wp2_with fail
    go_ret
    exact ⟨rfl, B4.out⟩
  have hmod : (s : Int) % 101 = ((s % 101 : Nat) : Int) := rfl
  obtain ⟨i0, hi, hz0, hz1, hz2⟩ := info_parts info30
  have PW := Lib.hid (pad_wf h.wf (s % 101 - 1))
  have EW := Lib.hid h2.wf
  have PL := Lib.hid (pad_len ds (s % 101 - 1))
  have EL := Lib.hid h2.sl.hlen
  have H := Lib.hid h.sl; have H2 := Lib.hid h2.sl
  generalize hn : s % 101 = n at *
  have D1 : Hid (∀ w a c, IsK .u64 w a (n - 1) c (pad ds (n - 1)) → Calls Tryd.prog 15 #[.int .i64 (n : Int), .slice a (n - 1) c] w (LN .i64 (ns (drw n (nat (pad ds (n - 1))) (n - 1))) n 0 w)) :=
    Lib.hid (fun w a c h => draw_n (by omega) ⟨h, PW.out⟩ (by omega))
  have D2 : Hid (∀ w a l c, l = (n - 1) + lb → IsK .u64 w a l c (pad ds (n - 1) ++ es) → Calls Tryd.prog 15 #[.int .i64 (n : Int), .slice a l c] w (LN .i64 (ns (drw n (nat (pad ds (n - 1))) (n - 1))) n 0 w)) := Lib.hid (fun w a l c hl h => by
    have := draw_n (n := n) (by omega) (w := w) (aa := a) (la := l) (ca := c) ⟨h, fun x hx => (List.mem_append.1 hx).elim (PW.out x) (EW.out x)⟩ (by omega)
    rw [show drw n (nat (pad ds (n - 1) ++ es)) (n - 1) = drw n (nat (pad ds (n - 1))) (n - 1) from drw_congr _ (fun i hi => by
      have : (nat (pad ds (n - 1) ++ es)).getD i 0 = (nat (pad ds (n - 1))).getD i 0 := by
        unfold nat
        rw [List.map_append, List.getD_eq_getElem?_getD, List.getElem?_append_left (by rw [List.length_map, PL.out]; exact hi), List.getD_eq_getElem?_getD]
      rw [this])] at this
    exact this)
  have D3 : Hid (∀ (w : World) (a : Option Addr) (l c : Nat), l + 1 < n → Calls Tryd.prog 15 #[.int .i64 (n : Int), .slice a l c] w fun e w' => e = .returned (.tuple #[.slice none 0 0, .int .i64 14]) ∧ w = w') := Lib.hid (fun w a l c hl => draw_err2 (by omega) hl w)
  generalize ns (drw n (nat (pad ds (n - 1))) (n - 1)) = zp at *
  obtain ⟨m, hmn⟩ : ∃ m, m = n - 1 := ⟨_, rfl⟩
  rw [← hmn] at D1 D2 PL PW
  have hm100 : m < 101 := by omega
  obtain ⟨CI, hCI⟩ : ∃ C, C = madeCells #[Value.int .u64 0] m := ⟨_, rfl⟩
  have m1 := make_u m (by omega)
  rw [← hCI] at m1
  have HCI := Lib.hid hCI
  have HMN := Lib.hid hmn
  have A1 : Hid (Below w.heap.size w (w.alloc (.cells CI 30))) := Lib.hid (Below.alloc (Below.refl _ _) (Nat.le_refl _) _)
  have K1 : Hid (Blk .u64 30 (w.alloc (.cells CI 30)) w.heap.size m (List.replicate m 0)) := Lib.hid (by rw [HCI.out]; exact Blk.new _ _ (by unfold maxLen; omega))
  have H1 := Lib.hid (H.out.below A1.out)
  have hif : (if (1 : Int) < (n : Int) then (n : Int) - 1 else 0) = (m : Int) := by split <;> omega
  clear h h2 hs ht hb' hn hCI hmn
  go_enter Tryd.func8, Tryd.ntmps8
  go_wp2_with (with_reducible refine wpList_copyB rfl (.tmp 26) (.tmp 27) 22 rfl 30 Tryd.underlying22 size30 rfl rfl K1.out (by simp) H1.out w.heap.size w A1.out (Nat.le_refl _) ?_)
  intro w3 c3 hk3 hb3
  clear m1 hif
  have K3 : Hid (Blk .u64 30 w3 w.heap.size m (pad ds m)) := Lib.hid (by rw [pad, List.drop_replicate]; exact hk3)
  have S3 : Hid (IsK .u64 w3 (some ⟨w.heap.size, 0, none⟩) m m (pad ds m)) := Lib.hid (K3.out.sl PL.out.symm)
  have B3 := Lib.hid hb3
  clear hk3 hb3
  go_wp2_with fail
  refine (D1.out _ _ _ S3.out).mono ?_; rintro e w4 ⟨a4, c4, rfl, hs4, hb⟩
  have P4 := Lib.hid hs4; have S4 := Lib.hid (S3.out.below hb); have B4 := Lib.hid (B3.out.trans (hb.mono B3.out.size)); have H4 := Lib.hid (H2.out.below (B3.out.trans (hb.mono B3.out.size)))
  have hq1 := hs4.hle; have hq2 := hs4.hmax
  unfold maxLen at hq2
  clear hs4 hb
  have A5 : Hid (Below w4.heap.size w4 (w4.alloc (.cells #[] 30))) := Lib.hid (Below.alloc (Below.refl _ _) (Nat.le_refl _) _)
  have O5 : Hid (OutR 1 (encK .u64) 30 (w4.alloc (.cells #[] 30)) w4.heap.size (.slice (some ⟨w4.heap.size, 0, none⟩) 0 0) []) := Lib.hid (OutR.of_blk (zs := []) ⟨[], rfl, by unfold maxLen; omega, by rw [block_new]; rfl⟩ (Nat.le_refl _))
  have S5 := Lib.hid (S4.out.below A5.out); have H5 := Lib.hid (H4.out.below A5.out)
  have hsz5 : w4.heap.size ≤ (w4.alloc (.cells #[] 30)).heap.size := by simp
  have HSZ5 := Lib.hid hsz5
  clear hsz5
  go_wp2_with (at_builtin; refine wpList_appS rfl (.tmp 37) (.tmp 38) 22 rfl 30 i0 .u64 8 Tryd.underlying22 hi hz0 hz1 hz2 (by decide) rfl O5.out HSZ5.out S5.out rfl (by simp; omega) ?_)
  intro v6 w6 h1 h2 h3 h4
  have O6 : Hid (OutR 1 (encK .u64) 30 w6 w4.heap.size v6 (pad ds m)) := Lib.hid (by simpa using h1)
  have BB6 := Lib.hid (A5.out.trans h3)
  clear h1 h2 h3 h4 O5
  have H6 := Lib.hid (H4.out.below BB6.out)
  have hsz6 := BB6.out.size
  go_wp2_with (at_builtin; refine wpList_appS rfl (.tmp 39) (.tmp 40) 22 rfl 30 i0 .u64 8 Tryd.underlying22 hi hz0 hz1 hz2 (by decide) rfl O6.out hsz6 H6.out rfl (by rw [PL.out]; omega) ?_)
  intro v7 w7 h1 h2 h3 h4
  obtain ⟨a7, c7, rfl, hs7⟩ := h1.sl
  have hl7 : (pad ds m ++ es).length = m + lb := by rw [List.length_append, PL.out, EL.out]
  rw [hl7] at hs7 ⊢
  have S7 := Lib.hid hs7
  have K7 := Lib.hid (BB6.out.trans h3)
  have S7' := Lib.hid (S4.out.below K7.out)
  have P7 := Lib.hid (P4.out.below K7.out)
  have B7 := Lib.hid (B4.out.trans (K7.out.mono B4.out.size))
  clear h1 h2 h3 h4 hl7 hs7 O6 K7
  go_wp2_with fail
  refine (D2.out _ _ _ _ rfl S7.out).mono ?_; rintro e w8 ⟨a8, c8, rfl, hs8, hb⟩
  have P8 := Lib.hid (P7.out.below hb); have Q8 := Lib.hid hs8; have B8 := Lib.hid (B7.out.trans (hb.mono B7.out.size))
  clear hs8 hb
  go_wp2_with fail
  refine (same_yes P8.out Q8.out).mono ?_; rintro e w9 ⟨rfl, hb⟩
  have B9 := Lib.hid (B8.out.trans (hb.mono B8.out.size))
  clear hb
  by_cases hm0 : m = 0
  · have hm1 : ((m : Int) == 0) = true := by simp [hm0]
    have HM0 := Lib.hid hm0
    clear hm0
    go_wp2_with fail
    refine (works_any (HT.out.below B9.out)).mono ?_; rintro e w10 ⟨rfl, hb⟩
    have B10 := Lib.hid (B9.out.trans (hb.mono B9.out.size))
    clear hb
    go_wp2_with fail
    go_ret
    exact ⟨rfl, B10.out⟩
  · have hm1 : ((m : Int) == 0) = false := by simp [hm0]
    have hsub : (m : Int) - 1 = ((m - 1 : Nat) : Int) := by omega
    have hmm : m - 1 ≤ m := by omega
    have D3' := Lib.hid (fun w a c => D3.out w a (m - 1) c (by have := HMN.out; omega))
    generalize m - 1 = m' at *
    go_wp2_with fail
    refine (D3'.out _ _ _).mono ?_; rintro e w10 ⟨rfl, rfl⟩
    go_wp2_with fail
    refine (works_any (HT.out.below B9.out)).mono ?_; rintro e w11 ⟨rfl, hb⟩
    have B11 := Lib.hid (B9.out.trans (hb.mono B9.out.size))
    clear hb
    go_wp2_with fail
    go_ret
    exact ⟨rfl, B11.out⟩
end Go.Proofs.YtejleobpohpdpaaDoor

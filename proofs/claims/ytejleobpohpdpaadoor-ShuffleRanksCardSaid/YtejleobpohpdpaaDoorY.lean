/- The law ShuffleRanks. -/
import Derived.Test.YtejleobpohpdpaaDoorR
namespace Go.Proofs.YtejleobpohpdpaaDoor
open Go.ChangeShapes Go.WideShapes Go.ChangeAt Go.RowKit

def RnkLoop (w : World) (m : Nat) (vi : Value) (wr : World) : Prop := ∃ k : Nat, k ≤ m ∧ vi = .int .i64 k ∧ Below w.heap.size w wr
def RnkLoop2 (w : World) (m n : Nat) (vi : Value) (wr : World) : Prop := ∃ k : Nat, m + 1 ≤ k ∧ k ≤ n ∧ vi = .int .i64 k ∧ Below w.heap.size w wr
theorem unr_n {n r : Nat} (hn : n ≤ 20) (hr : r < fct n) {w : World} (ht : Tab w) : Calls Tryd.prog 18 #[.int .i64 (n : Int), .int .u64 (r : Int)] w (LN .i64 (ns (unr n (List.range n) r)) n 0 w) := by
  refine (punr_ok hn hr ht).mono ?_
  rintro e w' ⟨v, he, ho, hb⟩
  exact LN.out he ho (unr_len (by simp) hr) hb
theorem isP_unr {n r : Nat} (hr : r < fct n) : IsP (unr n (List.range n) r) := isP_perm (isP_range n) (unr_perm n _ r (by simp) hr).symm
set_option maxRecDepth 100000 in
set_option maxHeartbeats 16000000 in
theorem ranks_law (s r : Int) (w : World) (ht : Tab w) (hs : (Lit.int .u8 s).wf = true) (hr : (Lit.int .u64 r).wf = true) :
    Calls Tryd.prog 6 #[.int .u8 s, .int .u64 r] w fun e w' => e = .returned (.bool true) ∧ Below w.heap.size w w' := by
  have HT := Lib.hid ht
  have hb' := bounds_u8 hs
  obtain ⟨s, rfl⟩ := Int.eq_ofNat_of_zero_le hb'.1
  have hs2 : s < 256 := by have := hb'.2; omega
  have hbr := bounds_u64 hr
  obtain ⟨r, rfl⟩ := Int.eq_ofNat_of_zero_le hbr.1
  have hm := Nat.mod_lt s (show 0 < 21 by decide)
  have hmod : (s : Int) % 21 = ((s % 21 : Nat) : Int) := rfl
  generalize s % 21 = n at *
  have hf0 := fct_pos n
  have hfs := fct_small (n := n) (by omega)
  have hq := Nat.mod_lt r hf0
  have hmod2 : (r : Int) % (fct n : Int) = ((r % fct n : Nat) : Int) := rfl
  generalize r % fct n = q at *
  have UN := Lib.hid (fun w (ht : Tab w) => unr_n (n := n) (by omega) hq ht)
  have hP := isP_unr hq
  have hPl := unr_len (left := List.range n) (by simp) hq
  have hPr := rk_unr n (List.range n) q (by simp) hq (up_range n)
  have CK := Lib.hid (fun w a c (h : IsK .i64 w a n c (ns (unr n (List.range n) q))) => pcheck h)
  rw [chk_yes (okP_ns hP (by omega))] at CK
  have RK := Lib.hid (fun w a c (ht : Tab w) (h : IsK .i64 w a n c (ns (unr n (List.range n) q))) => prank_ok hP (by omega) ht h)
  rw [hPr] at RK
  have ew : IntKind.u64.wrap ((q : Int) + 1) = ((q + 1 : Nat) : Int) := IntWalk.u64_in _ (by omega)
  have UE : Hid (q + 1 = fct n → ∀ w, Tab w → Calls Tryd.prog 18 #[.int .i64 (n : Int), .int .u64 ((q + 1 : Nat) : Int)] w fun e w' => e = .returned (.tuple #[.slice none 0 0, .int .i64 3]) ∧ w = w') := Lib.hid (fun e w ht => punr_range (by omega) (by omega) ht)
  have UN2 : Hid (q + 1 < fct n → ∀ w, Tab w → Calls Tryd.prog 18 #[.int .i64 (n : Int), .int .u64 ((q + 1 : Nat) : Int)] w (LN .i64 (ns (unr n (List.range n) (q + 1))) n 0 w)) := Lib.hid (fun e w ht => unr_n (by omega) e ht)
  have NX : Hid (q + 1 < fct n → Next (unr n (List.range n) q) (unr n (List.range n) (q + 1))) := Lib.hid (fun h => unr_next n _ q (by simp) h (up_range n))
  have PL := Lib.hid hPl
  unfold LN at UN UN2
  clear ht hs hr hb' hbr hP hPl hPr
  generalize unr n (List.range n) q = p at *
  generalize unr n (List.range n) (q + 1) = p2 at *
  go_enter Tryd.func6, Tryd.ntmps6
  go_wp2_with fail
  go_loop [6, 7] (fun vo vi => FctRel n vo vi) (fun _ vi => n + 1 - (intOf vi).toNat)
  case atStart => exact ⟨2, Nat.le_refl _, Or.inr rfl, rfl, rfl⟩
  case round =>
    obtain ⟨k, hk2, hk, rfl, rfl⟩ := hrel
    by_cases hlt : k ≤ n
    · obtain ⟨m, rfl⟩ : ∃ m, k = m + 1 := ⟨k - 1, by omega⟩
      rw [Nat.add_sub_cancel]
      have e : (fct m : Int) * ((m : Int) + 1) = ((fct (m + 1) : Nat) : Int) := by rw [fct, Nat.mul_comm]; simp
      have e2 : IntKind.u64.wrap ((fct m : Int) * ((m : Int) + 1)) = ((fct (m + 1) : Nat) : Int) := by
        rw [e]; exact IntWalk.u64_in _ (by have := fct_small (show m + 1 ≤ 20 by omega); omega)
      have E2 := Lib.hid e2
      clear e e2
      go_wp2_with fail
      go_round
      case rel => exact ⟨m + 1 + 1, by omega, by omega, by go_num, by rw [E2.out]; rfl⟩
      case measure => simp [intOf]; omega
    · have hkn : fct (k - 1) = fct n := by
        rcases hk with h | h
        · rw [show k - 1 = n by omega]
        · have : n = 0 ∨ n = 1 := by omega
          rcases this with rfl | rfl <;> rw [h] <;> rfl
      rw [hkn]
      clear hkn
      generalize fct n = f at *
      go_wp2_with fail
      refine (UN.out _ HT.out).mono ?_; rintro e w1 ⟨ap, cp, rfl, hs, hb⟩
      have B := Lib.hid hb
      have Sp := Lib.hid hs
      have hxp := hs.hle; have hyp := hs.hmax; unfold maxLen at hyp
      clear hs hb
      go_wp2_with fail
      refine (CK.out _ _ _ Sp.out).mono ?_; rintro e w2 ⟨rfl, hb⟩
      have Sp_ := Lib.hid (Sp.out.below hb); clear Sp; have Sp := Sp_; clear Sp_
      have B_ := Lib.hid (B.out.trans (hb.mono B.out.size)); clear B; have B := B_; clear B_
      clear hb
      go_wp2_with fail
      refine (RK.out _ _ _ (HT.out.below B.out) Sp.out).mono ?_; rintro e w3 ⟨rfl, hb⟩
      have Sp_ := Lib.hid (Sp.out.below hb); clear Sp; have Sp := Sp_; clear Sp_
      have B_ := Lib.hid (B.out.trans (hb.mono B.out.size)); clear B; have B := B_; clear B_
      clear hb
      by_cases hqf : q + 1 = f
      · have UE2 := Lib.hid (UE.out hqf)
        subst hqf
        clear UE UN2 NX
        go_wp2_with fail
        refine (UE2.out _ (HT.out.below B.out)).mono ?_; rintro e w4 ⟨rfl, rfl⟩
        go_wp2_with fail
        refine (works_any (HT.out.below B.out)).mono ?_; rintro e w9 ⟨rfl, hb⟩
        have B9 := Lib.hid (B.out.trans (hb.mono B.out.size))
        clear hb
        go_wp2_with fail
        go_ret
        exact ⟨rfl, B9.out⟩
      · have hqlt : q + 1 < f := by omega
        go_wp2_with fail
        refine (UN2.out hqlt _ (HT.out.below B.out)).mono ?_; rintro e w4 ⟨aq, cq, rfl, hs, hb⟩
        have Sp_ := Lib.hid (Sp.out.below hb); clear Sp; have Sp := Sp_; clear Sp_
        have B_ := Lib.hid (B.out.trans (hb.mono B.out.size)); clear B; have B := B_; clear B_
        have Sq := Lib.hid hs
        have hxq := hs.hle; have hyq := hs.hmax; unfold maxLen at hyq
        have hql := hs.hlen
        rw [ns_len] at hql
        clear hs hb
        obtain ⟨m, hmn, h1, h2, h3⟩ := NX.out hqlt
        rw [PL.out] at hmn h3
        have N1 := Lib.hid h1; have N3 := Lib.hid h3
        clear h1 h3
        have cp' : ∀ i, i < n → ∀ wr, Below w4.heap.size w4 wr → ∃ b off, True := fun _ _ _ _ => ⟨0, 0, trivial⟩
        clear cp'
        obtain ⟨bp, op, rfl, _, _⟩ := Sp.out.at_ (by intro h; have h1 := ns_len p; rw [h] at h1; have := PL.out; simp at h1; omega)
        obtain ⟨bq, oq, rfl, _, _⟩ := Sq.out.at_ (by intro h; have h1 := ns_len p2; rw [h] at h1; simp at h1; omega)
        have P0 : Hid (∀ i, i < n → ∀ wr, Below w4.heap.size w4 wr → wr.cell? ⟨bp, op + i, none⟩ = some (.int .i64 (p.getD i 0 : Nat))) := Lib.hid (fun i hi wr hb => by
          have := (Sp.out.below hb).cellK (i := i) (by rw [ns_len, PL.out]; exact hi)
          rw [ns_get] at this; exact this)
        have Q0 : Hid (∀ i, i < n → ∀ wr, Below w4.heap.size w4 wr → wr.cell? ⟨bq, oq + i, none⟩ = some (.int .i64 (p2.getD i 0 : Nat))) := Lib.hid (fun i hi wr hb => by
          have := (Sq.out.below hb).cellK (i := i) (by rw [ns_len, ← hql]; exact hi)
          rw [ns_get] at this; exact this)
        clear Sp Sq hql
        go_wp2_with fail
        go_loopw [14] (fun vi wr => RnkLoop w4 m vi wr) (fun vi _ => m - (intOf vi).toNat)
        case atStart => exact ⟨0, Nat.zero_le _, rfl, Below.refl _ _⟩
        case round =>
          obtain ⟨k, hk, rfl, hbl⟩ := hrel
          have BL := Lib.hid hbl; clear hbl
          have x0 := P0.out k (by omega) _ BL.out
          have y0 := Q0.out k (by omega) _ BL.out
          by_cases hlt : k < m
          · rw [← N1.out k hlt] at y0
            generalize p.getD k 0 = x at *
            have hkn : decide (k < n) = true := by simp; omega
            go_wp2_with fail
            go_quiet (fail)
            go_wp2_with fail
            go_roundw
            case rel => exact ⟨k + 1, by omega, by go_num, below_drewN BL.out _⟩
            case measure => simp [intOf]; omega
          · obtain rfl : k = m := by omega
            generalize hpx : p.getD k 0 = x at *
            generalize hqx : p2.getD k 0 = y at *
            have hkn : decide (k < n) = true := by simp; omega
            have hne : ((x : Int) == (y : Int)) = false := by simp; omega
            have hne2 : (x == y) = false := by simp; omega
            have hkn2 : ((k : Int) == (n : Int)) = false := by simp; omega
            have hkn3 : (k == n) = false := by simp; omega
            have hyx : decide (y ≤ x) = false := by simp; omega
            have HPX := Lib.hid hpx; have HQX := Lib.hid hqx
            clear hpx hqx
            go_wp2_with fail
            go_quiet (fail)
            go_wp2_with fail
            go_quiet (fail)
            go_wp2_with fail
            go_loopw [15] (fun vi wr => RnkLoop2 w4 k n vi wr) (fun vi _ => n - (intOf vi).toNat)
            case atStart => exact ⟨k + 1, Nat.le_refl _, by omega, by go_num, below_drewN BL.out _⟩
            case round =>
              clear x0 y0 hkn hne hne2 hkn2 hkn3 hyx BL hlt
              obtain ⟨j, hj1, hj2, rfl, hbl⟩ := hrel
              have BL := Lib.hid hbl; clear hbl
              have hw1 : IntKind.i64.wrap ((k : Int) + 1) = (k : Int) + 1 := IntWalk.i64_in _ (by omega)
              by_cases hlt : j < n
              · have x0 := P0.out k (by omega) _ BL.out
                have y0 := Q0.out k (by omega) _ BL.out
                rw [HPX.out] at x0
                rw [HQX.out] at y0
                have u0 := P0.out j hlt _ BL.out
                have v0 := Q0.out j hlt _ BL.out
                obtain ⟨hN1, hN2⟩ := N3.out j (by omega) hlt
                by_cases hjk : j = k + 1
                · subst hjk
                  clear hN1
                  generalize p.getD (k + 1) 0 = pj at *
                  generalize p2.getD (k + 1) 0 = qj at *
                  by_cases hxp2 : x < pj
                  · have d1 : decide (x < pj) = true := by simp; omega
                    have d2 : decide (pj < y) = false := by simp; omega
                    clear hN2
                    go_wp2_with fail
                    go_quiet (fail)
                    go_wp2_with fail
                    go_roundw
                    case rel => exact ⟨k + 1 + 1, by omega, by omega, by go_num, below_drewN BL.out _⟩
                    case measure => simp [intOf]; omega
                  · have d1 : decide (x < pj) = false := by simp; omega
                    clear hN2
                    go_wp2_with fail
                    go_quiet (fail)
                    go_wp2_with fail
                    go_roundw
                    case rel => exact ⟨k + 1 + 1, by omega, by omega, by go_num, below_drewN BL.out _⟩
                    case measure => simp [intOf]; omega
                · obtain ⟨i, rfl⟩ : ∃ i, j = i + 1 := ⟨j - 1, by omega⟩
                  have u1 := P0.out i (by omega) _ BL.out
                  have v1 := Q0.out i (by omega) _ BL.out
                  obtain ⟨hN3, hN4⟩ := hN1 (by omega)
                  rw [Nat.add_sub_cancel] at hN3 hN4
                  clear hN1
                  generalize p.getD (i + 1) 0 = pj at *
                  generalize p2.getD (i + 1) 0 = qj at *
                  generalize p.getD i 0 = pi at *
                  generalize p2.getD i 0 = qi at *
                  have e1 : decide (pi < pj) = false := by simp; omega
                  have e2 : decide (qj < qi) = false := by simp; omega
                  have e3 : decide (k < i) = true := by simp; omega
                  have e4 : decide (k + 1 < i + 1) = true := by simp; omega
                  by_cases hxp2 : x < pj
                  · have d1 : decide (x < pj) = true := by simp; omega
                    have d2 : decide (pj < y) = false := by simp; omega
                    clear hN2
                    go_wp2_with fail
                    go_quiet (fail)
                    go_wp2_with fail
                    go_roundw
                    case rel => exact ⟨i + 1 + 1, by omega, by omega, by go_num, below_drewN BL.out _⟩
                    case measure => simp [intOf]; omega
                  · have d1 : decide (x < pj) = false := by simp; omega
                    clear hN2
                    go_wp2_with fail
                    go_quiet (fail)
                    go_wp2_with fail
                    go_roundw
                    case rel => exact ⟨i + 1 + 1, by omega, by omega, by go_num, below_drewN BL.out _⟩
                    case measure => simp [intOf]; omega
              · have B8 := Lib.hid (B.out.trans (BL.out.mono B.out.size))
                go_wp2_with fail
                refine (works_any (HT.out.below B8.out)).mono ?_; rintro e w9 ⟨rfl, hb⟩
                have B9 := Lib.hid (B8.out.trans (hb.mono B8.out.size))
                clear hb
                go_wp2_with fail
                go_ret
                exact ⟨rfl, B9.out⟩
end Go.Proofs.YtejleobpohpdpaaDoor

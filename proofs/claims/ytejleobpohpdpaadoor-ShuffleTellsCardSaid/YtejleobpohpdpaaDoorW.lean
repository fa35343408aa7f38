/- The law ShuffleTells. -/
import Derived.Test.YtejleobpohpdpaaDoorV
import Derived.StillTailTactics
namespace Go.Proofs.YtejleobpohpdpaaDoor
open Go.ChangeShapes Go.WideShapes Go.ChangeAt Go.RowKit

theorem IsCys.nil (w : World) : IsCys w none 0 0 [] := ⟨[], IsSl.nil w, rfl, fun i hi => by simp at hi⟩
/-- A number and an error; a slice of slices and an error. -/
def RP (r er : Int) (w : World) (e : Ending) (w' : World) : Prop := e = .returned (.tuple #[.int .u64 r, .int .i64 er]) ∧ Below w.heap.size w w'
def CP (l : List (List Nat)) (er : Int) (w : World) (e : Ending) (w' : World) : Prop := ∃ a c, e = .returned (.tuple #[.slice a l.length c, .int .i64 er]) ∧ IsCys w' a l.length c l ∧ Below w.heap.size w w'
section
variable {zs : List Int} {w : World} {aa : Option Addr} {la ca : Nat}
theorem inv_both (h : IsK .i64 w aa la ca zs) : ∃ ys er, ∀ W, Below w.heap.size w W → Calls Tryd.prog 27 #[.slice aa la ca] W (LP .i64 ys er W) ∧ Calls Tryd.prog 28 #[.slice aa la ca] W (LP .i64 ys er W) := by
  cases ho : okP zs
  · refine ⟨[], 2, fun W hW => ⟨(pinv_no ho (h.below hW)).mono ?_, (rinv_no ho (h.below hW)).mono ?_⟩⟩ <;> (rintro e w' ⟨he, hb⟩; exact LP.nil he hb)
  · obtain ⟨p, hp, rfl, hpl⟩ := okP_yes ho
    have hal := h.hlen
    rw [ns_len] at hal
    refine ⟨ns (invp p), 0, fun W hW => ⟨(pinv_ok hp hpl (h.below hW)).mono ?_, (rinv_ok hp hpl (h.below hW)).mono ?_⟩⟩
    · rintro e w' ⟨g, hg, he, hb, hbl⟩
      exact LP.blk he hb (by rw [ns_len, invp_len, hal]) hbl
    · rintro e w' ⟨v, he, ho, hbl⟩
      exact LP.out he ho hbl
theorem drs_both (h : IsK .i64 w aa la ca zs) : ∃ ys er, ∀ W, Below w.heap.size w W → Calls Tryd.prog 22 #[.slice aa la ca] W (LP .u64 ys er W) ∧ Calls Tryd.prog 30 #[.slice aa la ca] W (LP .u64 ys er W) := by
  cases ho : okP zs
  · refine ⟨[], 2, fun W hW => ⟨(pdrs_no ho (h.below hW)).mono ?_, (rdrs_no ho (h.below hW)).mono ?_⟩⟩ <;> (rintro e w' ⟨he, hb⟩; exact LP.nil he hb)
  · obtain ⟨p, hp, rfl, hpl⟩ := okP_yes ho
    refine ⟨ns (drs p (p.length - 1)), 0, fun W hW => ⟨(pdrs_ok hp hpl (h.below hW)).mono ?_, (rdrs_ok hp hpl (h.below hW)).mono ?_⟩⟩ <;> (rintro e w' ⟨v, he, ho, hbl⟩; exact LP.out he ho hbl)
theorem rank_both (ht : Tab w) (h : IsK .i64 w aa la ca zs) : ∃ r er, ∀ W, Below w.heap.size w W → Calls Tryd.prog 23 #[.slice aa la ca] W (RP r er W) ∧ Calls Tryd.prog 32 #[.slice aa la ca] W (RP r er W) := by
  cases ho : okP zs
  · exact ⟨0, 2, fun W hW => ⟨prank_no ho (h.below hW), rrank_no ho (h.below hW)⟩⟩
  · by_cases hl : 20 < la
    · exact ⟨0, 16, fun W hW => ⟨prank_long ho (h.below hW) hl, rrank_long ho (h.below hW) hl⟩⟩
    · obtain ⟨p, hp, rfl, hpl⟩ := okP_yes ho
      have hal := h.hlen
      rw [ns_len] at hal
      exact ⟨rk p, 0, fun W hW => ⟨prank_ok hp (by omega) (ht.below hW) (h.below hW), rrank_ok hp (by omega) (h.below hW)⟩⟩
theorem cyc_both (h : IsK .i64 w aa la ca zs) : ∃ l er, ∀ W, Below w.heap.size w W → Calls Tryd.prog 24 #[.slice aa la ca] W (CP l er W) ∧ Calls Tryd.prog 33 #[.slice aa la ca] W (CP l er W) := by
  cases ho : okP zs
  · refine ⟨[], 2, fun W hW => ⟨(pcyc_no ho (h.below hW)).mono ?_, (rcyc_no ho (h.below hW)).mono ?_⟩⟩ <;> (rintro e w' ⟨he, hb⟩; exact ⟨none, 0, he, IsCys.nil w', hb⟩)
  · obtain ⟨p, hp, rfl, hpl⟩ := okP_yes ho
    refine ⟨cycs p, 0, fun W hW => ⟨(pcyc_ok hp hpl (h.below hW)).mono ?_, (rcyc_ok hp hpl (h.below hW)).mono ?_⟩⟩ <;>
      (rintro e w' ⟨vo, vals, he, ho, ha, hb⟩; obtain ⟨a, c, rfl, hs⟩ := cys_of ho ha; exact ⟨a, c, he, hs, hb⟩)
end
def TellLoop (w : World) (n : Nat) (vi : Value) (wr : World) : Prop := ∃ k : Nat, k ≤ n ∧ vi = .int .i64 k ∧ Below w.heap.size w wr
set_option maxRecDepth 100000 in
set_option maxHeartbeats 8000000 in
theorem tells_law (aa : Option Addr) (la ca : Nat) (zs : List Int) (w : World) (ht : Tab w) (h : IsInts .i64 w aa la ca zs) :
    Calls Tryd.prog 10 #[.slice aa la ca] w fun e w' => e = .returned (.bool true) ∧ Below w.heap.size w w' := by
  have HT := Lib.hid ht
  have hac := h.sl.hle; have ham := h.sl.hmax
  unfold maxLen at ham
  by_cases hl : 300 < la
  · clear ht h
    go_enter Tryd.func10, Tryd.ntmps10
    go_wp2_with fail
    refine (works_any HT.out).mono ?_; rintro e w4 ⟨rfl, hb⟩
    have B4 := Lib.hid hb
    clear hb
    go_wp2_with fail
    go_ret
    exact ⟨rfl, B4.out⟩
  obtain ⟨y1, e1, hd1⟩ := inv_both h.sl
  obtain ⟨y2, e2, hd2⟩ := drs_both h.sl
  obtain ⟨r3, e3, hd3⟩ := rank_both ht h.sl
  obtain ⟨l4, e4, hd4⟩ := cyc_both h.sl
  have D1 := Lib.hid hd1; have D2 := Lib.hid hd2; have D3 := Lib.hid hd3; have D4 := Lib.hid hd4
  have C1 := Lib.hid (fun W (hW : Below w.heap.size w W) => pcheck (h.sl.below hW))
  have C2 := Lib.hid (fun W (hW : Below w.heap.size w W) => rcheck (h.sl.below hW))
  generalize chk zs = ck at *
  have hnot : ∀ (x : Bool) (w : World), (Op.unary .not (.bool x)).run Tryd.prog w = .ok (.bool (!x)) w := fun _ _ => rfl
  clear ht h hd1 hd2 hd3 hd4
  go_enter Tryd.func10, Tryd.ntmps10
  go_wp2_with fail
  refine (D1.out _ (Below.refl _ _)).1.mono ?_; rintro e w1 ⟨a1, c1, rfl, hs, hb⟩
  have P1 := Lib.hid hs; have B1 := Lib.hid hb
  clear hs hb
  go_wp2_with fail
  refine (D1.out _ B1.out).2.mono ?_; rintro e w2 ⟨a2, c2, rfl, hs, hb⟩
  have P12 := Lib.hid (P1.out.below hb); have P2 := Lib.hid hs; have B2 := Lib.hid (B1.out.trans (hb.mono B1.out.size))
  clear hs hb
  go_wp2_with fail
  refine (same_yes P12.out P2.out).mono ?_; rintro e w3 ⟨rfl, hb⟩
  have B3 := Lib.hid (B2.out.trans (hb.mono B2.out.size))
  clear hb
  go_wp2_with fail
  refine (C1.out _ B3.out).mono ?_; rintro e w4 ⟨rfl, hb⟩
  have B4 := Lib.hid (B3.out.trans (hb.mono B3.out.size))
  clear hb
  go_wp2_with fail
  refine (C2.out _ B4.out).mono ?_; rintro e w5 ⟨rfl, hb⟩
  have B5 := Lib.hid (B4.out.trans (hb.mono B4.out.size))
  clear hb
  go_wp2_with fail
  refine (D2.out _ B5.out).1.mono ?_; rintro e w6 ⟨a6, c6, rfl, hs, hb⟩
  have P6 := Lib.hid hs; have B6 := Lib.hid (B5.out.trans (hb.mono B5.out.size))
  clear hs hb
  go_wp2_with fail
  refine (D2.out _ B6.out).2.mono ?_; rintro e w7 ⟨a7, c7, rfl, hs, hb⟩
  have P67 := Lib.hid (P6.out.below hb); have P7 := Lib.hid hs; have B7 := Lib.hid (B6.out.trans (hb.mono B6.out.size))
  clear hs hb
  go_wp2_with fail
  refine (samed_yes P67.out P7.out).mono ?_; rintro e w8 ⟨rfl, hb⟩
  have B8 := Lib.hid (B7.out.trans (hb.mono B7.out.size))
  clear hb
  go_wp2_with fail
  refine (D3.out _ B8.out).1.mono ?_; rintro e w9 ⟨rfl, hb⟩
  have B9 := Lib.hid (B8.out.trans (hb.mono B8.out.size))
  clear hb
  go_wp2_with fail
  refine (D3.out _ B9.out).2.mono ?_; rintro e w10 ⟨rfl, hb⟩
  have B10 := Lib.hid (B9.out.trans (hb.mono B9.out.size))
  clear hb
  go_wp2_with fail
  refine (D4.out _ B10.out).1.mono ?_; rintro e w11 ⟨a11, c11, rfl, hs, hb⟩
  have P11 := Lib.hid hs; have B11 := Lib.hid (B10.out.trans (hb.mono B10.out.size))
  clear hs hb
  go_wp2_with fail
  refine (D4.out _ B11.out).2.mono ?_; rintro e w12 ⟨a12, c12, rfl, hs, hb⟩
  have Q12 := Lib.hid (P11.out.below hb); have P12 := Lib.hid hs; have B12 := Lib.hid (B11.out.trans (hb.mono B11.out.size))
  obtain ⟨-, hx1, hx2⟩ := P12.out.bd
  obtain ⟨-, hx3, hx4⟩ := Q12.out.bd
  unfold maxLen at hx2 hx4
  clear hs hb
  have HLEN : Hid (∃ n, l4.length = n) := Lib.hid ⟨_, rfl⟩
  obtain ⟨n4, hn4⟩ := HLEN.out
  have HN4 := Lib.hid hn4
  rw [hn4] at P12 Q12 hx1 hx3 ⊢
  clear hn4 D4
  go_wp2_with fail
  go_loopw [13] (fun vi wr => TellLoop w12 n4 vi wr) (fun vi _ => n4 - (intOf vi).toNat)
  case atStart => exact ⟨0, Nat.zero_le _, rfl, Below.refl _ _⟩
  case round =>
    obtain ⟨k, hk, rfl, hbl⟩ := hrel
    have BL := Lib.hid hbl; clear hbl
    by_cases hlt : k < n4
    · have hkl : k < l4.length := by have := HN4.out; omega
      obtain ⟨b1, o1, rfl⟩ := P12.out.adr (by intro e; rw [e] at hkl; simp at hkl)
      obtain ⟨b2, o2, rfl⟩ := Q12.out.adr (by intro e; rw [e] at hkl; simp at hkl)
      obtain ⟨ai, ci, x0, hx⟩ := (P12.out.below BL.out).at_ hkl
      obtain ⟨aj, cj, y0, hy⟩ := (Q12.out.below BL.out).at_ hkl
      have SM := Lib.hid (fun W (hW : Below wr.heap.size wr W) => same_yes (hy.below hW) (hx.below hW))
      clear hx hy
      generalize (l4.getD k []).length = m at *
      go_wp2_with fail
      go_still_tail 8, (by kernel_rfl)
      go_wp2_with fail
      refine (SM.out _ (Below.drew (Below.refl _ _))).mono ?_; rintro e w14 ⟨rfl, hb⟩
      have BL2 := Lib.hid ((Below.drew BL.out).trans (hb.mono BL.out.size))
      clear hb x0 y0
      go_wp2_with fail
      go_roundw
      case rel => exact ⟨k + 1, by omega, by go_num, BL2.out⟩
      case measure => simp [intOf]; omega
    · have B13 := Lib.hid (B12.out.trans (BL.out.mono B12.out.size))
      go_wp2_with fail
      refine (works_any (HT.out.below B13.out)).mono ?_; rintro e w15 ⟨rfl, hb⟩
      have B15 := Lib.hid (B13.out.trans (hb.mono B13.out.size))
      clear hb
      go_wp2_with fail
      go_ret
      exact ⟨rfl, B15.out⟩
end Go.Proofs.YtejleobpohpdpaaDoor

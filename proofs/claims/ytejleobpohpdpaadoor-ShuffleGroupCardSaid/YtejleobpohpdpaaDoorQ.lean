/- Compose of the document; what two functions answer alike; the laws ShuffleDraws, ShuffleUnranks, ShuffleComposes. -/
import Derived.Test.YtejleobpohpdpaaDoorP
namespace Go.Proofs.YtejleobpohpdpaaDoor
open Go.ChangeShapes Go.WideShapes Go.ChangeAt Go.RowKit

def CompRel (w : World) (c : List Nat) (vo vi : Value) (wr : World) : Prop :=
  ∃ k : Nat, k ≤ c.length ∧ vi = .int .i64 k ∧ OutR 1 (encK .i64) 3 wr w.heap.size vo (ns (c.take k)) ∧ Below w.heap.size w wr
set_option maxHeartbeats 2000000 in
theorem rcomp_ok {p q : List Nat} (hp : IsP p) (hq : IsP q) (hpl : p.length ≤ 16384) (hpq : p.length = q.length) {w : World} {aa ab : Option Addr} {la ca lb cb : Nat} (h : IsK .i64 w aa la ca (ns p)) (h2 : IsK .i64 w ab lb cb (ns q)) :
    Calls Tryd.prog 26 #[.slice aa la ca, .slice ab lb cb] w fun e w' => ∃ v, e = .returned (.tuple #[v, .int .i64 0]) ∧ OutR 1 (encK .i64) 3 w' w.heap.size v (ns (comp p q)) ∧ Below w.heap.size w w' := by
  have hal := h.hlen; have hac := h.hle; have ham := h.hmax; have hbl := h2.hlen; have hbc := h2.hle; have hbm := h2.hmax
  rw [ns_len] at hal hbl
  unfold maxLen at ham hbm
  obtain rfl : la = lb := by omega
  have C1 := Lib.hid (rcheck h)
  rw [chk_yes (okP_ns hp hpl)] at C1
  have C2 := Lib.hid (fun w (h : IsK .i64 w ab la cb (ns q)) => rcheck h)
  rw [chk_yes (okP_ns hq (by omega))] at C2
  have H := Lib.hid h; have H2 := Lib.hid h2; have HAL := Lib.hid hal; have HBL := Lib.hid hbl; have HQ := Lib.hid hq; have HPQ := Lib.hid hpq
  obtain ⟨i0, hi, hz0, hz1, hz2⟩ := info_parts info3
  clear h h2 hal hbl hp hq hpq
  go_enter Tryd.func26, Tryd.ntmps26
  go_wp2_with fail
  refine (C1.out).mono ?_; rintro e w1 ⟨rfl, hb⟩
  have B1 := Lib.hid hb; have H21 := Lib.hid (H2.out.below hb)
  clear hb
  go_wp2_with fail
  refine (C2.out _ H21.out).mono ?_; rintro e w2 ⟨rfl, hb⟩
  have B2 := Lib.hid (B1.out.trans (hb.mono B1.out.size))
  clear hb
  go_wp2_with fail
  go_loopw [6, 7] (fun vo vi wr => CompRel w (comp p q) vo vi wr) (fun _ vi _ => la - (intOf vi).toNat)
  case atStart => exact ⟨0, Nat.zero_le _, rfl, ⟨World.ownsRow_nil _ _ _ _, fun g h => by cases h⟩, B2.out⟩
  case round =>
    obtain ⟨k, hk, rfl, ho, hbl⟩ := hrel
    have BL := Lib.hid hbl; have O := Lib.hid ho
    have hsz := hbl.size
    rw [comp_len] at hk
    clear hbl ho
    by_cases hlt : k < la
    · have hkq : k < q.length := by have := HBL.out; omega
      have hkp : k < p.length := by have := HAL.out; omega
      obtain ⟨b, off, rfl, _, _⟩ := H.out.at_ (by intro h; have h1 := ns_len p; rw [h] at h1; simp at h1; omega)
      obtain ⟨b2, off2, rfl, _, _⟩ := H2.out.at_ (by intro h; have h1 := ns_len q; rw [h] at h1; simp at h1; omega)
      have hxl := HQ.out.get_lt hkq
      have x0 := (H2.out.below BL.out).cellK (i := k) (by rw [ns_len]; exact hkq)
      have y0 := (H.out.below BL.out).cellK (i := q.getD k 0) (by rw [ns_len, HPQ.out]; exact hxl)
      rw [ns_get] at x0 y0
      have hts := nat_take_snoc (l := comp p q) (j := k) (by rw [comp_len]; exact hkq)
      rw [comp_get hkq] at hts
      have HTS := Lib.hid hts
      have hxa : q.getD k 0 < la := by have := HBL.out; omega
      have hlen : (ns ((comp p q).take k)).length ≤ 16384 := by
        rw [ns_len]
        have h2 := List.length_take_le' k (comp p q)
        rw [comp_len] at h2
        have := HPQ.out
        omega
      clear hts hxl
      generalize q.getD k 0 = x at *
      generalize p.getD x 0 = y at *
      go_wp2_with (at_builtin; refine wpList_app rfl (.tmp 29) (.tmp 37) 24 rfl 3 i0 .i64 8 Tryd.underlying24 hi hz0 hz1 hz2 (by decide) rfl O.out hsz (y : Int) rfl (by omega) ?_)
      intro v4 w4 h1 h2 h3 h4
      have O4 := Lib.hid h1; have B4 := Lib.hid (BL.out.trans h3)
      clear h1 h2 h3 h4 hlen
      go_wp2_with fail
      go_roundw
      case rel => exact ⟨k + 1, by rw [comp_len]; omega, by go_num, by rw [HTS.out, ← ns_app]; exact O4.out, B4.out⟩
      case measure => simp [intOf]; omega
    · have hkk : (comp p q).take k = comp p q := List.take_of_length_le (by rw [comp_len]; have := HBL.out; omega)
      have HF : Hid (OutR 1 (encK .i64) 3 wr w.heap.size u6 (ns (comp p q))) := Lib.hid (by have := O.out; rw [hkk] at this; exact this)
      clear hkk
      go_wp2_with fail
      go_ret2
      exact ⟨_, rfl, HF.out, BL.out⟩
set_option maxHeartbeats 2000000 in
theorem rcomp_no {xs ys : List Int} (hn : ¬ (okP xs = true ∧ okP ys = true ∧ xs.length = ys.length)) {w : World} {aa ab : Option Addr} {la ca lb cb : Nat} (h : IsK .i64 w aa la ca xs) (h2 : IsK .i64 w ab lb cb ys) :
    Calls Tryd.prog 26 #[.slice aa la ca, .slice ab lb cb] w fun e w' => e = .returned (.tuple #[.slice none 0 0, .int .i64 2]) ∧ Below w.heap.size w w' := by
  have hal := h.hlen; have hac := h.hle; have ham := h.hmax; have hbl := h2.hlen; have hbc := h2.hle; have hbm := h2.hmax
  unfold maxLen at ham hbm
  have C1 := Lib.hid (rcheck h)
  have C2 := Lib.hid (fun w (h : IsK .i64 w ab lb cb ys) => rcheck h)
  have H2 := Lib.hid h2
  cases e1 : okP xs
  · rw [chk_no e1] at C1
    clear h h2 hn e1 hal hbl
    go_enter Tryd.func26, Tryd.ntmps26
    go_wp2_with fail
    refine (C1.out).mono ?_; rintro e w1 ⟨rfl, hb⟩
    have B1 := Lib.hid hb
    clear hb
    go_wp2_with fail
    go_ret2
    exact ⟨rfl, B1.out⟩
  · rw [chk_yes e1] at C1
    cases e2 : okP ys
    · rw [chk_no e2] at C2
      clear h h2 hn e1 e2 hal hbl
      go_enter Tryd.func26, Tryd.ntmps26
      go_wp2_with fail
      refine (C1.out).mono ?_; rintro e w1 ⟨rfl, hb⟩
      have B1 := Lib.hid hb; have H21 := Lib.hid (H2.out.below hb)
      clear hb
      go_wp2_with fail
      refine (C2.out _ H21.out).mono ?_; rintro e w2 ⟨rfl, hb⟩
      have B2 := Lib.hid (B1.out.trans (hb.mono B1.out.size))
      clear hb
      go_wp2_with fail
      go_ret2
      exact ⟨rfl, B2.out⟩
    · rw [chk_yes e2] at C2
      have hne : ((la : Int) == (lb : Int)) = false := by
        have : la ≠ lb := fun e => hn ⟨e1, e2, by omega⟩
        simp; omega
      have hne2 : ((la : Int) != (lb : Int)) = true := by simp [bne, hne]
      clear h h2 hn e1 e2 hal hbl
      go_enter Tryd.func26, Tryd.ntmps26
      go_wp2_with fail
      refine (C1.out).mono ?_; rintro e w1 ⟨rfl, hb⟩
      have B1 := Lib.hid hb; have H21 := Lib.hid (H2.out.below hb)
      clear hb
      go_wp2_with fail
      refine (C2.out _ H21.out).mono ?_; rintro e w2 ⟨rfl, hb⟩
      have B2 := Lib.hid (B1.out.trans (hb.mono B1.out.size))
      clear hb
      go_wp2_with fail
      go_ret2
      exact ⟨rfl, B2.out⟩
/-- A list and an error. -/
def LP (k : IntKind) (zs : List Int) (er : Int) (w : World) (e : Ending) (w' : World) : Prop := ∃ a c, e = .returned (.tuple #[.slice a zs.length c, .int .i64 er]) ∧ IsK k w' a zs.length c zs ∧ Below w.heap.size w w'
theorem LP.nil {k : IntKind} {er : Int} {w w' : World} {e : Ending} (he : e = .returned (.tuple #[.slice none 0 0, .int .i64 er])) (hb : Below w.heap.size w w') : LP k [] er w e w' := ⟨none, 0, he, IsSl.nil w', hb⟩
theorem LP.out {k : IntKind} {er : Int} {w w' : World} {e : Ending} {v : Value} {t : TypeId} {zs : List Int} (he : e = .returned (.tuple #[v, .int .i64 er])) (ho : OutR 1 (encK k) t w' w.heap.size v zs) (hb : Below w.heap.size w w') : LP k zs er w e w' := by
  obtain ⟨a, c, rfl, hs⟩ := ho.sl
  exact ⟨a, c, he, hs, hb⟩
theorem LP.blk {k : IntKind} {er : Int} {w w' : World} {e : Ending} {g n cap : Nat} {t : TypeId} {zs : List Int} (he : e = .returned (.tuple #[.slice (some ⟨g, 0, none⟩) n cap, .int .i64 er])) (ho : Blk k t w' g cap zs) (hn : n = zs.length) (hb : Below w.heap.size w w') : LP k zs er w e w' := by
  subst hn
  exact ⟨_, _, he, ho.sl rfl, hb⟩
theorem draw_both {n : Int} (hw : (Lit.int .i64 n).wf = true) {w : World} {a : Option Addr} {la ca : Nat} {ds : List Int} (h : IsInts .u64 w a la ca ds) : ∃ zs er, zs.length ≤ 16384 ∧ ∀ W, Below w.heap.size w W →
    Calls Tryd.prog 15 #[.int .i64 n, .slice a la ca] W (LP .i64 zs er W) ∧ Calls Tryd.prog 16 #[.int .i64 n, .slice a la ca] W (LP .i64 zs er W) := by
  by_cases h1 : n < 0 ∨ 16384 < n
  · refine ⟨[], 2, by simp, fun W _ => ⟨(draw_err1 h1 hw W).mono ?_, (rdraw_err1 h1 hw W).mono ?_⟩⟩ <;> (rintro e w' ⟨he, rfl⟩; exact LP.nil he (Below.refl _ _))
  · obtain ⟨n, rfl⟩ := Int.eq_ofNat_of_zero_le (show 0 ≤ n by omega)
    have hn : n ≤ 16384 := by omega
    by_cases h2 : la + 1 < n
    · refine ⟨[], 14, by simp, fun W _ => ⟨(draw_err2 hn h2 W).mono ?_, (rdraw_err2 hn h2 W).mono ?_⟩⟩ <;> (rintro e w' ⟨he, rfl⟩; exact LP.nil he (Below.refl _ _))
    · have hl := (drw_ok n (nat ds) (n - 1) (by omega)).2
      refine ⟨ns (drw n (nat ds) (n - 1)), 0, by rw [ns_len, hl]; exact hn, fun W hW => ⟨(pdraw hn ⟨h.sl.below hW, h.wf⟩ (by omega)).mono ?_, (rdraw hn ⟨h.sl.below hW, h.wf⟩ (by omega)).mono ?_⟩⟩
      · rintro e w' ⟨g, hg, he, hb, hbl⟩
        exact LP.blk he hb (by rw [ns_len, hl]) hbl
      · rintro e w' ⟨v, he, ho, hbl⟩
        exact LP.out he ho hbl
theorem unr_both {n : Int} (hw : (Lit.int .i64 n).wf = true) {r : Int} (hr : (Lit.int .u64 r).wf = true) {w : World} (ht : Tab w) : ∃ zs er, zs.length ≤ 16384 ∧ ∀ W, Below w.heap.size w W →
    Calls Tryd.prog 18 #[.int .i64 n, .int .u64 r] W (LP .i64 zs er W) ∧ Calls Tryd.prog 19 #[.int .i64 n, .int .u64 r] W (LP .i64 zs er W) := by
  by_cases h1 : n < 0 ∨ 16384 < n
  · refine ⟨[], 2, by simp, fun W _ => ⟨(punr_arg h1 hw r W).mono ?_, (runr_arg h1 hw r W).mono ?_⟩⟩ <;> (rintro e w' ⟨he, rfl⟩; exact LP.nil he (Below.refl _ _))
  · obtain ⟨n, rfl⟩ := Int.eq_ofNat_of_zero_le (show 0 ≤ n by omega)
    have hrb := bounds_u64 hr
    obtain ⟨r, rfl⟩ := Int.eq_ofNat_of_zero_le hrb.1
    by_cases h2 : 20 < n
    · refine ⟨[], 16, by simp, fun W _ => ⟨(punr_long h2 (by omega) r W).mono ?_, (runr_long h2 (by omega) r W).mono ?_⟩⟩ <;> (rintro e w' ⟨he, rfl⟩; exact LP.nil he (Below.refl _ _))
    · by_cases h3 : r < fct n
      · have hl := unr_len (n := n) (left := List.range n) (by simp) h3
        refine ⟨ns (unr n (List.range n) r), 0, by rw [ns_len, hl]; omega, fun W hW => ⟨(punr_ok (by omega) h3 (ht.below hW)).mono ?_, (runr_ok (by omega) h3 W).mono ?_⟩⟩
        · rintro e w' ⟨v, he, ho, hbl⟩
          exact LP.out he ho hbl
        · rintro e w' ⟨v, he, ho, hbl⟩
          exact LP.out he ho hbl
      · refine ⟨[], 3, by simp, fun W hW => ⟨(punr_range (by omega) (by omega) (ht.below hW)).mono ?_, (runr_range (by omega) (by omega) W).mono ?_⟩⟩ <;> (rintro e w' ⟨he, rfl⟩; exact LP.nil he (Below.refl _ _))
theorem comp_both {xs ys : List Int} {w : World} {aa ab : Option Addr} {la ca lb cb : Nat} (h : IsK .i64 w aa la ca xs) (h2 : IsK .i64 w ab lb cb ys) : ∃ zs er, ∀ W, Below w.heap.size w W →
    Calls Tryd.prog 25 #[.slice aa la ca, .slice ab lb cb] W (LP .i64 zs er W) ∧ Calls Tryd.prog 26 #[.slice aa la ca, .slice ab lb cb] W (LP .i64 zs er W) := by
  by_cases hn : okP xs = true ∧ okP ys = true ∧ xs.length = ys.length
  · obtain ⟨e1, e2, e3⟩ := hn
    obtain ⟨p, hp, rfl, hpl⟩ := okP_yes e1
    obtain ⟨q, hq, rfl, hql⟩ := okP_yes e2
    rw [ns_len, ns_len] at e3
    have hbl := h2.hlen
    rw [ns_len] at hbl
    refine ⟨ns (comp p q), 0, fun W hW => ⟨(pcomp_ok hp hq hpl e3 (h.below hW) (h2.below hW)).mono ?_, (rcomp_ok hp hq hpl e3 (h.below hW) (h2.below hW)).mono ?_⟩⟩
    · rintro e w' ⟨g, hg, he, hb, hbl'⟩
      exact LP.blk he hb (by rw [ns_len, comp_len]; exact hbl) hbl'
    · rintro e w' ⟨v, he, ho, hbl⟩
      exact LP.out he ho hbl
  · refine ⟨[], 2, fun W hW => ⟨(pcomp_no hn (h.below hW) (h2.below hW)).mono ?_, (rcomp_no hn (h.below hW) (h2.below hW)).mono ?_⟩⟩ <;> (rintro e w' ⟨he, hb⟩; exact LP.nil he hb)
set_option maxHeartbeats 2000000 in
theorem draws_law (n : Int) (aa : Option Addr) (la ca : Nat) (ds : List Int) (w : World) (ht : Tab w) (hn : (Lit.int .i64 n).wf = true) (h : IsInts .u64 w aa la ca ds) :
    Calls Tryd.prog 3 #[.int .i64 n, .slice aa la ca] w fun e w' => e = .returned (.bool true) ∧ Below w.heap.size w w' := by
  have HT := Lib.hid ht
  have hb := bounds_i64 hn
  have hac := h.sl.hle; have ham := h.sl.hmax
  unfold maxLen at ham
  obtain ⟨zs, er, hzl, hd⟩ := draw_both hn h
  have D1 := Lib.hid hd
  clear h ht hn hd
  by_cases c1 : (400 < n ∧ n ≤ 16384) ∨ 500 < la
  · by_cases c2 : 400 < n
    · by_cases c3 : n ≤ 16384
      · clear c1
        go_enter Tryd.func3, Tryd.ntmps3
        go_wp2_with fail
        refine (works_any HT.out).mono ?_; rintro e w4 ⟨rfl, hb⟩
        have B4 := Lib.hid hb
        clear hb
        go_wp2_with fail
        go_ret
        exact ⟨rfl, B4.out⟩
      · have c4 : 500 < la := by omega
        clear c1
        go_enter Tryd.func3, Tryd.ntmps3
        go_wp2_with fail
        refine (works_any HT.out).mono ?_; rintro e w4 ⟨rfl, hb⟩
        have B4 := Lib.hid hb
        clear hb
        go_wp2_with fail
        go_ret
        exact ⟨rfl, B4.out⟩
    · have c4 : 500 < la := by omega
      clear c1
      go_enter Tryd.func3, Tryd.ntmps3
      go_wp2_with fail
      refine (works_any HT.out).mono ?_; rintro e w4 ⟨rfl, hb⟩
      have B4 := Lib.hid hb
      clear hb
      go_wp2_with fail
      go_ret
      exact ⟨rfl, B4.out⟩
  · have c4 : ¬ 500 < la := by omega
    by_cases c2 : 400 < n
    · have c3 : ¬ n ≤ 16384 := by omega
      clear c1
      go_enter Tryd.func3, Tryd.ntmps3
      go_wp2_with fail
      refine (D1.out _ (Below.refl _ _)).1.mono ?_; rintro e w1 ⟨a1, c1, rfl, hs, hb⟩
      have P1 := Lib.hid hs; have B1 := Lib.hid hb
      clear hs hb
      go_wp2_with fail
      refine (D1.out _ B1.out).2.mono ?_; rintro e w2 ⟨a2, c2, rfl, hs, hb⟩
      have P12 := Lib.hid (P1.out.below hb); have P2 := Lib.hid hs; have B2 := Lib.hid (B1.out.trans (hb.mono B1.out.size))
      clear hs hb
      go_wp2_with fail
      refine (same_yes P12.out P2.out).mono ?_; rintro e w3 ⟨rfl, hb⟩
      have B3 := Lib.hid (B2.out.trans (hb.mono B2.out.size))
      clear hb
      go_wp2_with fail
      refine (works_any (HT.out.below B3.out)).mono ?_; rintro e w4 ⟨rfl, hb⟩
      have B4 := Lib.hid (B3.out.trans (hb.mono B3.out.size))
      clear hb
      go_wp2_with fail
      go_ret
      exact ⟨rfl, B4.out⟩
    · clear c1
      go_enter Tryd.func3, Tryd.ntmps3
      go_wp2_with fail
      refine (D1.out _ (Below.refl _ _)).1.mono ?_; rintro e w1 ⟨a1, c1, rfl, hs, hb⟩
      have P1 := Lib.hid hs; have B1 := Lib.hid hb
      clear hs hb
      go_wp2_with fail
      refine (D1.out _ B1.out).2.mono ?_; rintro e w2 ⟨a2, c2, rfl, hs, hb⟩
      have P12 := Lib.hid (P1.out.below hb); have P2 := Lib.hid hs; have B2 := Lib.hid (B1.out.trans (hb.mono B1.out.size))
      clear hs hb
      go_wp2_with fail
      refine (same_yes P12.out P2.out).mono ?_; rintro e w3 ⟨rfl, hb⟩
      have B3 := Lib.hid (B2.out.trans (hb.mono B2.out.size))
      clear hb
      go_wp2_with fail
      refine (works_any (HT.out.below B3.out)).mono ?_; rintro e w4 ⟨rfl, hb⟩
      have B4 := Lib.hid (B3.out.trans (hb.mono B3.out.size))
      clear hb
      go_wp2_with fail
      go_ret
      exact ⟨rfl, B4.out⟩
set_option maxHeartbeats 2000000 in
theorem unranks_law (n : Int) (r : Int) (w : World) (ht : Tab w) (hn : (Lit.int .i64 n).wf = true) (hr : (Lit.int .u64 r).wf = true) :
    Calls Tryd.prog 4 #[.int .i64 n, .int .u64 r] w fun e w' => e = .returned (.bool true) ∧ Below w.heap.size w w' := by
  have HT := Lib.hid ht
  obtain ⟨zs, er, hzl, hd⟩ := unr_both hn hr ht
  have D1 := Lib.hid hd
  clear ht hn hd hr
  go_enter Tryd.func4, Tryd.ntmps4
  go_wp2_with fail
  refine (D1.out _ (Below.refl _ _)).1.mono ?_; rintro e w1 ⟨a1, c1, rfl, hs, hb⟩
  have P1 := Lib.hid hs; have B1 := Lib.hid hb
  clear hs hb
  go_wp2_with fail
  refine (D1.out _ B1.out).2.mono ?_; rintro e w2 ⟨a2, c2, rfl, hs, hb⟩
  have P12 := Lib.hid (P1.out.below hb); have P2 := Lib.hid hs; have B2 := Lib.hid (B1.out.trans (hb.mono B1.out.size))
  clear hs hb
  go_wp2_with fail
  refine (same_yes P12.out P2.out).mono ?_; rintro e w3 ⟨rfl, hb⟩
  have B3 := Lib.hid (B2.out.trans (hb.mono B2.out.size))
  clear hb
  go_wp2_with fail
  refine (works_any (HT.out.below B3.out)).mono ?_; rintro e w4 ⟨rfl, hb⟩
  have B4 := Lib.hid (B3.out.trans (hb.mono B3.out.size))
  clear hb
  go_wp2_with fail
  go_ret
  exact ⟨rfl, B4.out⟩
set_option maxHeartbeats 2000000 in
theorem composes_law (aa : Option Addr) (la ca : Nat) (xs : List Int) (ab : Option Addr) (lb cb : Nat) (ys : List Int) (w : World) (ht : Tab w) (h : IsInts .i64 w aa la ca xs) (h2 : IsInts .i64 w ab lb cb ys) :
    Calls Tryd.prog 9 #[.slice aa la ca, .slice ab lb cb] w fun e w' => e = .returned (.bool true) ∧ Below w.heap.size w w' := by
  have HT := Lib.hid ht
  have hac := h.sl.hle; have ham := h.sl.hmax; have hbc := h2.sl.hle; have hbm := h2.sl.hmax
  unfold maxLen at ham hbm
  obtain ⟨zs, er, hd⟩ := comp_both h.sl h2.sl
  have D1 := Lib.hid hd
  clear h h2 ht hd
  by_cases c1 : 300 < la
  · go_enter Tryd.func9, Tryd.ntmps9
    go_wp2_with fail
    refine (works_any HT.out).mono ?_; rintro e w4 ⟨rfl, hb⟩
    have B4 := Lib.hid hb
    clear hb
    go_wp2_with fail
    go_ret
    exact ⟨rfl, B4.out⟩
  · by_cases c2 : 300 < lb
    · go_enter Tryd.func9, Tryd.ntmps9
      go_wp2_with fail
      refine (works_any HT.out).mono ?_; rintro e w4 ⟨rfl, hb⟩
      have B4 := Lib.hid hb
      clear hb
      go_wp2_with fail
      go_ret
      exact ⟨rfl, B4.out⟩
    · go_enter Tryd.func9, Tryd.ntmps9
      go_wp2_with fail
      refine (D1.out _ (Below.refl _ _)).1.mono ?_; rintro e w1 ⟨a1, c1, rfl, hs, hb⟩
      have P1 := Lib.hid hs; have B1 := Lib.hid hb
      clear hs hb
      go_wp2_with fail
      refine (D1.out _ B1.out).2.mono ?_; rintro e w2 ⟨a2, c2, rfl, hs, hb⟩
      have P12 := Lib.hid (P1.out.below hb); have P2 := Lib.hid hs; have B2 := Lib.hid (B1.out.trans (hb.mono B1.out.size))
      clear hs hb
      go_wp2_with fail
      refine (same_yes P12.out P2.out).mono ?_; rintro e w3 ⟨rfl, hb⟩
      have B3 := Lib.hid (B2.out.trans (hb.mono B2.out.size))
      clear hb
      go_wp2_with fail
      refine (works_any (HT.out.below B3.out)).mono ?_; rintro e w4 ⟨rfl, hb⟩
      have B4 := Lib.hid (B3.out.trans (hb.mono B3.out.size))
      clear hb
      go_wp2_with fail
      go_ret
      exact ⟨rfl, B4.out⟩
end Go.Proofs.YtejleobpohpdpaaDoor

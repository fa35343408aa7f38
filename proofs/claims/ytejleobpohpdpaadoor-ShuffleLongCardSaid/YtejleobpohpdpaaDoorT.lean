/- The laws ShuffleInverse and ShuffleGroup. -/
import Derived.Test.YtejleobpohpdpaaDoorR
namespace Go.Proofs.YtejleobpohpdpaaDoor
open Go.ChangeShapes Go.WideShapes Go.ChangeAt Go.RowKit

def InvLoop (w : World) (n : Nat) (vi : Value) (wr : World) : Prop := ∃ k : Nat, k ≤ n ∧ vi = .int .i64 k ∧ Below w.heap.size w wr
theorem id_at {n i : Nat} (h : i < n) : (ns (List.range n)).getD i 0 = (i : Nat) := by rw [ns_get, range_get h]
set_option maxRecDepth 100000 in
set_option maxHeartbeats 4000000 in
theorem inverse_law (s : Int) (aa : Option Addr) (la ca : Nat) (ds : List Int) (w : World) (ht : Tab w) (hs : (Lit.int .u8 s).wf = true) (h : IsInts .u64 w aa la ca ds) :
    Calls Tryd.prog 12 #[.int .u8 s, .slice aa la ca] w fun e w' => e = .returned (.bool true) ∧ Below w.heap.size w w' := by
  have HT := Lib.hid ht
  have hb' := bounds_u8 hs
  obtain ⟨s, rfl⟩ := Int.eq_ofNat_of_zero_le hb'.1
  have hs2 : s < 256 := by have := hb'.2; omega
  have DN := Lib.hid (drawn_any hs2 h)
  have hac := h.sl.hle; have ham := h.sl.hmax
  unfold maxLen at ham
  obtain ⟨hp, hl⟩ := dp_ok s ds
  have hm := Nat.mod_lt s (show 0 < 101 by decide)
  have hq := isP_invp hp
  have hql := invp_len (dp s ds)
  have I1 := Lib.hid (fun w a c (h : IsK .i64 w a (s % 101) c (ns (dp s ds))) => inv_n hp (by omega) h)
  have I2 := Lib.hid (fun w a c (h : IsK .i64 w a (s % 101) c (ns (invp (dp s ds)))) => inv_n hq (by omega) h)
  rw [invp_invp hp] at I2
  have C1 := Lib.hid (fun w a c a' c' (h : IsK .i64 w a (s % 101) c (ns (dp s ds))) (h2 : IsK .i64 w a' (s % 101) c' (ns (invp (dp s ds)))) => comp_n hp hq (by omega) (by omega) h h2)
  rw [comp_invp hp, hl] at C1
  have C2 := Lib.hid (fun w a c a' c' (h : IsK .i64 w a (s % 101) c (ns (invp (dp s ds)))) (h2 : IsK .i64 w a' (s % 101) c' (ns (dp s ds))) => comp_n hq hp (by omega) (by omega) h h2)
  rw [invp_comp hp, hl] at C2
  unfold DnPost at DN
  have hnot : ∀ (x : Bool) (w : World), (Op.unary .not (.bool x)).run Tryd.prog w = .ok (.bool (!x)) w := fun _ _ => rfl
  clear h ht hs hp hl hq hql hb'
  generalize ns (dp s ds) = zp at *
  generalize ns (invp (dp s ds)) = zq at *
  generalize s % 101 = n at *
  have HID := Lib.hid (fun i (h : i < n) => id_at h)
  have HIL : Hid ((ns (List.range n)).length = n) := Lib.hid (by rw [ns_len]; simp)
  generalize ns (List.range n) = zi at *
  go_enter Tryd.func12, Tryd.ntmps12
  go_wp2_with fail
  refine (DN.out).mono ?_; rintro e w1 ⟨ap, cp, rfl, hs, hb⟩
  have B := Lib.hid hb
  have Sp := Lib.hid hs
  have hxp := hs.hle; have hyp := hs.hmax; unfold maxLen at hyp
  clear hs hb
  go_wp2_with fail
  refine (I1.out _ _ _ Sp.out).mono ?_; rintro e w2 ⟨aq, cq, rfl, hs, hb⟩
  have Sp_ := Lib.hid (Sp.out.below hb); clear Sp; have Sp := Sp_; clear Sp_
  have B_ := Lib.hid (B.out.trans (hb.mono B.out.size)); clear B; have B := B_; clear B_
  have Sq := Lib.hid hs
  have hxq := hs.hle; have hyq := hs.hmax; unfold maxLen at hyq
  clear hs hb
  go_wp2_with fail
  refine (I2.out _ _ _ Sq.out).mono ?_; rintro e w3 ⟨ab, cb, rfl, hs, hb⟩
  have Sp_ := Lib.hid (Sp.out.below hb); clear Sp; have Sp := Sp_; clear Sp_
  have Sq_ := Lib.hid (Sq.out.below hb); clear Sq; have Sq := Sq_; clear Sq_
  have B_ := Lib.hid (B.out.trans (hb.mono B.out.size)); clear B; have B := B_; clear B_
  have Sb := Lib.hid hs
  have hxb := hs.hle; have hyb := hs.hmax; unfold maxLen at hyb
  clear hs hb
  go_wp2_with fail
  refine (C1.out _ _ _ _ _ Sp.out Sq.out).mono ?_; rintro e w4 ⟨am, cm, rfl, hs, hb⟩
  have Sp_ := Lib.hid (Sp.out.below hb); clear Sp; have Sp := Sp_; clear Sp_
  have Sq_ := Lib.hid (Sq.out.below hb); clear Sq; have Sq := Sq_; clear Sq_
  have Sb_ := Lib.hid (Sb.out.below hb); clear Sb; have Sb := Sb_; clear Sb_
  have B_ := Lib.hid (B.out.trans (hb.mono B.out.size)); clear B; have B := B_; clear B_
  have Sm := Lib.hid hs
  have hxm := hs.hle; have hym := hs.hmax; unfold maxLen at hym
  clear hs hb
  go_wp2_with fail
  refine (C2.out _ _ _ _ _ Sq.out Sp.out).mono ?_; rintro e w5 ⟨ao, co, rfl, hs, hb⟩
  have Sp_ := Lib.hid (Sp.out.below hb); clear Sp; have Sp := Sp_; clear Sp_
  have Sq_ := Lib.hid (Sq.out.below hb); clear Sq; have Sq := Sq_; clear Sq_
  have Sb_ := Lib.hid (Sb.out.below hb); clear Sb; have Sb := Sb_; clear Sb_
  have Sm_ := Lib.hid (Sm.out.below hb); clear Sm; have Sm := Sm_; clear Sm_
  have B_ := Lib.hid (B.out.trans (hb.mono B.out.size)); clear B; have B := B_; clear B_
  have So := Lib.hid hs
  have hxo := hs.hle; have hyo := hs.hmax; unfold maxLen at hyo
  clear hs hb
  go_wp2_with fail
  refine (same_yes Sb.out Sp.out).mono ?_; rintro e w6 ⟨rfl, hb⟩
  have Sp_ := Lib.hid (Sp.out.below hb); clear Sp; have Sp := Sp_; clear Sp_
  have Sq_ := Lib.hid (Sq.out.below hb); clear Sq; have Sq := Sq_; clear Sq_
  have Sb_ := Lib.hid (Sb.out.below hb); clear Sb; have Sb := Sb_; clear Sb_
  have Sm_ := Lib.hid (Sm.out.below hb); clear Sm; have Sm := Sm_; clear Sm_
  have So_ := Lib.hid (So.out.below hb); clear So; have So := So_; clear So_
  have B_ := Lib.hid (B.out.trans (hb.mono B.out.size)); clear B; have B := B_; clear B_
  clear hb
  go_wp2_with fail
  refine (same_yes Sm.out So.out).mono ?_; rintro e w7 ⟨rfl, hb⟩
  have Sm_ := Lib.hid (Sm.out.below hb); clear Sm; have Sm := Sm_; clear Sm_
  have So_ := Lib.hid (So.out.below hb); clear So; have So := So_; clear So_
  have B_ := Lib.hid (B.out.trans (hb.mono B.out.size)); clear B; have B := B_; clear B_
  clear hb
  clear So Sb Sq Sp
  go_wp2_with fail
  go_loopw [15] (fun vi wr => InvLoop w7 n vi wr) (fun vi _ => n - (intOf vi).toNat)
  case atStart => exact ⟨0, Nat.zero_le _, rfl, Below.refl _ _⟩
  case round =>
    obtain ⟨k, hk, rfl, hbl⟩ := hrel
    have BL := Lib.hid hbl; clear hbl
    by_cases hlt : k < n
    · have hkz : k < zi.length := by have := HIL.out; omega
      obtain ⟨b, off, rfl, _, _⟩ := Sm.out.at_ (by intro h; rw [h] at hkz; simp at hkz)
      have x0 := (Sm.out.below BL.out).cellK hkz
      rw [HID.out k hlt] at x0
      go_wp2_with fail
      go_roundw
      case rel => exact ⟨k + 1, by omega, by go_num, BL.out⟩
      case measure => simp [intOf]; omega
    · have B8 := Lib.hid (B.out.trans (BL.out.mono B.out.size))
      go_wp2_with fail
      refine (works_any (HT.out.below B8.out)).mono ?_; rintro e w9 ⟨rfl, hb⟩
      have B9 := Lib.hid (B8.out.trans (hb.mono B8.out.size))
      clear hb
      go_wp2_with fail
      go_ret
      exact ⟨rfl, B9.out⟩
set_option maxRecDepth 100000 in
set_option maxHeartbeats 8000000 in
theorem group_law (s : Int) (aa : Option Addr) (la ca : Nat) (ds : List Int) (ab : Option Addr) (lb cb : Nat) (es : List Int) (ac : Option Addr) (lc cc : Nat) (fs : List Int) (w : World) (ht : Tab w) (hs : (Lit.int .u8 s).wf = true) (h : IsInts .u64 w aa la ca ds) (h2 : IsInts .u64 w ab lb cb es) (h3 : IsInts .u64 w ac lc cc fs) :
    Calls Tryd.prog 13 #[.int .u8 s, .slice aa la ca, .slice ab lb cb, .slice ac lc cc] w fun e w' => e = .returned (.bool true) ∧ Below w.heap.size w w' := by
  have HT := Lib.hid ht
  have hb' := bounds_u8 hs
  obtain ⟨s, rfl⟩ := Int.eq_ofNat_of_zero_le hb'.1
  have hs2 : s < 256 := by have := hb'.2; omega
  have D1 := Lib.hid (drawn_any hs2 h)
  have D2 := Lib.hid (fun w' (hw : Below w.heap.size w w') => drawn_any hs2 (w := w') (aa := ab) (la := lb) (ca := cb) (ds := es) ⟨h2.sl.below hw, h2.wf⟩)
  have D3 := Lib.hid (fun w' (hw : Below w.heap.size w w') => drawn_any hs2 (w := w') (aa := ac) (la := lc) (ca := cc) (ds := fs) ⟨h3.sl.below hw, h3.wf⟩)
  have hac := h.sl.hle; have ham := h.sl.hmax; have hbc := h2.sl.hle; have hbm := h2.sl.hmax; have hcc := h3.sl.hle; have hcm := h3.sl.hmax
  unfold maxLen at ham hbm hcm
  obtain ⟨hp, hl⟩ := dp_ok s ds
  obtain ⟨hq, hql⟩ := dp_ok s es
  obtain ⟨hr, hrl⟩ := dp_ok s fs
  have hm := Nat.mod_lt s (show 0 < 101 by decide)
  have hpq := isP_comp hp hq (by omega)
  have hqr := isP_comp hq hr (by omega)
  have hpql := comp_len (dp s ds) (dp s es)
  have hqrl := comp_len (dp s es) (dp s fs)
  have hi1 := isP_invp hp; have hi2 := isP_invp hq
  have hil1 := invp_len (dp s ds); have hil2 := invp_len (dp s es)
  have C1 := Lib.hid (fun w a c a' c' (h : IsK .i64 w a (s % 101) c (ns (dp s ds))) (h2 : IsK .i64 w a' (s % 101) c' (ns (dp s es))) => comp_n hp hq (by omega) (by omega) h h2)
  have C2 := Lib.hid (fun w a c a' c' (h : IsK .i64 w a (s % 101) c (ns (dp s es))) (h2 : IsK .i64 w a' (s % 101) c' (ns (dp s fs))) => comp_n hq hr (by omega) (by omega) h h2)
  have C3 := Lib.hid (fun w a c a' c' (h : IsK .i64 w a (s % 101) c (ns (comp (dp s ds) (dp s es)))) (h2 : IsK .i64 w a' (s % 101) c' (ns (dp s fs))) => comp_n hpq hr (by omega) (by omega) h h2)
  rw [comp_assoc (fun x hx => by have := hr.lt x hx; omega)] at C3
  have C4 := Lib.hid (fun w a c a' c' (h : IsK .i64 w a (s % 101) c (ns (dp s ds))) (h2 : IsK .i64 w a' (s % 101) c' (ns (comp (dp s es) (dp s fs)))) => comp_n hp hqr (by omega) (by omega) h h2)
  have I1 := Lib.hid (fun w a c (h : IsK .i64 w a (s % 101) c (ns (dp s ds))) => inv_n hp (by omega) h)
  have I2 := Lib.hid (fun w a c (h : IsK .i64 w a (s % 101) c (ns (dp s es))) => inv_n hq (by omega) h)
  have I3 := Lib.hid (fun w a c (h : IsK .i64 w a (s % 101) c (ns (comp (dp s ds) (dp s es)))) => inv_n hpq (by omega) h)
  rw [invp_of_comp hp hq (by omega)] at I3
  have C5 := Lib.hid (fun w a c a' c' (h : IsK .i64 w a (s % 101) c (ns (invp (dp s es)))) (h2 : IsK .i64 w a' (s % 101) c' (ns (invp (dp s ds)))) => comp_n hi2 hi1 (by omega) (by omega) h h2)
  unfold DnPost at D1 D2 D3
  have hnot : ∀ (x : Bool) (w : World), (Op.unary .not (.bool x)).run Tryd.prog w = .ok (.bool (!x)) w := fun _ _ => rfl
  clear h h2 h3 ht hs hp hl hq hql hr hrl hpq hqr hpql hqrl hi1 hi2 hil1 hil2 hb'
  generalize ns (comp (dp s ds) (comp (dp s es) (dp s fs))) = z1 at *
  generalize ns (comp (invp (dp s es)) (invp (dp s ds))) = z2 at *
  generalize ns (comp (dp s ds) (dp s es)) = z3 at *
  generalize ns (comp (dp s es) (dp s fs)) = z4 at *
  generalize ns (invp (dp s ds)) = z5 at *
  generalize ns (invp (dp s es)) = z6 at *
  generalize ns (dp s ds) = zp at *
  generalize ns (dp s es) = zq at *
  generalize ns (dp s fs) = zr at *
  generalize s % 101 = n at *
  go_enter Tryd.func13, Tryd.ntmps13
  go_wp2_with fail
  refine (D1.out).mono ?_; rintro e w1 ⟨ap, cp, rfl, hs, hb⟩
  have B := Lib.hid hb
  have Sp := Lib.hid hs
  have hxp := hs.hle; have hyp := hs.hmax; unfold maxLen at hyp
  clear hs hb
  go_wp2_with fail
  refine (D2.out _ B.out).mono ?_; rintro e w2 ⟨aq, cq, rfl, hs, hb⟩
  have Sp_ := Lib.hid (Sp.out.below hb); clear Sp; have Sp := Sp_; clear Sp_
  have B_ := Lib.hid (B.out.trans (hb.mono B.out.size)); clear B; have B := B_; clear B_
  have Sq := Lib.hid hs
  have hxq := hs.hle; have hyq := hs.hmax; unfold maxLen at hyq
  clear hs hb
  go_wp2_with fail
  refine (D3.out _ B.out).mono ?_; rintro e w3 ⟨ar, cr, rfl, hs, hb⟩
  have Sp_ := Lib.hid (Sp.out.below hb); clear Sp; have Sp := Sp_; clear Sp_
  have Sq_ := Lib.hid (Sq.out.below hb); clear Sq; have Sq := Sq_; clear Sq_
  have B_ := Lib.hid (B.out.trans (hb.mono B.out.size)); clear B; have B := B_; clear B_
  have Sr := Lib.hid hs
  have hxr := hs.hle; have hyr := hs.hmax; unfold maxLen at hyr
  clear hs hb
  go_wp2_with fail
  refine (C1.out _ _ _ _ _ Sp.out Sq.out).mono ?_; rintro e w4 ⟨apq, cpq, rfl, hs, hb⟩
  have Sp_ := Lib.hid (Sp.out.below hb); clear Sp; have Sp := Sp_; clear Sp_
  have Sq_ := Lib.hid (Sq.out.below hb); clear Sq; have Sq := Sq_; clear Sq_
  have Sr_ := Lib.hid (Sr.out.below hb); clear Sr; have Sr := Sr_; clear Sr_
  have B_ := Lib.hid (B.out.trans (hb.mono B.out.size)); clear B; have B := B_; clear B_
  have Spq := Lib.hid hs
  have hxpq := hs.hle; have hypq := hs.hmax; unfold maxLen at hypq
  clear hs hb
  go_wp2_with fail
  refine (C2.out _ _ _ _ _ Sq.out Sr.out).mono ?_; rintro e w5 ⟨aqr, cqr, rfl, hs, hb⟩
  have Sp_ := Lib.hid (Sp.out.below hb); clear Sp; have Sp := Sp_; clear Sp_
  have Sq_ := Lib.hid (Sq.out.below hb); clear Sq; have Sq := Sq_; clear Sq_
  have Sr_ := Lib.hid (Sr.out.below hb); clear Sr; have Sr := Sr_; clear Sr_
  have Spq_ := Lib.hid (Spq.out.below hb); clear Spq; have Spq := Spq_; clear Spq_
  have B_ := Lib.hid (B.out.trans (hb.mono B.out.size)); clear B; have B := B_; clear B_
  have Sqr := Lib.hid hs
  have hxqr := hs.hle; have hyqr := hs.hmax; unfold maxLen at hyqr
  clear hs hb
  go_wp2_with fail
  refine (C3.out _ _ _ _ _ Spq.out Sr.out).mono ?_; rintro e w6 ⟨al, cl, rfl, hs, hb⟩
  have Sp_ := Lib.hid (Sp.out.below hb); clear Sp; have Sp := Sp_; clear Sp_
  have Sq_ := Lib.hid (Sq.out.below hb); clear Sq; have Sq := Sq_; clear Sq_
  have Sr_ := Lib.hid (Sr.out.below hb); clear Sr; have Sr := Sr_; clear Sr_
  have Spq_ := Lib.hid (Spq.out.below hb); clear Spq; have Spq := Spq_; clear Spq_
  have Sqr_ := Lib.hid (Sqr.out.below hb); clear Sqr; have Sqr := Sqr_; clear Sqr_
  have B_ := Lib.hid (B.out.trans (hb.mono B.out.size)); clear B; have B := B_; clear B_
  have Sl := Lib.hid hs
  have hxl := hs.hle; have hyl := hs.hmax; unfold maxLen at hyl
  clear hs hb
  go_wp2_with fail
  refine (C4.out _ _ _ _ _ Sp.out Sqr.out).mono ?_; rintro e w7 ⟨am, cm, rfl, hs, hb⟩
  have Sp_ := Lib.hid (Sp.out.below hb); clear Sp; have Sp := Sp_; clear Sp_
  have Sq_ := Lib.hid (Sq.out.below hb); clear Sq; have Sq := Sq_; clear Sq_
  have Sr_ := Lib.hid (Sr.out.below hb); clear Sr; have Sr := Sr_; clear Sr_
  have Spq_ := Lib.hid (Spq.out.below hb); clear Spq; have Spq := Spq_; clear Spq_
  have Sqr_ := Lib.hid (Sqr.out.below hb); clear Sqr; have Sqr := Sqr_; clear Sqr_
  have Sl_ := Lib.hid (Sl.out.below hb); clear Sl; have Sl := Sl_; clear Sl_
  have B_ := Lib.hid (B.out.trans (hb.mono B.out.size)); clear B; have B := B_; clear B_
  have Sm := Lib.hid hs
  have hxm := hs.hle; have hym := hs.hmax; unfold maxLen at hym
  clear hs hb
  go_wp2_with fail
  refine (same_yes Sl.out Sm.out).mono ?_; rintro e w8 ⟨rfl, hb⟩
  have Sp_ := Lib.hid (Sp.out.below hb); clear Sp; have Sp := Sp_; clear Sp_
  have Sq_ := Lib.hid (Sq.out.below hb); clear Sq; have Sq := Sq_; clear Sq_
  have Sr_ := Lib.hid (Sr.out.below hb); clear Sr; have Sr := Sr_; clear Sr_
  have Spq_ := Lib.hid (Spq.out.below hb); clear Spq; have Spq := Spq_; clear Spq_
  have Sqr_ := Lib.hid (Sqr.out.below hb); clear Sqr; have Sqr := Sqr_; clear Sqr_
  have Sl_ := Lib.hid (Sl.out.below hb); clear Sl; have Sl := Sl_; clear Sl_
  have Sm_ := Lib.hid (Sm.out.below hb); clear Sm; have Sm := Sm_; clear Sm_
  have B_ := Lib.hid (B.out.trans (hb.mono B.out.size)); clear B; have B := B_; clear B_
  clear hb
  clear Sl Sm Sqr Sr
  go_wp2_with fail
  refine (I1.out _ _ _ Sp.out).mono ?_; rintro e w9 ⟨ai, ci, rfl, hs, hb⟩
  have Sp_ := Lib.hid (Sp.out.below hb); clear Sp; have Sp := Sp_; clear Sp_
  have Sq_ := Lib.hid (Sq.out.below hb); clear Sq; have Sq := Sq_; clear Sq_
  have Spq_ := Lib.hid (Spq.out.below hb); clear Spq; have Spq := Spq_; clear Spq_
  have B_ := Lib.hid (B.out.trans (hb.mono B.out.size)); clear B; have B := B_; clear B_
  have Si := Lib.hid hs
  have hxi := hs.hle; have hyi := hs.hmax; unfold maxLen at hyi
  clear hs hb
  go_wp2_with fail
  refine (I2.out _ _ _ Sq.out).mono ?_; rintro e w10 ⟨ak, ck, rfl, hs, hb⟩
  have Sp_ := Lib.hid (Sp.out.below hb); clear Sp; have Sp := Sp_; clear Sp_
  have Sq_ := Lib.hid (Sq.out.below hb); clear Sq; have Sq := Sq_; clear Sq_
  have Spq_ := Lib.hid (Spq.out.below hb); clear Spq; have Spq := Spq_; clear Spq_
  have Si_ := Lib.hid (Si.out.below hb); clear Si; have Si := Si_; clear Si_
  have B_ := Lib.hid (B.out.trans (hb.mono B.out.size)); clear B; have B := B_; clear B_
  have Sk := Lib.hid hs
  have hxk := hs.hle; have hyk := hs.hmax; unfold maxLen at hyk
  clear hs hb
  go_wp2_with fail
  refine (I3.out _ _ _ Spq.out).mono ?_; rintro e w11 ⟨ab, cb, rfl, hs, hb⟩
  have Sp_ := Lib.hid (Sp.out.below hb); clear Sp; have Sp := Sp_; clear Sp_
  have Sq_ := Lib.hid (Sq.out.below hb); clear Sq; have Sq := Sq_; clear Sq_
  have Spq_ := Lib.hid (Spq.out.below hb); clear Spq; have Spq := Spq_; clear Spq_
  have Si_ := Lib.hid (Si.out.below hb); clear Si; have Si := Si_; clear Si_
  have Sk_ := Lib.hid (Sk.out.below hb); clear Sk; have Sk := Sk_; clear Sk_
  have B_ := Lib.hid (B.out.trans (hb.mono B.out.size)); clear B; have B := B_; clear B_
  have Sb := Lib.hid hs
  have hxb := hs.hle; have hyb := hs.hmax; unfold maxLen at hyb
  clear hs hb
  go_wp2_with fail
  refine (C5.out _ _ _ _ _ Sk.out Si.out).mono ?_; rintro e w12 ⟨ao, co, rfl, hs, hb⟩
  have Sp_ := Lib.hid (Sp.out.below hb); clear Sp; have Sp := Sp_; clear Sp_
  have Sq_ := Lib.hid (Sq.out.below hb); clear Sq; have Sq := Sq_; clear Sq_
  have Spq_ := Lib.hid (Spq.out.below hb); clear Spq; have Spq := Spq_; clear Spq_
  have Si_ := Lib.hid (Si.out.below hb); clear Si; have Si := Si_; clear Si_
  have Sk_ := Lib.hid (Sk.out.below hb); clear Sk; have Sk := Sk_; clear Sk_
  have Sb_ := Lib.hid (Sb.out.below hb); clear Sb; have Sb := Sb_; clear Sb_
  have B_ := Lib.hid (B.out.trans (hb.mono B.out.size)); clear B; have B := B_; clear B_
  have So := Lib.hid hs
  have hxo := hs.hle; have hyo := hs.hmax; unfold maxLen at hyo
  clear hs hb
  go_wp2_with fail
  refine (same_yes Sb.out So.out).mono ?_; rintro e w13 ⟨rfl, hb⟩
  have Sp_ := Lib.hid (Sp.out.below hb); clear Sp; have Sp := Sp_; clear Sp_
  have Sq_ := Lib.hid (Sq.out.below hb); clear Sq; have Sq := Sq_; clear Sq_
  have Spq_ := Lib.hid (Spq.out.below hb); clear Spq; have Spq := Spq_; clear Spq_
  have Si_ := Lib.hid (Si.out.below hb); clear Si; have Si := Si_; clear Si_
  have Sk_ := Lib.hid (Sk.out.below hb); clear Sk; have Sk := Sk_; clear Sk_
  have Sb_ := Lib.hid (Sb.out.below hb); clear Sb; have Sb := Sb_; clear Sb_
  have So_ := Lib.hid (So.out.below hb); clear So; have So := So_; clear So_
  have B_ := Lib.hid (B.out.trans (hb.mono B.out.size)); clear B; have B := B_; clear B_
  clear hb
  go_wp2_with fail
  refine (works_any (HT.out.below B.out)).mono ?_; rintro e w14 ⟨rfl, hb⟩
  have B_ := Lib.hid (B.out.trans (hb.mono B.out.size)); clear B; have B := B_; clear B_
  clear hb
  go_wp2_with fail
  go_ret
  exact ⟨rfl, B.out⟩
end Go.Proofs.YtejleobpohpdpaaDoor

/- The walk of the law ArenaCopies. -/
import Derived.Test.YtndiaflbagikoaaT
namespace Go.Proofs.Ytndiaflbagikoaa
open Go.ChangeShapes Go.WideShapes Go.ChangeAt Go.RowKit

/-- How many slots are free. -/
def Ar.room (A : Ar) : Nat := A.slots - (A.begun - A.stack.length)
def Ar.nx (A : Ar) : Nat := match A.next with | some k => k | none => 0
def Ar.popn (A : Ar) : Nat → Ar
  | 0 => A
  | q + 1 => (A.popn q).pop
def Ar.gots (A : Ar) : Nat → List Nat
  | 0 => []
  | q + 1 => A.gots q ++ [(A.popn q).nx]
theorem room_some {A : Ar} (hg : A.Good) (h : 0 < A.room) : A.next = some A.nx := by
  cases hn : A.next with
  | some k => simp [Ar.nx, hn]
  | none =>
    exfalso
    obtain ⟨slots, begun, stack, times⟩ := A
    cases stack with
    | cons x t => simp [Ar.next] at hn
    | nil =>
      simp [Ar.next] at hn
      simp [Ar.room] at h; omega
theorem room_none {A : Ar} (hg : A.Good) (h : A.room = 0) : A.next = none := by
  have h1 := stack_le hg; have h2 := hg.le
  obtain ⟨slots, begun, stack, times⟩ := A
  simp [Ar.room] at h h1 h2
  cases stack with
  | cons x t => simp at h h1; omega
  | nil => simp [Ar.next]; simp at h; omega
theorem room_pop {A : Ar} (hg : A.Good) {k : Nat} (h : A.next = some k) : A.pop.room + 1 = A.room := by
  have h1 := stack_le hg; have h2 := hg.le
  obtain ⟨slots, begun, stack, times⟩ := A
  rcases next_cases h with ⟨t, hs⟩ | ⟨hs, rfl, h3⟩
  · simp only at hs; subst hs
    simp [Ar.room, Ar.pop] at h1 h2 ⊢; omega
  · simp only at hs; subst hs
    simp [Ar.room, Ar.pop] at h1 h2 h3 ⊢; omega
theorem popn_facts {A : Ar} (hg : A.Good) : ∀ q, q ≤ A.room → (A.popn q).Good ∧ (A.popn q).room = A.room - q ∧ (A.popn q).slots = A.slots ∧ (A.gots q).length = q ∧ (∀ i, A.inUse i = true → (A.popn q).inUse i = true) ∧ ∀ x ∈ A.gots q, x < A.slots
  | 0, _ => ⟨hg, rfl, rfl, rfl, fun _ h => h, fun _ h => by cases h⟩
  | q + 1, hq => by
    obtain ⟨h1, h2, h3, h4, h5, h6⟩ := popn_facts hg q (by omega)
    have hn := room_some h1 (by omega)
    refine ⟨pop_good h1 hn, ?_, (pop_slots _).trans h3, by simp [Ar.gots, h4], fun i hi => ?_, fun x hx => ?_⟩
    · have := room_pop h1 hn; show (A.popn q).pop.room = _; omega
    · show (A.popn q).pop.inUse i = true
      rw [pop_use h1 hn]; split
      · rfl
      · exact h5 i hi
    · simp [Ar.gots] at hx
      rcases hx with hx | hx
      · exact h6 x hx
      · subst hx; have := next_lt h1 hn; omega
theorem gots_at (A : Ar) {k n : Nat} (hk : k < n) : (A.gots n).getD k 0 = (A.popn k).nx ∧ (A.gots n).length = n := by
  induction n with
  | zero => omega
  | succ n ih =>
    have hl : (A.gots n).length = n := by
      clear ih hk
      induction n with
      | zero => rfl
      | succ n ih => simp [Ar.gots, ih]
    refine ⟨?_, by simp [Ar.gots, hl]⟩
    by_cases e : k = n
    · subst e
      simp [Ar.gots, List.getD_eq_getElem?_getD, List.getElem?_append, hl]
    · have := (ih (by omega)).1
      rw [← this]
      simp [Ar.gots, List.getD_eq_getElem?_getD, List.getElem?_append, hl, show k < n by omega]
theorem room_list {A : Ar} (hg : A.Good) : A.room + A.list.length = A.slots := by
  have h1 := upTo_length_stack hg; have h2 := hg.le
  unfold Ar.room; omega

def CopyRel1 (w : World) (a c _n : Nat) (A : Ar) (la : Option Addr) (cap : Nat) (vg vi : Value) (wr : World) : Prop :=
  ∃ (q : Nat) (col : Nat → Nat), q ≤ A.room ∧ vi = .int .i64 q ∧ Free col w.heap.size ∧ IsAr wr a A (col · = 1) ∧ IsAr wr c (A.popn q) (col · = 2) ∧ OwnInts wr la A.list.length cap (A.list.map fun (x : Nat) => (x : Int)) col 3 ∧ OwnRow wr vg (A.gots q) col 4 ∧ Below w.heap.size w wr
def CopyRel2 (w : World) (a c n : Nat) (A : Ar) (la ga : Option Addr) (cap gcap : Nat) (vi : Value) (wr : World) : Prop :=
  ∃ (k : Nat) (C : Ar) (col : Nat → Nat), k ≤ A.list.length ∧ vi = .int .i64 k ∧ C.slots = n ∧ C.list.length = n - k ∧ (∀ j, k ≤ j → j < A.list.length → C.inUse (A.list.getD j 0) = true) ∧ Free col w.heap.size ∧ IsAr wr a A (col · = 1) ∧ IsAr wr c C (col · = 2) ∧
    OwnInts wr la A.list.length cap (A.list.map fun (x : Nat) => (x : Int)) col 3 ∧ OwnInts wr ga A.room gcap ((A.gots A.room).map fun (x : Nat) => (x : Int)) col 4 ∧ Below w.heap.size w wr
def CopyRel3 (w : World) (a c _n : Nat) (A C : Ar) (ga : Option Addr) (gcap : Nat) (vi : Value) (wr : World) : Prop :=
  ∃ (k : Nat) (col : Nat → Nat), k ≤ A.room ∧ vi = .int .i64 k ∧ Free col w.heap.size ∧ IsAr wr a (A.popn k) (col · = 1) ∧ IsAr wr c C (col · = 2) ∧ OwnInts wr ga A.room gcap ((A.gots A.room).map fun (x : Nat) => (x : Int)) col 4 ∧ Below w.heap.size w wr

set_option maxRecDepth 100000 in
set_option maxHeartbeats 8000000 in
theorem copies_law (s : Int) (la : Option Addr) (len cap : Nat) (zs : List Int) (w : World) (hs : (Lit.int .u8 s).wf = true) (hz : IsInts .u8 w la len cap zs) :
    Calls Try.prog 9 #[.int .u8 s, .slice la len cap] w fun e w' => e = .returned (.bool true) ∧ Below w.heap.size w w' := by
  have HP := Lib.hid (play_any s la len cap zs w (bounds_u8 hs) hz)
  have hn2 : nPlay s ≤ 40 := by unfold nPlay; omega
  generalize nPlay s = n at *
  clear hs hz
  obtain ⟨i0, hi, hz0, hz1, hz2⟩ := info_parts info3
  go_enter Try.func9, Try.ntmps9
  go_wp2_with fail
  refine (HP.out).mono ?_; rintro e w1 ⟨a, f, o, A, rfl, ha, hia, hk, hb⟩
  have C1 : Hid (Free (newc (fun _ => 0) w.heap.size 1) w.heap.size) := Lib.hid (fun k hk => by rw [newc_old hk])
  have I1 : Hid (IsAr w1 w.heap.size A (newc (fun _ => 0) w.heap.size 1 · = 1)) := Lib.hid (hia.mono (fun k _ hk => newc_new hk.1))
  have KS := Lib.hid hk.slots; have B1 := Lib.hid hb
  clear hia hb hk HP
  generalize newc (fun _ => 0) w.heap.size 1 = col0 at *
  go_wp2_with fail
  refine (copy_is I1.out).mono ?_; rintro e w2 ⟨c, rfl, hic, hb⟩
  have I2 := Lib.hid ((I1.out.newc 2).below hb)
  have J2 : Hid (IsAr w2 c A (newc col0 w1.heap.size 2 · = 2)) := Lib.hid (hic.mono (fun k _ hk => newc_new hk))
  have C2 := Lib.hid (C1.out.newc (N := w1.heap.size) (i := 2) B1.out.size)
  have B2 := Lib.hid (B1.out.trans (hb.mono B1.out.size))
  clear hic hb I1 C1
  generalize newc col0 w1.heap.size 2 = col1 at *
  have HG := Lib.hid I2.out.good
  go_wp2_with fail
  refine (list_col J2.out col1 0).mono ?_; rintro e w3 ⟨xa, xc, rfl, hx, hb⟩
  have I3 := Lib.hid (I2.out.below hb); have J3 := Lib.hid (J2.out.below hb); have X3 := Lib.hid hx.ints; have B3 := Lib.hid (B2.out.trans (hb.mono B2.out.size))
  clear hb hx
  go_wp2_with fail
  refine (list_col I3.out col1 0).mono ?_; rintro e w4 ⟨ya, yc, rfl, hx, hb⟩
  have I4 := Lib.hid (I3.out.below hb); have J4 := Lib.hid (J3.out.below hb); have X4 := Lib.hid (X3.out.below hb); have Y4 := Lib.hid hx.ints; have B4 := Lib.hid (B3.out.trans (hb.mono B3.out.size))
  clear hb hx
  go_wp2_with fail
  refine (same_yes X4.out Y4.out).mono ?_; rintro e w5 ⟨rfl, hb⟩
  have I5 := Lib.hid (I4.out.below hb); have J5 := Lib.hid (J4.out.below hb); have B5 := Lib.hid (B4.out.trans (hb.mono B4.out.size))
  clear hb
  go_wp2_with fail
  refine (list_col I5.out col1 3).mono ?_; rintro e w6 ⟨la2, lc2, rfl, hx, hb⟩
  have I6 := Lib.hid ((I5.out.newc 3).below hb); have J6 := Lib.hid ((J5.out.newc 3).below hb); have L6 := Lib.hid hx; have B6 := Lib.hid (B5.out.trans (hb.mono B5.out.size))
  have C6 := Lib.hid (C2.out.newc (N := w5.heap.size) (i := 3) B5.out.size)
  clear hb hx I2 J2 I3 J3 I4 J4 I5 J5 X3 X4 Y4 B2 B3 B4 B5 C2
  generalize newc col1 w5.heap.size 3 = col2 at *
  have hlc : A.list.length ≤ lc2 := L6.out.ints.hle
  have hlm : lc2 ≤ 9223372036854775807 := L6.out.ints.hmax
  have hrl := room_list HG.out
  rw [KS.out] at hrl
  have HRL := Lib.hid hrl
  have hrn : A.room ≤ n := by omega
  clear hrl
  go_wp2_with fail
  go_loopw [11, 12, 13, 14] (fun vg vi _ _ wr => CopyRel1 w w.heap.size c n A la2 lc2 vg vi wr) (fun _ vi _ _ _ => A.room - (intOf vi).toNat)
  case atStart => exact ⟨0, col2, Nat.zero_le _, rfl, C6.out, I6.out, J6.out, L6.out, OwnRow.nil _ _ _, B6.out⟩
  case round =>
    clear C6 I6 J6 L6 B6
    obtain ⟨q, col, hq, rfl, hfr, hia, hja, hlo, hgo, hbl⟩ := hrel
    have C := Lib.hid hfr; have I := Lib.hid hia; have J := Lib.hid hja; have L := Lib.hid hlo; have G := Lib.hid hgo; have BL := Lib.hid hbl
    clear hfr hia hja hlo hgo hbl
    have hpf := popn_facts HG.out q hq
    have hqn : q ≤ n := by omega
    by_cases hlt : q < A.room
    · have HN := Lib.hid (room_some hpf.1 (by rw [hpf.2.1]; omega))
      have HGL := Lib.hid hpf.2.2.2.1
      clear hpf
      have hge : (A.gots (q + 1)) = A.gots q ++ [(A.popn q).nx] := rfl
      have HGE := Lib.hid hge; clear hge
      generalize (A.popn q).nx = x at *
      go_wp2_with fail
      refine (cap_is I.out).mono ?_; rintro e w7 ⟨rfl, rfl⟩
      rw [KS.out]
      go_wp2_with fail
      refine (alloc_col J.out x HN.out).mono ?_; rintro e w7 ⟨rfl, hja, ht⟩
      have J7 := Lib.hid hja; have I7 := Lib.hid (I.out.after ht (by decide)); have L7 := Lib.hid (L.out.after ht (by decide)); have G7 := Lib.hid (G.out.after ht (by decide))
      have C7 := Lib.hid (C.out.newc (N := wr.heap.size) (i := 2) BL.out.size); have BL7 := Lib.hid (BL.out.trans (ht.free (by decide) C.out BL.out.size))
      clear hja ht
      generalize newc col wr.heap.size 2 = col7 at *
      have hgl : (A.gots q).length ≤ 1000 := by rw [HGL.out]; omega
      go_wp2_with (at_builtin; refine wpList_append_mine _ rfl (.tmp 56) (.tmp 58) 32 rfl 3 i0 (.int .i64 0) 1 8 Try.underlying32 hi hz0 hz1 hz2 rfl (by decide) _ _ _ rfl (G7.out.row.alloc _) ⟨w7.heap.size, 0, none⟩ 1 1 [cellN x] rfl rfl ?_ ?_ ?_ ?_ ?_)
      · intro j u hj
        match j, hj with
        | 0, hj => simp at hj; subst hj; simp [Addr.add, cellN]
      · intro u hu; simp at hu; subst hu; rfl
      · unfold maxLen; omega
      · omega
      · intro v' w8 ho hg hn
        obtain ⟨hw8, ht⟩ := G7.out.push ho hg hn
        rw [← HGE.out] at hw8
        have G8 := Lib.hid hw8; have I8 := Lib.hid (I7.out.after ht (by decide)); have J8 := Lib.hid (J7.out.after ht (by decide)); have L8 := Lib.hid (L7.out.after ht (by decide))
        have C8 := Lib.hid (C7.out.newc (N := w7.heap.size) (i := 4) BL7.out.size); have BL8 := Lib.hid (BL7.out.trans (ht.free (by decide) C7.out BL7.out.size))
        clear ho hg hn hw8 ht
        go_wp2_with fail
        go_roundw
        case rel => exact ⟨q + 1, _, by omega, by go_num, C8.out, I8.out, J8.out, L8.out, G8.out, BL8.out⟩
        case measure => simp [intOf]; omega
    · obtain rfl : q = A.room := by omega
      have HN := Lib.hid (room_none hpf.1 (by rw [hpf.2.1]; omega))
      have HGL := Lib.hid hpf.2.2.2.1
      have HMX := Lib.hid (show ∀ x ∈ A.gots A.room, x ≤ 65536 from fun x hx => by have := hpf.2.2.2.2.2 x hx; have := HG.out.max; omega)
      have HUS := Lib.hid hpf.2.2.2.2.1
      have HSL := Lib.hid (hpf.2.2.1.trans KS.out)
      have HLL : Hid ((A.popn A.room).list.length = n) := Lib.hid (by
        have h1 := room_list hpf.1
        rw [hpf.2.1, hpf.2.2.1, KS.out] at h1
        omega)
      clear hpf
      go_wp2_with fail
      refine (cap_is I.out).mono ?_; rintro e w7 ⟨rfl, rfl⟩
      rw [KS.out]
      go_wp2_with fail
      refine (alloc_none J.out HN.out).mono ?_; rintro e w7 ⟨rfl, hb⟩
      have J7 := Lib.hid (J.out.below hb); have I7 := Lib.hid (I.out.below hb); have L7 := Lib.hid (L.out.below hb); have BL7 := Lib.hid (BL.out.trans (hb.mono BL.out.size))
      have G7 := Lib.hid (G.out.below hb)
      clear hb
      obtain ⟨ga, gcap, rfl, hgi⟩ := G7.out.ints HMX.out
      rw [HGL.out] at hgi
      rw [HGL.out]
      have GI := Lib.hid hgi
      have hgc : A.room ≤ gcap := GI.out.ints.hle
      have hgm : gcap ≤ 9223372036854775807 := GI.out.ints.hmax
      clear hgi G7
      go_wp2_with fail
      refine (list_col I7.out col 0).mono ?_; rintro e w8 ⟨ya, yc, rfl, hx, hb⟩
      have J8 := Lib.hid (J7.out.below hb); have I8 := Lib.hid (I7.out.below hb); have L8 := Lib.hid (L7.out.below hb); have G8 := Lib.hid (GI.out.below hb); have BL8 := Lib.hid (BL7.out.trans (hb.mono BL7.out.size))
      have Y8 := Lib.hid hx.ints
      clear hb hx
      go_wp2_with fail
      refine (same_yes Y8.out L8.out.ints).mono ?_; rintro e w9 ⟨rfl, hb⟩
      have J9 := Lib.hid (J8.out.below hb); have I9 := Lib.hid (I8.out.below hb); have L9 := Lib.hid (L8.out.below hb); have G9 := Lib.hid (G8.out.below hb); have BL9 := Lib.hid (BL8.out.trans (hb.mono BL8.out.size))
      clear hb
      go_wp2_with fail
      refine (cap_is I9.out).mono ?_; rintro e w10 ⟨rfl, rfl⟩
      rw [KS.out]
      have hnl : (n : Int) - (A.list.length : Int) = (A.room : Int) := by have := HRL.out; omega
      have hnl0 : A.list.length ≤ n := by have := HRL.out; omega
      go_wp2_with fail
      clear hnl
      go_loopw [15] (fun vi wr => CopyRel2 w w.heap.size c n A la2 ga lc2 gcap vi wr) (fun vi _ => A.list.length - (intOf vi).toNat)
      case atStart => exact ⟨0, _, col, Nat.zero_le _, rfl, HSL.out, HLL.out, fun j _ hj => HUS.out _ (list_mem.1 (by rw [show A.list.getD j 0 = A.list[j] by simp [hj]]; exact List.getElem_mem hj)), C.out, I9.out, J9.out, L9.out, G9.out, BL9.out⟩
      case round =>
        clear J9 I9 L9 G9 BL9 J8 I8 L8 G8 BL8 Y8 J7 I7 L7 BL7 GI J I L G BL C
        obtain ⟨k, K, col5, hk, rfl, hk1, hk2, hk3, hfr, hia, hja, hlo, hgo, hbl⟩ := hrel
        have C := Lib.hid hfr; have I := Lib.hid hia; have J := Lib.hid hja; have L := Lib.hid hlo; have G := Lib.hid hgo; have BL := Lib.hid hbl
        have K1 := Lib.hid hk1; have K2 := Lib.hid hk2; have K3 := Lib.hid hk3
        clear hfr hia hja hlo hgo hbl hk1 hk2 hk3
        by_cases hlt2 : k < A.list.length
        · obtain ⟨g, off, rfl, hg, hcell⟩ := L.out.ints.cell (by intro h; simp at h; simp [h] at hlt2)
          have c1 := hcell k (by simpa using hlt2)
          rw [getD_map] at c1
          have hu := K3.out k (Nat.le_refl _) hlt2
          have hne : ∀ j, k + 1 ≤ j → j < A.list.length → A.list.getD j 0 ≠ A.list.getD k 0 := fun j h1 h2 => by
            rw [show A.list.getD j 0 = A.list[j] by simp [h2], show A.list.getD k 0 = A.list[k] by simp [hlt2]]
            have := List.pairwise_iff_getElem.1 (list_sorted A) k j hlt2 h2 (by omega)
            omega
          have HU := Lib.hid hu; have HNE := Lib.hid hne
          have K3' : Hid (∀ j, k + 1 ≤ j → j < A.list.length → (K.push (A.list.getD k 0)).inUse (A.list.getD j 0) = true) := Lib.hid (fun j h1 h2 => by
            rw [push_use, if_neg (HNE.out j h1 h2)]; exact K3.out j (by omega) h2)
          have K2' : Hid ((K.push (A.list.getD k 0)).list.length = n - (k + 1)) := Lib.hid (by
            have h1 := push_len J.out.good hu
            have h2 := list_len (push_good J.out.good hu)
            have h3 := K2.out
            omega)
          clear hcell hu hne
          generalize A.list.getD k 0 = x at *
          go_wp2_with fail
          refine (free_some J.out x HU.out).mono ?_; rintro e w11 ⟨rfl, hja, ht⟩
          have J2 := Lib.hid hja; have I2 := Lib.hid (I.out.other ht (by decide)); have L2 := Lib.hid (L.out.other ht (by decide)); have G2 := Lib.hid (G.out.other ht (by decide)); have BL2 := Lib.hid (BL.out.trans (ht.free (by decide) C.out BL.out.size))
          clear hja ht c1
          go_wp2_with fail
          go_roundw
          case rel => exact ⟨k + 1, K.push x, col5, by omega, by go_num, K1.out, K2'.out, K3'.out, C.out, I2.out, J2.out, L2.out, G2.out, BL2.out⟩
          case measure => simp [intOf]; omega
        · obtain rfl : k = A.list.length := by omega
          have KL : Hid (K.list.length = A.room) := Lib.hid (by have := K2.out; have := HRL.out; omega)
          go_wp2_with fail
          refine (list_col I.out col5 0).mono ?_; rintro e w11 ⟨ya, yc, rfl, hx, hb⟩
          have J2 := Lib.hid (J.out.below hb); have I2 := Lib.hid (I.out.below hb); have L2 := Lib.hid (L.out.below hb); have G2 := Lib.hid (G.out.below hb); have BL2 := Lib.hid (BL.out.trans (hb.mono BL.out.size))
          have Y2 := Lib.hid hx.ints
          clear hb hx
          go_wp2_with fail
          refine (same_yes Y2.out L2.out.ints).mono ?_; rintro e w12 ⟨rfl, hb⟩
          have J3 := Lib.hid (J2.out.below hb); have I3 := Lib.hid (I2.out.below hb); have G3 := Lib.hid (G2.out.below hb); have BL3 := Lib.hid (BL2.out.trans (hb.mono BL2.out.size))
          clear hb
          go_wp2_with fail
          go_loopw [4, 16, 17, 18] (fun _ vi _ _ wr => CopyRel3 w w.heap.size c n A K ga gcap vi wr) (fun _ vi _ _ _ => A.room - (intOf vi).toNat)
          case atStart => exact ⟨0, col5, Nat.zero_le _, rfl, C.out, I3.out, J3.out, G3.out, BL3.out⟩
          case round =>
            clear J3 I3 G3 BL3 J2 I2 L2 G2 BL2 Y2 J I L G BL C
            obtain ⟨p, col6, hp, rfl, hfr, hia, hja, hgo, hbl⟩ := hrel
            have C := Lib.hid hfr; have I := Lib.hid hia; have J := Lib.hid hja; have G := Lib.hid hgo; have BL := Lib.hid hbl
            clear hfr hia hja hgo hbl
            have hpf := popn_facts HG.out p hp
            by_cases hlt3 : p < A.room
            · have HN3 := Lib.hid (room_some hpf.1 (by rw [hpf.2.1]; omega))
              have hga := gots_at A hlt3
              clear hpf
              have HGA := Lib.hid hga; clear hga
              go_wp2_with fail
              refine (alloc_col I.out (A.popn p).nx HN3.out).mono ?_; rintro e w13 ⟨rfl, hia, ht⟩
              have I2 := Lib.hid hia; have J2 := Lib.hid (J.out.after ht (by decide)); have G2 := Lib.hid (G.out.after ht (by decide))
              have C2 := Lib.hid (C.out.newc (N := wr.heap.size) (i := 1) BL.out.size); have BL2 := Lib.hid (BL.out.trans (ht.free (by decide) C.out BL.out.size))
              clear hia ht
              obtain ⟨g, off, rfl, hg, hcell⟩ := G2.out.ints.cell (by intro h; simp at h; have := HGA.out.2; rw [h] at this; simp at this; omega)
              have c1 := hcell p (by have := HGA.out.2; simp; omega)
              rw [getD_map, HGA.out.1] at c1
              clear hcell
              go_wp2_with fail
              go_roundw
              case rel => exact ⟨p + 1, _, by omega, by go_num, C2.out, I2.out, J2.out, G2.out, BL2.out⟩
              case measure => simp [intOf]; omega
            · clear hpf
              obtain rfl : p = A.room := by omega
              go_wp2_with fail
              refine (list_col J.out col6 0).mono ?_; rintro e w13 ⟨ya, yc, rfl, hx, hb⟩
              have BL2 := Lib.hid (BL.out.trans (hb.mono BL.out.size))
              clear hb hx
              rw [KL.out]
              go_wp2_with fail
              refine (works_any _).mono ?_; rintro e w14 ⟨rfl, hb⟩
              have B6 := Lib.hid (BL2.out.trans (hb.mono BL2.out.size)); clear hb
              go_wp2_with fail
              go_ret
              exact ⟨rfl, B6.out⟩
end Go.Proofs.Ytndiaflbagikoaa

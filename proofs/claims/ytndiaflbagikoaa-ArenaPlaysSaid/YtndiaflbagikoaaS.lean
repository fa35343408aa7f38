/- The walk of the law ArenaBack. -/
import Derived.Test.YtndiaflbagikoaaR
namespace Go.Proofs.Ytndiaflbagikoaa
open Go.ChangeShapes Go.WideShapes Go.ChangeAt Go.RowKit

def backed (n m : Nat) (xs : List Nat) : Ar := ⟨n, m, xs.reverse, fun k => if k < m then 1 else 0⟩
theorem backed_nil (n m : Nat) : filled n m = backed n m [] := rfl
theorem backed_push (n m : Nat) (xs : List Nat) (k : Nat) : (backed n m xs).push k = backed n m (xs ++ [k]) := by simp [backed, Ar.push]
def BackRel1 (w : World) (b n m len : Nat) (vf vi : Value) (wr : World) : Prop :=
  ∃ (k : Nat) (xs : List Nat) (col : Nat → Nat), k ≤ len ∧ k ≤ 300 ∧ vi = .int .i64 k ∧ xs.length ≤ k ∧ Free col w.heap.size ∧ IsAr wr b (backed n m xs) (col · = 1) ∧ OwnRow wr vf xs col 2 ∧ Below w.heap.size w wr
def BackRel2 (w : World) (b n m : Nat) (xs : List Nat) (a : Option Addr) (cap : Nat) (vi : Value) (wr : World) : Prop :=
  ∃ (r : Nat) (A : Ar) (col : Nat → Nat), r ≤ xs.length ∧ vi = .int .i64 ((r : Int) - 1) ∧ A.slots = n ∧ A.begun = m ∧ A.stack = (xs.take r).reverse ∧ (∀ i ∈ xs.take r, A.times i = 1) ∧ Free col w.heap.size ∧ IsAr wr b A (col · = 1) ∧
    OwnInts wr a xs.length cap (xs.map fun (x : Nat) => (x : Int)) col 2 ∧ Below w.heap.size w wr
def BackRel3 (w : World) (b n m : Nat) (vi : Value) (wr : World) : Prop :=
  ∃ (j : Nat) (A : Ar) (col : Nat → Nat), m ≤ j ∧ j ≤ n ∧ vi = .int .i64 j ∧ A.slots = n ∧ A.begun = j ∧ A.stack = [] ∧ Free col w.heap.size ∧ IsAr wr b A (col · = 1) ∧ Below w.heap.size w wr

theorem pop_back {A : Ar} {xs : List Nat} {q : Nat} (hg : A.Good) (hq : q < xs.length) (hs : A.stack = (xs.take (q + 1)).reverse) (ht : ∀ i ∈ xs.take (q + 1), A.times i = 1) :
    A.next = some (xs.getD q 0) ∧ A.pop.slots = A.slots ∧ A.pop.begun = A.begun ∧ A.pop.stack = (xs.take q).reverse ∧ (∀ i ∈ xs.take q, A.pop.times i = 1) ∧ A.pop.count (xs.getD q 0) = 2 ∧ xs.getD q 0 < A.slots := by
  have e : xs.take (q + 1) = xs.take q ++ [xs[q]] := by rw [List.take_succ_eq_append_getElem hq]
  have eg : xs.getD q 0 = xs[q] := by simp [hq]
  rw [eg]
  rw [e, List.reverse_append] at hs
  simp at hs
  obtain ⟨slots, begun, stack, times⟩ := A
  simp only at hs; subst hs
  have hx : xs[q] < begun := hg.lt _ (by simp)
  have hn := List.nodup_cons.1 hg.nodup
  have h1 : times xs[q] = 1 := ht _ (by rw [e]; exact List.mem_append_right _ (by simp))
  refine ⟨rfl, rfl, rfl, rfl, fun i hi => ?_, ?_, ?_⟩
  · have hne : i ≠ xs[q] := fun e' => hn.1 (by rw [← e']; simpa using hi)
    show tick times xs[q] i = 1
    simp only [tick, if_neg hne]
    exact ht i (by rw [e]; exact List.mem_append_left _ hi)
  · show (if xs[q] < begun then tick times xs[q] xs[q] else 0) = 2
    simp only [if_pos hx, tick, if_true, h1]
    rfl
  · have := hg.le; show xs[q] < slots; simp at this; omega
theorem pop_new {A : Ar} (hs : A.stack = []) (hlt : A.begun < A.slots) : A.next = some A.begun ∧ A.pop.slots = A.slots ∧ A.pop.begun = A.begun + 1 ∧ A.pop.stack = [] ∧ A.pop.count A.begun = 1 := by
  obtain ⟨slots, begun, stack, times⟩ := A
  simp only at hs; subst hs
  refine ⟨by simp [Ar.next]; exact hlt, rfl, rfl, rfl, ?_⟩
  simp [Ar.pop, Ar.count]

set_option maxRecDepth 100000 in
set_option maxHeartbeats 8000000 in
theorem back_law (s u : Int) (la : Option Addr) (len cap : Nat) (zs : List Int) (w : World) (hs : (Lit.int .u16 s).wf = true) (hu : (Lit.int .u16 u).wf = true) (hz : IsInts .u16 w la len cap zs) :
    Calls Try.prog 4 #[.int .u16 s, .int .u16 u, .slice la len cap] w fun e w' => e = .returned (.bool true) ∧ Below w.heap.size w w' := by
  have HM := Lib.hid (made_any s u w (bounds_u16 hs) (bounds_u16 hu))
  have hn1 : 1 ≤ nOf s := by unfold nOf; omega
  have hn2 : nOf s ≤ 300 := by unfold nOf; omega
  have hm1 : mOf s u ≤ nOf s := by have := Nat.mod_lt u.toNat (show 0 < nOf s + 1 by omega); unfold mOf; omega
  generalize mOf s u = m at *
  generalize nOf s = n at *
  obtain ⟨hlen, hle, hmax, hat, hwf⟩ := hz
  have Hat := Lib.hid hat; have Hwf := Lib.hid hwf
  subst hlen
  unfold maxLen at hmax
  clear hs hu hat hwf
  obtain ⟨i0, hi, hz0, hz1, hz2⟩ := info_parts info3
  go_enter Try.func4, Try.ntmps4
  go_wp2_with fail
  refine (HM.out).mono ?_; rintro e w1 ⟨rfl, hia, hb, hsz⟩
  have C1 : Hid (Free (newc (fun _ => 0) w.heap.size 1) w.heap.size) := Lib.hid (fun k hk => by rw [newc_old hk])
  have I1 : Hid (IsAr w1 w.heap.size (backed n m []) (newc (fun _ => 0) w.heap.size 1 · = 1)) := Lib.hid (hia.mono (fun k _ hk => newc_new hk.1))
  have B1 := Lib.hid hb
  clear hia hb hsz
  generalize newc (fun _ => 0) w.heap.size 1 = col0 at *
  go_wp2_with fail
  go_loopw [6, 10, 11, 12, 13, 14] (fun _ vf vi _ _ _ wr => BackRel1 w w.heap.size n m zs.length vf vi wr) (fun _ _ vi _ _ _ _ => zs.length - (intOf vi).toNat)
  case atStart => exact ⟨0, [], col0, Nat.zero_le _, Nat.zero_le _, rfl, Nat.le_refl _, C1.out, I1.out, OwnRow.nil _ _ _, B1.out⟩
  case round =>
    clear C1 I1 B1 HM
    obtain ⟨k, xs, col, hk, hk3, rfl, hxk, hfr, hia, how, hbl⟩ := hrel
    have C := Lib.hid hfr; have I := Lib.hid hia; have OW := Lib.hid how; have BL := Lib.hid hbl
    clear hfr hia how hbl
    by_cases hlt : k < zs.length ∧ k < 300 ∧ 0 < m
    · obtain ⟨hlt, h3, hm0⟩ := hlt
      obtain ⟨lb, off, rfl, hlb, hcell⟩ := Hat.out (by intro h; simp [h] at hlt)
      have hc := (BL.out.cell (p := ⟨lb, off + k, none⟩) hlb).trans (hcell k hlt)
      have hcb := bounds_u16 (Hwf.out _ (show zs.getD k 0 ∈ zs by simp [List.getElem?_eq_getElem hlt]))
      clear hcell
      generalize zs.getD k 0 = c at *
      obtain ⟨c, rfl⟩ := Int.eq_ofNat_of_zero_le hcb.1
      have hc2 := hcb.2
      obtain ⟨i, hidef⟩ : ∃ i : Nat, c % m = i := ⟨_, rfl⟩
      have him : i < m := by rw [← hidef]; exact Nat.mod_lt _ hm0
      have em : (c : Int) % (m : Int) = (i : Int) := by rw [← hidef]; simp
      clear hidef
      have US := used_some I.out i (show i < n by omega)
      cases hu : (backed n m xs).inUse i
      · have HF := Lib.hid (free_none I.out i (show i < n by omega) hu)
        rw [hu] at US
        have HU := Lib.hid US
        clear US hu
        go_wp2_with fail
        refine (HU.out).mono ?_; rintro e w4 ⟨rfl, rfl⟩
        go_wp2_with fail
        refine (HF.out).mono ?_; rintro e w4 ⟨rfl, rfl⟩
        go_wp2_with fail
        go_roundw
        case rel => exact ⟨k + 1, xs, col, by omega, by omega, by go_num, by omega, C.out, I.out, OW.out, BL.out⟩
        case measure => simp [intOf]; omega
      · have HF := Lib.hid (free_some I.out i hu)
        rw [hu] at US
        have HU := Lib.hid US
        clear US hu
        go_wp2_with fail
        refine (HU.out).mono ?_; rintro e w4 ⟨rfl, rfl⟩
        go_wp2_with fail
        refine (HF.out).mono ?_; rintro e w4 ⟨rfl, hia, ht⟩
        rw [backed_push] at hia
        have I4 := Lib.hid hia; have BL4 := Lib.hid (BL.out.trans (ht.free (by decide) C.out BL.out.size)); have OW4 := Lib.hid (OW.out.other ht (by decide))
        clear hia ht hc
        go_wp2_with (at_builtin; refine wpList_append_mine _ rfl (.tmp 72) (.tmp 74) 32 rfl 3 i0 (.int .i64 0) 1 8 Try.underlying32 hi hz0 hz1 hz2 rfl (by decide) _ _ _ rfl (OW4.out.row.alloc _) ⟨w4.heap.size, 0, none⟩ 1 1 [cellN i] rfl rfl ?_ ?_ ?_ ?_ ?_)
        · intro j u hj
          match j, hj with
          | 0, hj => simp at hj; subst hj; simp [Addr.add, cellN]
        · intro u hu; simp at hu; subst hu; rfl
        · unfold maxLen; omega
        · omega
        · intro v' w5 ho hg hn
          obtain ⟨hw5, ht⟩ := OW4.out.push ho hg hn
          have OW5 := Lib.hid hw5
          have I5 := Lib.hid (I4.out.after ht (by decide))
          have BL5 := Lib.hid (BL4.out.trans (ht.free (by decide) C.out BL4.out.size))
          have C5 := Lib.hid (C.out.newc (N := w4.heap.size) (i := 2) BL4.out.size)
          clear ho hg hn hw5 ht
          go_wp2_with fail
          go_roundw
          case rel => exact ⟨k + 1, xs ++ [i], _, by omega, by omega, by go_num, by simp; omega, C5.out, I5.out, OW5.out, BL5.out⟩
          case measure => simp [intOf]; omega
    · rcases (show ¬ k < zs.length ∨ (k < zs.length ∧ ¬ k < 300) ∨ (k < zs.length ∧ k < 300 ∧ ¬ 0 < m) by omega) with h | ⟨h, h2⟩ | ⟨h, h2, h3⟩
      all_goals
        clear hlt
        have hx300 : xs.length ≤ 300 := by omega
        have hxm : ∀ x ∈ xs, x ≤ 65536 := fun x hx => by have := I.out.good.lt x (by simpa [backed] using hx); have : x < m := this; omega
        obtain ⟨fa, fcap, rfl, hoi⟩ := OW.out.ints hxm
        have OI := Lib.hid hoi
        have hfc : fcap ≤ 9223372036854775807 := hoi.ints.hmax
        have hxf : xs.length ≤ fcap := hoi.ints.hle
        clear hoi hxm OW
        go_wp2_with fail
        go_loopw [6, 15, 16, 17, 18, 19] (fun _ vi _ _ _ _ wr => BackRel2 w w.heap.size n m xs fa fcap vi wr) (fun _ vi _ _ _ _ _ => (intOf vi + 1).toNat)
        case atStart => exact ⟨xs.length, _, col, Nat.le_refl _, rfl, rfl, rfl, by simp [backed], fun i hi => by
            have hi' : i ∈ (backed n m xs).stack := by simpa [backed] using hi
            have := I.out.good.lt i hi'
            have : i < m := this
            simp [backed, this], C.out, I.out, OI.out, BL.out⟩
        case round =>
          clear C I OI BL
          obtain ⟨r, A, col2, hr, rfl, hA1, hA2, hA3, hA4, hfr, hia, hoi, hbl⟩ := hrel
          have C := Lib.hid hfr; have I := Lib.hid hia; have OI := Lib.hid hoi; have BL := Lib.hid hbl
          clear hfr hia hoi hbl
          cases r with
          | succ q =>
            have hq : (((q + 1 : Nat) : Int) - 1) = (q : Int) := by omega
            rw [hq]
            clear hq
            obtain ⟨p1, p2, p3, p4, p5, p6, p7⟩ := pop_back I.out.good (show q < xs.length by omega) hA3 hA4
            obtain ⟨g, off, rfl, hg, hcell⟩ := OI.out.ints.cell (by intro h; simp at h; simp [h] at hr)
            have PN := Lib.hid p1; have PS := Lib.hid (p2.trans hA1); have PB := Lib.hid (p3.trans hA2); have PK := Lib.hid p4; have PT := Lib.hid p5; have PC := Lib.hid p6
            have hxn : xs.getD q 0 < n := by omega
            have c0 := hcell q (by simp; omega)
            rw [getD_map] at c0
            have C0 := Lib.hid c0
            clear hcell p1 p2 p3 p4 p5 p6 p7 hA1 hA2 hA3 hA4 c0
            generalize xs.getD q 0 = x at *
            go_wp2_with fail
            refine (next_some I.out x PN.out).mono ?_; rintro e w4 ⟨rfl, hb⟩
            have I4 := Lib.hid (I.out.below hb); have BL4 := Lib.hid (BL.out.trans (hb.mono BL.out.size)); have OI4 := Lib.hid (OI.out.below hb)
            clear hb
            go_wp2_with fail
            refine (alloc_col I4.out x PN.out).mono ?_; rintro e w5 ⟨rfl, hia, ht⟩
            have I5 := Lib.hid hia; have BL5 := Lib.hid (BL4.out.trans (ht.free (by decide) C.out BL4.out.size)); have OI5 := Lib.hid (OI4.out.after ht (by decide))
            have C5 := Lib.hid (C.out.newc (N := w4.heap.size) (i := 1) BL4.out.size)
            have hc5 : w5.cell? ⟨g, off + q, none⟩ = some (.int .i64 x) := by
              obtain ⟨g', off', e', _, hcc⟩ := OI5.out.ints.cell (by intro h; simp at h; simp [h] at hr)
              cases e'
              have h1 := hcc q (by simp; omega)
              have h2 := C0.out
              obtain ⟨g2, off2, e2, _, hc2⟩ := OI.out.ints.cell (by intro h; simp at h; simp [h] at hr)
              cases e2
              rw [hc2 q (by simp; omega)] at h2
              rw [h1, h2]
            clear hia ht
            have TS := times_some I5.out x (by rw [PS.out]; exact hxn)
            rw [PC.out] at TS
            have HT := Lib.hid TS; clear TS
            go_wp2_with fail
            refine (HT.out).mono ?_; rintro e w6 ⟨rfl, rfl⟩
            clear hc5
            go_wp2_with fail
            go_roundw
            case rel => exact ⟨q, A.pop, _, by omega, rfl, PS.out, PB.out, PK.out, PT.out, C5.out, I5.out, OI5.out, BL5.out⟩
            case measure => simp [intOf]
          | zero =>
            rw [show (((0 : Nat) : Int) - 1) = -1 from rfl]
            have A3 : A.stack = [] := by simpa using hA3
            have HA1 := Lib.hid hA1; have HA2 := Lib.hid hA2; have HA3 := Lib.hid A3
            clear hA1 hA2 hA3 hA4 A3
            go_wp2_with fail
            go_loopw [6, 20, 21, 22] (fun _ vi _ _ wr => BackRel3 w w.heap.size n m vi wr) (fun _ vi _ _ _ => n - (intOf vi).toNat)
            case atStart => exact ⟨m, A, col2, Nat.le_refl _, hm1, rfl, HA1.out, HA2.out, HA3.out, C.out, I.out, BL.out⟩
            case round =>
              clear C I OI BL HA1 HA2 HA3
              obtain ⟨j, A2, col3, hj1, hj2, rfl, hA1, hA2, hA3, hfr, hia, hbl⟩ := hrel
              have C := Lib.hid hfr; have I := Lib.hid hia; have BL := Lib.hid hbl
              have HA1 := Lib.hid hA1; have HA2 := Lib.hid hA2; have HA3 := Lib.hid hA3
              clear hfr hia hbl hA1 hA2 hA3
              by_cases hjn : j < n
              · obtain ⟨p1, p2, p3, p4, p5⟩ := pop_new HA3.out (by rw [HA1.out, HA2.out]; exact hjn)
                rw [HA2.out] at p1 p3 p5
                rw [HA1.out] at p2
                have PN := Lib.hid p1; have PS := Lib.hid p2; have PB := Lib.hid p3; have PK := Lib.hid p4; have PC := Lib.hid p5
                clear p1 p2 p3 p4 p5
                go_wp2_with fail
                refine (alloc_col I.out j PN.out).mono ?_; rintro e w5 ⟨rfl, hia, ht⟩
                have I5 := Lib.hid hia; have BL5 := Lib.hid (BL.out.trans (ht.free (by decide) C.out BL.out.size))
                have C5 := Lib.hid (C.out.newc (N := wr.heap.size) (i := 1) BL.out.size)
                clear hia ht
                have TS := times_some I5.out j (by rw [PS.out]; exact hjn)
                rw [PC.out] at TS
                have HT := Lib.hid TS; clear TS
                go_wp2_with fail
                refine (HT.out).mono ?_; rintro e w6 ⟨rfl, rfl⟩
                go_wp2_with fail
                go_roundw
                case rel => exact ⟨j + 1, A2.pop, _, by omega, by omega, by go_num, PS.out, PB.out, PK.out, C5.out, I5.out, BL5.out⟩
                case measure => simp [intOf]; omega
              · obtain rfl : j = n := by omega
                go_wp2_with fail
                refine (len_is I.out).mono ?_; rintro e w5 ⟨rfl, rfl⟩
                rw [HA2.out, HA3.out, show ((j - ([] : List Nat).length : Nat) : Int) = (j : Int) by simp]
                go_wp2_with fail
                refine (works_any _).mono ?_; rintro e w6 ⟨rfl, hb⟩
                have B6 := Lib.hid (BL.out.trans (hb.mono BL.out.size)); clear hb
                go_wp2_with fail
                go_ret
                exact ⟨rfl, B6.out⟩
end Go.Proofs.Ytndiaflbagikoaa

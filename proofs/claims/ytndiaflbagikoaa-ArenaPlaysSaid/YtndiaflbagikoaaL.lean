/- play. -/
import Derived.Test.YtndiaflbagikoaaN
namespace Go.Proofs.Ytndiaflbagikoaa
open Go.ChangeShapes Go.WideShapes Go.ChangeAt Go.RowKit

theorem info4 : (Try.prog.info? 4).map (fun i => (i.zero, i.size, i.bytes)) = some (some (.bool false), 1, 1) := by kernel_rfl
theorem row_block {w : World} {B g n : Nat} {xs : List Value} (h : w.ownsRow B 4 1 (.slice (some ⟨g, 0, none⟩) n n) n xs) : ∃ cur : Array Value, w.heap[g]? = some (.cells cur 4 (0, 0)) ∧ cur.toList = xs := by
  rcases h.2 with ⟨e, _⟩ | ⟨g', cap, cur, e, _, hh, _, _, hcs, htake⟩
  · cases e
  · cases e
    refine ⟨cur, hh, ?_⟩
    rw [← htake, List.take_of_length_le]
    simp; omega
theorem made_outc (n : Nat) : (madeCells (Value.bool false).cells (n * 1)).toList = (outc (fresh n) n).toList := by
  apply List.ext_getElem
  · simp [madeCells, outc, Value.cells]
  · intro i h1 h2
    simp [madeCells, outc, Value.cells, fresh, Ar.inUse, Nat.mod_one]

def PlayRel (w : World) (b o n len : Nat) (vp va vf vi : Value) (wr : World) : Prop :=
  ∃ (k a f : Nat) (A : Ar), k ≤ len ∧ k ≤ 500 ∧ a ≤ k ∧ vp = .pointer (some ⟨b, 0, none⟩) ∧ vi = .int .i64 k ∧ va = .int .i64 a ∧ vf = .int .i64 f ∧ IsAr wr b A (Own w.heap.size [o]) ∧ Kept A n a f ∧ wr.heap[o]? = some (.cells (outc A n) 4 (0, 0)) ∧ Below w.heap.size w wr
def PlayPost (w : World) (n : Nat) (e : Ending) (w' : World) : Prop :=
  ∃ (a f o : Nat) (A : Ar), e = .returned (.tuple #[.pointer (some ⟨w.heap.size, 0, none⟩), .int .i64 a, .int .i64 f, .bool true]) ∧ a ≤ 500 ∧ IsAr w' w.heap.size A (Own w.heap.size [o]) ∧ Kept A n a f ∧ Below w.heap.size w w'
def UseRel (w : World) (b o n a f : Nat) (A : Ar) (vp va vf vi : Value) (wr : World) : Prop :=
  ∃ k : Nat, k ≤ n ∧ vp = .pointer (some ⟨b, 0, none⟩) ∧ va = .int .i64 a ∧ vf = .int .i64 f ∧ vi = .int .i64 k ∧ IsAr wr b A (Own w.heap.size [o]) ∧ wr.heap[o]? = some (.cells (outc A n) 4 (0, 0)) ∧ Below w.heap.size w wr
theorem IsAr.drewN {w : World} {b : Nat} {A : Ar} {F : Nat → Prop} (h : IsAr w b A F) (N : Nat) : IsAr (w.drewN N) b A F := h.below (below_drewN (Below.refl _ _) _)
def nPlay (s : Int) : Nat := 1 + s.toNat % 40

set_option maxRecDepth 100000 in
set_option maxHeartbeats 4000000 in
theorem play_any (s : Int) (la : Option Addr) (len cap : Nat) (zs : List Int) (w : World) (hs : 0 ≤ s ∧ s ≤ 255) (hz : IsInts .u8 w la len cap zs) :
    Calls Try.prog 12 #[.int .u8 s, .slice la len cap] w (PlayPost w (nPlay s)) := by
  obtain ⟨hlen, hle, hmax, hat, hwf⟩ := hz
  have Hat := Lib.hid hat; have Hwf := Lib.hid hwf; clear hat hwf
  subst hlen
  unfold maxLen at hmax
  obtain ⟨s, rfl⟩ := Int.eq_ofNat_of_zero_le hs.1
  have hs2 := hs.2
  have en : (1 : Int) + (s : Int) % 40 = ((nPlay s : Nat) : Int) := by simp [nPlay]
  have hn1 : 1 ≤ nPlay s := by unfold nPlay; omega
  have hn2 : nPlay s ≤ 40 := by unfold nPlay; omega
  generalize nPlay s = n at *
  obtain ⟨i0, hi, hz0, hz1, hz2⟩ := info_parts info4
  go_enter Try.func12, Try.ntmps12
  go_wp2_with fail
  refine (new_own n _ (by omega)).mono ?_; rintro e w1 ⟨rfl, hia, hb, hsz⟩
  have I1 := Lib.hid hia; have B1 := Lib.hid hb; have S1 := Lib.hid hsz
  have HE := Lib.hid en
  clear hia hb hsz en
  go_wp2_with (at_make; refine wpList_make_full _ rfl _ _ 65 rfl w1.heap.size 4 i0 (.bool false) 1 Try.underlying65 hi hz0 hz1 .i64 .i64 _ _ n rfl rfl rfl rfl (by rw [hz2]; omega) (by unfold maxLen; omega) (Nat.le_refl _) ?_; intro w2 ho hg)
  obtain ⟨cur, hcur, hcl⟩ := row_block ho
  have hout : w2.heap[w1.heap.size]? = some (.cells (outc (fresh n) n) 4 (0, 0)) := by
    rw [hcur]; have := hcl.trans (made_outc n); rw [Array.toList_inj.1 this]
  have hb2 := Below.grown (Below.refl w1.heap.size w1) hg (Nat.le_refl _) (fun k h => by cases h)
  have I2 : Hid (IsAr w2 w.heap.size (fresh n) (Own w.heap.size [w1.heap.size])) := (I1.out.mono (G := Own w.heap.size [w1.heap.size]) (fun k hk h => ⟨h.1, by simp; omega⟩)).below hb2
  have B2 := Lib.hid (B1.out.trans (hb2.mono B1.out.size))
  have O2 := Lib.hid hout
  have ho1 : w.heap.size + 1 = w1.heap.size := S1.out.symm
  have HO : Hid (w.heap.size < w1.heap.size) := Lib.hid (by omega)
  clear ho hg hb2 hcur hcl hout ho1
  generalize w1.heap.size = o at *
  go_loopw [4, 5, 6, 7, 11, 12, 13, 14] (fun vp va vf _ vi _ _ _ wr => PlayRel w w.heap.size o n zs.length vp va vf vi wr) (fun _ _ _ _ vi _ _ _ _ => zs.length - (intOf vi).toNat)
  case atStart => exact ⟨0, 0, 0, _, Nat.zero_le _, Nat.zero_le _, Nat.le_refl _, rfl, rfl, rfl, rfl, I2.out, kept_fresh n, O2.out, B2.out⟩
  case round =>
    clear I1 B1 S1 I2 B2 O2
    obtain ⟨k, a, f, A, hk, hk5, hak, rfl, rfl, rfl, rfl, hia, hkp, hob, hbl⟩ := hrel
    have I := Lib.hid hia; have KP := Lib.hid hkp; have OB := Lib.hid hob; have BL := Lib.hid hbl
    clear hia hkp hob hbl
    by_cases hlt : k < zs.length
    · by_cases h5 : k < 500
      · obtain ⟨lb, off, rfl, hlb, hcell⟩ := Hat.out (by intro h; simp [h] at hlt)
        have hc := (BL.out.cell (p := ⟨lb, off + k, none⟩) hlb).trans (hcell k hlt)
        have hcb := bounds_u8 (Hwf.out _ (show zs.getD k 0 ∈ zs by simp [List.getElem?_eq_getElem hlt]))
        clear hcell
        generalize zs.getD k 0 = c at *
        obtain ⟨c, rfl⟩ := Int.eq_ofNat_of_zero_le hcb.1
        have hc2 := hcb.2
        have hg := Lib.hid I.out.good
        have hfn : f ≤ a := by have := KP.out.bal; omega
        by_cases h128 : c < 128
        · cases hnx : A.next with
          | none =>
            have HN := Lib.hid hnx; clear hnx
            go_wp2_with fail
            refine (alloc_none I.out HN.out).mono ?_; rintro e w3 ⟨rfl, hb⟩
            have BL3 := Lib.hid (BL.out.trans (hb.mono BL.out.size)); have I3 := Lib.hid (I.out.below hb)
            have OB3 := Lib.hid ((hb.block _ (lt_of_block OB.out)).trans OB.out); clear hb
            go_wp2_with fail
            go_roundw
            case rel => exact ⟨k + 1, a, f, A, by omega, by omega, by omega, rfl, by go_num, rfl, rfl, I3.out, KP.out, OB3.out, BL3.out⟩
            case measure => simp [intOf]; omega
          | some i =>
            have HN := Lib.hid hnx; clear hnx
            have hin : i < n := by have := next_lt hg.out HN.out; rw [KP.out.slots] at this; exact this
            have HU := Lib.hid (next_free HN.out)
            go_wp2_with fail
            refine (alloc_own I.out BL.out.size (fun x hx => by simp at hx; subst hx; exact lt_of_block OB.out) i HN.out).mono ?_; rintro e w3 ⟨rfl, hia, ht⟩
            have BL3 := Lib.hid (BL.out.trans (ht.own_below BL.out.size))
            have OB3 := Lib.hid (ht.own_keep (by simp) OB.out)
            have I3 := Lib.hid hia
            clear hia ht hc
            have co : w3.cell? ⟨o, i, none⟩ = some (.bool false) := by rw [cell_of OB3.out, outc_at hin, HU.out]
            have fo : w3.frozen? ⟨o, i, none⟩ = false := free_of OB3.out i
            go_wp2_with fail
            have hst := set_of OB3.out i (.bool true)
            rw [outc_set (A' := A.pop) (fun j => pop_use hg.out HN.out j)] at hst
            have OB4 := Lib.hid hst
            have I4 := Lib.hid (I3.out.keep (touch_one w3 o i (.bool true)) (fun x hx e => hx.2 (by simp [e])))
            have BL4 := Lib.hid (BL3.out.setCell (p := ⟨o, i, none⟩) (by show w.heap.size ≤ o; have := HO.out; omega) (.bool true))
            go_roundw
            case rel => exact ⟨k + 1, a + 1, f, A.pop, by omega, by omega, by omega, rfl, by go_num, by go_num, rfl, I4.out, kept_pop KP.out hg.out (by omega) HN.out, OB4.out, BL4.out⟩
            case measure => simp [intOf]; omega
        · obtain ⟨i, hidef⟩ : ∃ i : Nat, c % n = i := ⟨_, rfl⟩
          have hmn : i < n := by rw [← hidef]; exact Nat.mod_lt _ (by omega)
          have em : (c : Int) % (n : Int) = (i : Int) := by rw [← hidef]; simp
          clear hidef
          go_wp2_with fail
          cases hu : A.inUse i
          · have HU := Lib.hid hu; clear hu
            refine (free_none I.out i (by rw [KP.out.slots]; exact hmn) HU.out).mono ?_; rintro e w3 ⟨rfl, rfl⟩
            go_wp2_with fail
            go_roundw
            case rel => exact ⟨k + 1, a, f, A, by omega, by omega, by omega, rfl, by go_num, rfl, rfl, I.out, KP.out, OB.out, BL.out⟩
            case measure => simp [intOf]; omega
          · have HU := Lib.hid hu; clear hu
            refine (free_some I.out i HU.out).mono ?_; rintro e w3 ⟨rfl, hia, ht⟩
            have BL3 := Lib.hid (BL.out.trans (ht.own_below BL.out.size))
            have OB3 := Lib.hid (ht.own_keep (by simp) OB.out)
            have I3 := Lib.hid hia
            clear hia ht hc
            have co : w3.cell? ⟨o, i, none⟩ = some (.bool true) := by rw [cell_of OB3.out, outc_at hmn, HU.out]
            have fo : w3.frozen? ⟨o, i, none⟩ = false := free_of OB3.out i
            go_wp2_with fail
            have hst := set_of OB3.out i (.bool false)
            rw [outc_set (A' := A.push i) (fun j => push_use j)] at hst
            have OB4 := Lib.hid hst
            have I4 := Lib.hid (I3.out.keep (touch_one w3 o i (.bool false)) (fun x hx e => hx.2 (by simp [e])))
            have BL4 := Lib.hid (BL3.out.setCell (p := ⟨o, i, none⟩) (by show w.heap.size ≤ o; have := HO.out; omega) (.bool false))
            go_roundw
            case rel => exact ⟨k + 1, a, f + 1, A.push i, by omega, by omega, by omega, rfl, by go_num, rfl, by go_num, I4.out, kept_push KP.out hg.out HU.out, OB4.out, BL4.out⟩
            case measure => simp [intOf]; omega
      · have hfn : f ≤ a := by have := KP.out.bal; omega
        go_wp2_with fail
        go_loopw [4, 5, 6, 7, 15] (fun vp va vf _ vi wr => UseRel w w.heap.size o n a f A vp va vf vi wr) (fun _ _ _ _ vi _ => n - (intOf vi).toNat)
        case atStart => exact ⟨0, Nat.zero_le _, rfl, rfl, rfl, rfl, I.out, OB.out, BL.out⟩
        case round =>
          obtain ⟨j, hj, rfl, rfl, rfl, rfl, hia, hob, hbl⟩ := hrel
          have I2 := Lib.hid hia; have OB2 := Lib.hid hob; have BL2 := Lib.hid hbl
          clear hia hob hbl
          have SL := KP.out.slots
          have HSL := Lib.hid SL; clear SL
          by_cases hjn : j < n
          · have co : wr.cell? ⟨o, j, none⟩ = some (.bool (A.inUse j)) := by rw [cell_of OB2.out, outc_at hjn]
            have US := fun N => (used_some (I2.out.drewN N) j (by rw [HSL.out]; exact hjn)).mono (fun e w' (hh : _ ∧ _) => (And.intro hh.1 hh.2.symm))
            have HUS := Lib.hid US; clear US
            generalize A.inUse j = u at *
            go_wp2_with fail
            go_quiet ((go_at_call 15; exact Calls.quiet_of_same (HUS.out _)))
            go_wp2_with fail
            go_roundw
            case rel => exact ⟨j + 1, by omega, rfl, rfl, rfl, by go_num, I2.out.drewN _, OB2.out, below_drewN BL2.out _⟩
            case measure => simp [intOf]; omega
          · go_wp2_with fail
            exact bodyPost_ret (v := .tuple #[.pointer (some ⟨w.heap.size, 0, none⟩), .int .i64 a, .int .i64 f, .bool true]) (by simp [results, Try.results12, go_sem]) rfl ⟨a, f, o, A, rfl, by omega, I2.out, KP.out, BL2.out⟩
    · have hfn : f ≤ a := by have := KP.out.bal; omega
      go_wp2_with fail
      go_loopw [4, 5, 6, 7, 15] (fun vp va vf _ vi wr => UseRel w w.heap.size o n a f A vp va vf vi wr) (fun _ _ _ _ vi _ => n - (intOf vi).toNat)
      case atStart => exact ⟨0, Nat.zero_le _, rfl, rfl, rfl, rfl, I.out, OB.out, BL.out⟩
      case round =>
        obtain ⟨j, hj, rfl, rfl, rfl, rfl, hia, hob, hbl⟩ := hrel
        have I2 := Lib.hid hia; have OB2 := Lib.hid hob; have BL2 := Lib.hid hbl
        clear hia hob hbl
        have SL := KP.out.slots
        have HSL := Lib.hid SL; clear SL
        by_cases hjn : j < n
        · have co : wr.cell? ⟨o, j, none⟩ = some (.bool (A.inUse j)) := by rw [cell_of OB2.out, outc_at hjn]
          have US := fun N => (used_some (I2.out.drewN N) j (by rw [HSL.out]; exact hjn)).mono (fun e w' (hh : _ ∧ _) => (And.intro hh.1 hh.2.symm))
          have HUS := Lib.hid US; clear US
          generalize A.inUse j = u at *
          go_wp2_with fail
          go_quiet ((go_at_call 15; exact Calls.quiet_of_same (HUS.out _)))
          go_wp2_with fail
          go_roundw
          case rel => exact ⟨j + 1, by omega, rfl, rfl, rfl, by go_num, I2.out.drewN _, OB2.out, below_drewN BL2.out _⟩
          case measure => simp [intOf]; omega
        · go_wp2_with fail
          exact bodyPost_ret (v := .tuple #[.pointer (some ⟨w.heap.size, 0, none⟩), .int .i64 a, .int .i64 f, .bool true]) (by simp [results, Try.results12, go_sem]) rfl ⟨a, f, o, A, rfl, by omega, I2.out, KP.out, BL2.out⟩
end Go.Proofs.Ytndiaflbagikoaa

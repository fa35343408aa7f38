/- List. -/
import Derived.Test.YtndiaflbagikoaaH
namespace Go.Proofs.Ytndiaflbagikoaa
open Go.ChangeShapes Go.WideShapes Go.ChangeAt Go.RowKit

theorem info3 : (Try.prog.info? 3).map (fun i => (i.zero, i.size, i.bytes)) = some (some (.int .i64 0), 1, 8) := by kernel_rfl
/-- A number as a cell. -/
def cellN (n : Nat) : Value := .int .i64 n
/-- The slots in use below k. -/
def Ar.upTo (A : Ar) (k : Nat) : List Nat := (List.range k).filter A.inUse
def Ar.list (A : Ar) : List Nat := A.upTo A.begun
theorem upTo_len (A : Ar) (k : Nat) : (A.upTo k).length ≤ k := by
  unfold Ar.upTo; have := List.length_filter_le A.inUse (List.range k); simpa using this
theorem upTo_yes {A : Ar} {k : Nat} (h : A.inUse k = true) : A.upTo (k + 1) = A.upTo k ++ [k] := by
  simp [Ar.upTo, List.range_succ, h]
theorem upTo_no {A : Ar} {k : Nat} (h : A.inUse k = false) : A.upTo (k + 1) = A.upTo k := by
  simp [Ar.upTo, List.range_succ, h]
/-- A slice of the call's own, as a list of numbers. -/
theorem ints_of_own {w : World} {B n : Nat} {v : Value} {xs : List Nat} (h : w.ownsRow B 3 1 v n (xs.map cellN)) (hx : ∀ x ∈ xs, x ≤ 65536) :
    ∃ a cap, v = .slice a n cap ∧ IsInts .i64 w a n cap (xs.map fun (x : Nat) => (x : Int)) ∧ ∀ g, v.ownBlock = some g → B ≤ g ∧ g < w.heap.size := by
  have hl : xs.length = n := by simpa using h.1
  rcases h.2 with ⟨rfl, h0⟩ | ⟨g, cap, cur, rfl, hg, hh, hnc, hcm, hcs, htake⟩
  · have hx0 : xs = [] := List.eq_nil_of_length_eq_zero (by omega)
    subst hx0
    exact ⟨none, 0, by rw [h0], by rw [h0]; exact IsInts.nil _ _, fun g hg => by simp [Value.ownBlock] at hg⟩
  · refine ⟨some ⟨g, 0, none⟩, cap, rfl, ⟨by simp [hl], hnc, hcm, fun _ => ⟨g, 0, rfl, lt_of_block hh, fun i hi => ?_⟩, fun y hy => ?_⟩, fun g' hg' => ?_⟩
    · simp at hi
      rw [cell_of hh, Nat.zero_add]
      have h1 : (cur.toList.take (n * 1))[i]? = some (cellN xs[i]) := by rw [htake]; simp [hi]
      rw [List.getElem?_take] at h1
      rw [if_pos (by omega)] at h1
      simp [hi]
      simpa [cellN] using h1
    · simp at hy
      obtain ⟨x, hx', rfl⟩ := hy
      have := hx x hx'
      exact WalkArith.wf_i64 (by omega)
    · simp [Value.ownBlock] at hg'
      subst hg'
      exact ⟨hg, lt_of_block hh⟩

def ListRel (w : World) (A : Ar) (v vi : Value) (wr : World) : Prop :=
  ∃ k : Nat, k ≤ A.begun ∧ vi = .int .i64 k ∧ wr.ownsRow w.heap.size 3 1 v (A.upTo k).length ((A.upTo k).map cellN) ∧ Below w.heap.size w wr
def ListPost (w : World) (A : Ar) (e : Ending) (w' : World) : Prop :=
  ∃ a cap, e = .returned (.slice a A.list.length cap) ∧ IsInts .i64 w' a A.list.length cap (A.list.map fun (x : Nat) => (x : Int)) ∧ (∀ g o s, a = some ⟨g, o, s⟩ → w.heap.size ≤ g ∧ g < w'.heap.size) ∧ Below w.heap.size w w'

set_option maxHeartbeats 1000000 in
theorem list_is {w : World} {b : Nat} {A : Ar} {F : Nat → Prop} (h : IsAr w b A F) : Calls Try.prog 21 #[.pointer (some ⟨b, 0, none⟩)] w (ListPost w A) := by
  obtain ⟨bs, v, h1, h2, h3, h4⟩ := h
  have hmax : A.begun ≤ 65536 := Nat.le_trans h3.le h3.max
  obtain ⟨c0, c1, c2, c3, c4, c5⟩ := h1.cells
  obtain ⟨i0, hi, hz0, hz1, hz2⟩ := info_parts info3
  have H := Lib.hid h1; have H2 := Lib.hid h2; have H3 := Lib.hid h3
  clear h1 h2 h3 h4 c1 c2 c5
  generalize hu : A.begun - A.stack.length = used at *
  have hul : used ≤ 65536 := by omega
  clear hu
  go_enter Try.func21, Try.ntmps21
  go_wp2_with (first | (go_at_call 31; refine (valid_yes _ _ c0).mono ?_; rintro e w' ⟨rfl, rfl⟩) | (at_make; refine wpList_make_own _ rfl _ _ 32 rfl w.heap.size 3 i0 (.int .i64 0) 1 Try.underlying32 hi hz0 hz1 .i64 .i64 _ used rfl rfl rfl (by rw [hz2]; omega) (by unfold maxLen; omega) (Nat.le_refl _) ?_; intro w0 hown0 hgrow0; have hb0 := Below.grown (Below.refl w.heap.size w) hgrow0 (Nat.le_refl _) (fun k h => by cases h); have c3' := (hb0.cell (p := ⟨b, 3, none⟩) (lt_of_cell c3)).trans c3; have OW0 := Lib.hid hown0; have HB0 := Lib.hid hb0; clear hown0 hgrow0 hb0))
  go_loopw [3, 17] (fun v vi wr => ListRel w A v vi wr) (fun _ vi _ => A.begun - (intOf vi).toNat)
  case atStart => exact ⟨0, Nat.zero_le _, rfl, OW0.out, HB0.out⟩
  case round =>
    clear c3'
    obtain ⟨k, hk, rfl, ho, hb⟩ := hrel
    have OW := Lib.hid ho; have HB := Lib.hid hb; clear ho hb
    have HM := Lib.hid (H.out.keep (Touch.of_below HB.out (fun _ => False)) (fun _ _ h => h))
    have hup := upTo_len A k
    by_cases hlt : k < A.begun
    · have hkb : k / 64 < bs.length := by have := H2.out; omega
      have ST := Lib.hid (state_in HM.out k hlt hkb (by omega))
      have SU := Lib.hid (sl_use hlt)
      cases huse : A.inUse k
      · have hq : ((A.sl k).st == 1) = false := by rw [SU.out, huse]
        have HU := Lib.hid (upTo_no huse)
        clear huse
        go_wp2_with (go_at_call 32; refine (ST.out).mono ?_; rintro e w' ⟨rfl, rfl⟩)
        go_roundw
        case rel => exact ⟨k + 1, by omega, by go_num, by rw [HU.out]; exact OW.out, HB.out⟩
        case measure => simp [intOf]; omega
      · have hq : ((A.sl k).st == 1) = true := by rw [SU.out, huse]
        have HU := Lib.hid (upTo_yes huse)
        clear huse
        go_wp2_with (first | (go_at_call 32; refine (ST.out).mono ?_; rintro e w' ⟨rfl, rfl⟩) | (at_builtin; refine wpList_append_own _ rfl (.tmp 24) (.tmp 26) 32 rfl w.heap.size 3 i0 (.int .i64 0) 1 8 Try.underlying32 hi hz0 hz1 hz2 rfl (by decide) _ _ _ rfl (OW.out.alloc _) ⟨wr.heap.size, 0, none⟩ 1 1 [cellN k] rfl rfl ?_ ?_ ?_ ?_ ?_ ?_))
        · intro j u hj
          match j, hj with
          | 0, hj => simp at hj; subst hj; simp [Addr.add, cellN]
        · intro u hu; simp at hu; subst hu; rfl
        · unfold maxLen; omega
        · omega
        · have := HB.out.size; simp; omega
        · intro v' w1 ho hg _
          have OW1 := Lib.hid ho
          have HB1 := Lib.hid ((Below.alloc HB.out HB.out.size _).grown hg (by have := HB.out.size; simp; omega) (fun g hg' => by
            rcases OW.out.2 with ⟨e, _⟩ | ⟨g', _, _, e, hb, _⟩
            · rw [e] at hg'; cases hg'
            · rw [e] at hg'; cases hg'; exact hb))
          clear ho hg
          go_wp2_with fail
          go_roundw
          case rel => exact ⟨k + 1, by omega, by go_num, by rw [HU.out]; simpa using OW1.out, HB1.out⟩
          case measure => simp [intOf]; omega
    · have hkb : k = A.begun := by omega
      subst hkb
      obtain ⟨a, cap, hv, hin, hfr⟩ := ints_of_own OW.out (fun x hx => by
        have := (List.mem_filter.1 hx).1
        simp at this; omega)
      have HI := Lib.hid hin; have HF := Lib.hid hfr
      clear hin hfr
      subst hv
      go_wp2_with fail
      go_ret
      exact ⟨a, cap, rfl, HI.out, fun g o s e => HF.out g (by rw [e]; rfl), HB.out⟩
end Go.Proofs.Ytndiaflbagikoaa

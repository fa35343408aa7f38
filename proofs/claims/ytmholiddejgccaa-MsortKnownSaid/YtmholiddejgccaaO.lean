/- The document's Perm. -/
import Derived.Test.YtmholiddejgccaaL
import Derived.BigRegion
namespace Go.Proofs.Ytmholiddejgccaa
open Go.ChangeShapes Go.WideShapes Go.ChangeAt Go.RowKit

theorem row_set {w : World} {e : TypeId} {v : Value} {n : Nat} {xs : List Value} (h : w.ownsRow 0 e 1 v n xs) {g : Nat} (hv : v.ownBlock = some g) {k : Nat} (u : Value) :
    (w.setCell ⟨g, k, none⟩ u).ownsRow 0 e 1 v n (xs.set k u) := by
  obtain ⟨h1, h2⟩ := h
  refine ⟨by simpa using h1, ?_⟩
  rcases h2 with ⟨e1, _⟩ | ⟨g', cap, cur, hv', hb, hg, hnc, hcm, hcs, htake⟩
  · rw [e1] at hv; cases hv
  · rw [hv'] at hv; cases hv
    refine Or.inr ⟨g', cap, cur.setIfInBounds k u, hv', hb, set_of hg k u, hnc, hcm, by simpa using hcs, ?_⟩
    rw [← htake, Array.toList_setIfInBounds, List.take_set]
theorem row_at {w : World} {e : TypeId} {v : Value} {n : Nat} {xs : List Value} (h : w.ownsRow 0 e 1 v n xs) {k : Nat} (hk : k < n) :
    ∃ g cap cur, v = .slice (some ⟨g, 0, none⟩) n cap ∧ n ≤ cap ∧ cap ≤ maxLen ∧ w.heap[g]? = some (.cells cur e (0, 0)) ∧ ∀ i, i < n → cur[i]? = xs[i]? := by
  have hl : xs.length = n := by simpa using h.1
  rcases h.2 with ⟨_, h0⟩ | ⟨g, cap, cur, hv, _, hg, hnc, hcm, hcs, htake⟩
  · omega
  · refine ⟨g, cap, cur, hv, hnc, hcm, hg, fun i hi => ?_⟩
    have h1 : (cur.toList.take (n * 1))[i]? = xs[i]? := by rw [htake]
    rw [List.getElem?_take, if_pos (by omega)] at h1
    simpa using h1
theorem flatN_eq (l : List Nat) : flat encN l = l.map evN := by
  induction l with
  | nil => rfl
  | cons x r ih => simp only [flat, List.flatMap_cons, List.map_cons] at ih ⊢; rw [ih]; rfl
theorem flatN_set (l : List Nat) (k x : Nat) : (flat encN l).set k (.int .i64 (x : Nat)) = flat encN (l.set k x) := by
  rw [flatN_eq, flatN_eq, List.map_set]; rfl
theorem OutR.set {w : World} {B : Nat} {v : Value} {l : List Nat} (h : OutR 1 encN 3 w B v l) {g : Nat} (hv : v.ownBlock = some g) (k x : Nat) : OutR 1 encN 3 (w.setCell ⟨g, k, none⟩ (.int .i64 (x : Nat))) B v (l.set k x) := by
  refine ⟨?_, h.blk⟩
  have := row_set h.row hv (k := k) (.int .i64 (x : Nat))
  rw [flatN_set] at this
  simpa using this
theorem swap_list (P Q : List Nat) (p i : Nat) : ((P ++ p :: i :: Q).set (P.length + 1) p).set P.length i = P ++ i :: p :: Q := by
  induction P with
  | nil => rfl
  | cons a P ih => simp
def RPermRel (w : World) (lu : Nat → Nat → Bool) (n : Nat) (vo vi : Value) (wr : World) : Prop :=
  ∃ i : Nat, i ≤ n ∧ vi = .int .i64 i ∧ OutR 1 encN 3 wr w.heap.size vo (ins lu i) ∧ Below w.heap.size w wr
def RPermRel2 (w : World) (lu : Nat → Nat → Bool) (i : Nat) (vo vj : Value) (wr : World) : Prop :=
  ∃ P Q : List Nat, vj = .int .i64 P.length ∧ P ++ Q = ins lu i ∧ insR lu i (ins lu i).reverse = Q.reverse ++ insR lu i P.reverse ∧ OutR 1 encN 3 wr w.heap.size vo (P ++ i :: Q) ∧ Below w.heap.size w wr
theorem ins_len (lu : Nat → Nat → Bool) (i : Nat) : (ins lu i).length = i := by rw [(ins_perm i).length_eq]; simp
theorem ins_lt {lu : Nat → Nat → Bool} {i x : Nat} (h : x ∈ ins lu i) : x < i := by have := (ins_perm i).mem_iff.1 h; simpa using this
set_option maxRecDepth 100000 in
set_option maxHeartbeats 8000000 in
theorem rperm_yes {k : Int} (hk : kn k) {w : World} {aa : Option Addr} {la ca : Nat} {zs : List Rc} (h : IsSl 4 encR w aa la ca zs) (hl : la ≤ 65536) :
    Calls Try.prog 19 #[.slice aa la ca, .int .i64 k] w fun e w' => ∃ v', e = .returned (.tuple #[v', .int .i64 0]) ∧ OutR 1 encN 3 w' w.heap.size v' (ins (ltI (ltK k) zs) zs.length) ∧ Below w.heap.size w w' := by
  have HC := Lib.hid (fun w => rcheck_ok hk (n := la) (by omega) w)
  have HL := Lib.hid (fun W x y => rbefore hk x y W)
  have hal := h.hlen; have hac := h.hle; have ham := h.hmax
  unfold maxLen at ham
  have H := Lib.hid h
  clear hk h
  have HLI : Hid (∀ i j, ltI (ltK k) zs i j = ltK k (zs.getD i d0) (zs.getD j d0)) := Lib.hid (fun _ _ => rfl)
  generalize ltI (ltK k) zs = lu at *
  generalize ltK k = lt at *
  have HAL := Lib.hid hal
  clear hal
  obtain ⟨i0, hi, hz0, hz1, hz2⟩ := info_parts info3
  go_enter Try.func19, Try.ntmps19
  go_wp2_with fail
  refine (HC.out _).mono ?_; rintro e w' ⟨rfl, rfl⟩
  go_wp2_with fail
  go_loopw [7, 8, 9] (fun vo vi _ wr => RPermRel w lu la vo vi wr) (fun _ vi _ _ => la - (intOf vi).toNat)
  case atStart => exact ⟨0, Nat.zero_le _, rfl, ⟨World.ownsRow_nil _ _ _ _, fun g h => by cases h⟩, Below.refl _ _⟩
  case round =>
    obtain ⟨i, hil, rfl, ho, hbl⟩ := hrel
    have BL := Lib.hid hbl; have O := Lib.hid ho
    have hbw := hbl.size
    have OROW := Lib.hid (show wr.ownsRow 0 3 1 u7 i (flat encN (ins lu i)) by have := ho.row; rwa [ins_len] at this)
    clear hbl ho
    by_cases hlt : i < la
    · go_wp2_with (at_builtin; refine wpList_append_slice _ rfl (.tmp 23) (.tmp 25) 35 rfl 3 i0 (.int .i64 0) 1 8 Try.underlying35 hi hz0 hz1 hz2 rfl (by decide) _ _ _ rfl (OROW.out.alloc _) (some ⟨wr.heap.size, 0, none⟩) 1 1 (encN i) rfl rfl (fun h => (by cases h)) ?_ (encN_one i) ?_ ?_ ?_)
      · intro a ha; cases ha
        intro j u hj
        rw [addr_add, cell_of (block_new _ _), Nat.zero_add]
        simpa [encN] using hj
      · unfold maxLen; omega
      · omega
      · intro v1 w1 hr1 hg1 hn1
        have G := O.out.grow (ys := [i]) (Below.alloc (Below.refl _ _) (Nat.le_refl _) _) hbw (by rw [ins_len]; simpa [flat] using hr1) hg1 (fun g hg' => (hn1 g hg').imp id (fun h => by simpa using h))
        obtain ⟨g, cap, cur, hv1, hnc, hcm, hg0, _⟩ := row_at hr1 (k := i) (by omega)
        subst hv1
        have O1 := Lib.hid G.1; have B1 := Lib.hid (BL.out.trans G.2.2.1)
        clear hr1 hg1 hn1 G hg0
        unfold maxLen at hcm
        obtain ⟨wo, rfl⟩ : ∃ wo : World, wo = w1 := ⟨_, rfl⟩
        go_wp2_with fail
        go_loopw [9] (fun vj wr => RPermRel2 w lu i (.slice (some ⟨g, 0, none⟩) (i + 1) cap) vj wr) (fun vj _ => (intOf vj).toNat)
        case atStart => exact ⟨ins lu i, [], by rw [ins_len], by simp, by simp, O1.out, B1.out⟩
        case round =>
          clear O1 B1 OROW O BL hbw
          obtain ⟨P, Q, rfl, hpq, hins, ho, hbl⟩ := hrel
          have BL := Lib.hid hbl; have O := Lib.hid ho; have PQ := Lib.hid hpq; have INS := Lib.hid hins
          have hbw := hbl.size
          have hpl : P.length ≤ i := by have := ins_len lu i; rw [← hpq] at this; simp at this; omega
          clear hbl ho hpq hins
          rcases List.eq_nil_or_concat P with rfl | ⟨P', p, rfl⟩
          · have hfin : insR lu i (ins lu i).reverse = ([] ++ i :: Q).reverse := by rw [INS.out]; simp [insR]
            have HFIN := Lib.hid hfin
            have hd0 : decide ((0 : Int) < 0) = false := by decide
            clear hfin
            go_wp2_with fail
            go_quiet (fail)
            go_wp2_with fail
            go_roundw
            case rel => exact ⟨i + 1, by omega, by go_num, by rw [show ins lu (i + 1) = [] ++ i :: Q from by show (insR lu i (ins lu i).reverse).reverse = _; rw [HFIN.out, List.reverse_reverse]]; exact O.out.below (below_drewN (Below.refl _ _) _), below_drewN BL.out _⟩
            case measure => simp [intOf]; omega
          · have hp : p < i := ins_lt (lu := lu) (by rw [← PQ.out]; simp)
            rw [List.concat_eq_append] at *
            have hpl' : P'.length + 1 ≤ i := by simpa using hpl
            clear hpl
            have ho2 := O.out
            rw [List.append_assoc, List.singleton_append] at ho2
            have O2 := Lib.hid ho2
            have hS := IsSl.of_own encN_len (n := i + 1) (by have := ho2.row; rwa [show (P' ++ p :: i :: Q).length = i + 1 by have h1 := ins_len lu i; rw [← PQ.out] at h1; simp at h1 ⊢; omega] at this) (by have h1 := ins_len lu i; rw [← PQ.out] at h1; simp at h1 ⊢; omega)
            have cj := at1 hS (i := P'.length + 1) (by simp)
            have cj' := at1 hS (i := P'.length) (by simp)
            simp at cj cj'
            clear ho2 hS
            obtain ⟨b, off, rfl, hbw2, _⟩ := H.out.at_ (by intro h; have := HAL.out; rw [h] at this; simp at this; omega)
            have HW := Lib.hid (H.out.below BL.out)
            obtain ⟨x0, x1, x2, x3⟩ := at4 HW.out (show i < zs.length by have := HAL.out; omega) d0
            obtain ⟨y0, y1, y2, y3⟩ := at4 HW.out (show p < zs.length by have := HAL.out; omega) d0
            rw [List.length_append, List.length_singleton]
            generalize hL : P'.length = L at *
            have HL' := Lib.hid hL
            clear hL
            have q1 : IntKind.i64.wrap ((L : Int) + 1 - 1) = (L : Int) := by rw [show (L : Int) + 1 - 1 = L by omega]; exact IntWalk.i64_in _ (by omega)
            have q1' : IntKind.i64.wrap (L : Int) = (L : Int) := IntWalk.i64_in _ (by omega)
            have q2 : (0 : Int) ≤ (L : Int) := by omega
            have q3 : (L : Int) < (i : Int) + 1 := by omega
            have q4 : (L : Int) + 1 < (i : Int) + 1 := by omega
            have q5 : (0 : Int) < (L : Int) + 1 := by omega
            have q5' : (0 : Int) ≤ (L : Int) + 1 := by omega
            have q6 : ((L : Int) + 1).toNat = L + 1 := by omega
            have q7 : (i : Int) < (la : Int) := by omega
            have q8 : (p : Int) < (la : Int) := by omega
            have CL := Lib.hid (fun W => HL.out W (zs.getD i d0) (zs.getD p d0))
            have hlu := HLI.out i p
            cases hres : lt (zs.getD i d0) (zs.getD p d0)
            · rw [hres] at CL hlu
              have hfin : insR lu i (ins lu i).reverse = (P' ++ p :: i :: Q).reverse := by
                rw [INS.out]; simp [insR, hlu]
              have HFIN := Lib.hid hfin
              clear hres hlu hfin
              generalize zs.getD i d0 = x at *
              generalize zs.getD p d0 = y at *
              go_wp2_with fail
              go_still_tail 19, (by kernel_rfl)
              go_wp2_with fail
              refine (CL.out _).mono ?_; rintro e w3 ⟨rfl, hb⟩
              have hb3 : Below wr.heap.size wr w3 := (Below.drew (Below.refl _ _)).trans hb
              have O3 := Lib.hid (O2.out.below hb3); have BL3 := Lib.hid (BL.out.trans (hb3.mono hbw))
              clear hb hb3 x0 x1 x2 x3 y0 y1 y2 y3 cj cj'
              go_wp2_with fail
              go_roundw
              case rel => exact ⟨i + 1, by omega, by go_num, by rw [show ins lu (i + 1) = P' ++ p :: i :: Q from by show (insR lu i (ins lu i).reverse).reverse = _; rw [HFIN.out, List.reverse_reverse]]; exact O3.out, BL3.out⟩
              case measure => simp [intOf]; omega
            · rw [hres] at CL hlu
              have hins2 : insR lu i (ins lu i).reverse = (p :: Q).reverse ++ insR lu i P'.reverse := by
                rw [INS.out]; simp [insR, hlu]
              have INS2 := Lib.hid hins2
              clear hres hlu hins2
              generalize zs.getD i d0 = x at *
              generalize zs.getD p d0 = y at *
              go_wp2_with fail
              go_still_tail 19, (by kernel_rfl)
              go_wp2_with fail
              refine (CL.out _).mono ?_; rintro e w3 ⟨rfl, hb⟩
              have hb3 : Below wr.heap.size wr w3 := (Below.drew (Below.refl _ _)).trans hb
              have O3 := Lib.hid (O2.out.below hb3); have BL3 := Lib.hid (BL.out.trans (hb3.mono hbw))
              have c1 := (hb3.cell (p := ⟨g, L + 1, none⟩) (lt_of_cell cj)).trans cj
              have c2 := (hb3.cell (p := ⟨g, L, none⟩) (lt_of_cell cj')).trans cj'
              clear hb hb3 x0 x1 x2 x3 y0 y1 y2 y3 cj cj'
              obtain ⟨g', cap', cur, hv, _, _, hgb, _⟩ := row_at O3.out.row (k := 0) (by simp; omega)
              simp only [Value.slice.injEq, Option.some.injEq, Addr.mk.injEq] at hv
              obtain ⟨⟨rfl, -⟩, -, rfl⟩ := hv
              have f1 := free_of hgb (L + 1)
              have f2 := free_of hgb L
              have f3 := free_of (set_of hgb (L + 1) (.int .i64 (p : Nat))) L
              clear hgb
              go_wp2_with fail
              go_region
              all_goals
                go_wp2_with fail
                have S1 := (O3.out.set (g := g) rfl (L + 1) p).set (g := g) rfl L i
                rw [← HL'.out, swap_list] at S1
                have S2 := Lib.hid S1
                have BL4 := Lib.hid (((BL3.out.setCell (p := ⟨g, L + 1, none⟩) (O3.out.blk g rfl) (.int .i64 (p : Nat))).setCell (p := ⟨g, L, none⟩) (O3.out.blk g rfl) (.int .i64 (i : Nat))))
                clear S1
                go_roundw
                case rel => exact ⟨P', p :: Q, by rw [HL'.out], by rw [← PQ.out]; simp, INS2.out, by rw [← HL'.out]; exact S2.out.below (Below.drew (Below.refl _ _)), Below.drew BL4.out⟩
                case measure => simp [intOf]
    · obtain rfl : i = la := by omega
      go_wp2_with fail
      go_ret2
      exact ⟨_, rfl, by rw [← HAL.out]; exact O.out, BL.out⟩
end Go.Proofs.Ytmholiddejgccaa

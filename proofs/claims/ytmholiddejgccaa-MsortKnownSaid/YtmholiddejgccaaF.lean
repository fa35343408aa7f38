/- merge, at indexes. Printed by merge.py. -/
import Derived.Test.YtmholiddejgccaaD
import Derived.StillTailTactics
namespace Go.Proofs.Ytmholiddejgccaa
open Go.ChangeShapes Go.WideShapes Go.ChangeAt Go.RowKit

def MRelN {m : Nat} (lt : (Fin m) → (Fin m) → Bool) (w0 : World) (B : Nat) (ys ps qs : List (Fin m)) (vo va vb vp : Value) (wr : World) : Prop :=
  ∃ (ys' ps' qs' : List (Fin m)) (p : Nat) (aa : Option Addr) (la ca : Nat) (ab : Option Addr) (lb cb : Nat), va = .slice aa la ca ∧ vb = .slice ab lb cb ∧ vp = .int .i64 p ∧ OutR 1 encF 3 wr B vo ys' ∧ IsSl 1 encF wr aa la ca ps' ∧ IsSl 1 encF wr ab lb cb qs' ∧
    (∀ x, aa = some x → x.block < wr.heap.size ∧ vo.ownBlock ≠ some x.block) ∧ (∀ x, ab = some x → x.block < wr.heap.size ∧ vo.ownBlock ≠ some x.block) ∧
    ys' ++ mrg lt ps' qs' = ys ++ mrg lt ps qs ∧ p + mprs lt ps' qs' = mprs lt ps qs ∧ ys'.length + ps'.length + qs'.length = ys.length + ps.length + qs.length ∧ ps'.length ≤ ps.length ∧ Below B w0 wr
set_option maxRecDepth 100000 in
set_option maxHeartbeats 4000000 in
theorem mergeN {m : Nat} {f : Nat} {caps : Array Value} {lt : Fin m → Fin m → Bool} {w0 : World} {B : Nat} (hent : ∀ (args : Array Value) (w : World), (callFunc f args).run Try.prog w = .ok (.enter f args) w)
    (HL : ∀ W, Below B w0 W → ∀ x y, Calls Try.prog f (#[evF x, evF y] ++ caps) W fun e w' => e = .returned (.bool (lt x y)) ∧ Below W.heap.size W w')
    {w : World} (hw : Below B w0 w) (hB : B ≤ w0.heap.size) {vo : Value} {aa ab : Option Addr} {la ca lb cb : Nat} {ys ps qs : List (Fin m)} (ho : OutR 1 encF 3 w B vo ys) (ha : IsSl 1 encF w aa la ca ps) (hb : IsSl 1 encF w ab lb cb qs)
    (sa : ∀ x, aa = some x → x.block < w.heap.size ∧ vo.ownBlock ≠ some x.block) (sb : ∀ x, ab = some x → x.block < w.heap.size ∧ vo.ownBlock ≠ some x.block) (hN : ys.length + ps.length + qs.length ≤ 131072) :
    Calls Try.prog 44 #[vo, .slice aa la ca, .slice ab lb cb, .func (.func f) #[] caps] w fun e w' => ∃ v', e = .returned (.tuple #[v', .int .i64 (mprs lt ps qs : Nat)]) ∧ OutR 1 encF 3 w' B v' (ys ++ mrg lt ps qs) ∧ Below B w0 w' := by
  have hm : mprs lt ps qs ≤ 17179869184 := by
    have h1 := mprs_le (lt := lt) ps qs
    have h2 : ps.length * qs.length ≤ 131072 * 131072 := Nat.mul_le_mul (by omega) (by omega)
    omega
  obtain ⟨so, sco, rfl⟩ : ∃ a c, vo = .slice a ys.length c := own_shape ho.row
  obtain ⟨i0, hi, hz0, hz1, hz2⟩ := info_parts info3
  have HO := Lib.hid ho; have HA := Lib.hid ha; have HB := Lib.hid hb; have SA := Lib.hid sa; have SB := Lib.hid sb; have HW := Lib.hid hw; have HLL := Lib.hid HL
  have hB0 : B ≤ w.heap.size := Nat.le_trans hB hw.size
  clear ho ha hb sa sb hw HL
  go_enter Try.func44, Try.ntmps44
  go_wp2_with fail
  go_loopw [0, 1, 2, 10] (fun vo va vb vp wr => MRelN lt w0 B ys ps qs vo va vb vp wr) (fun _ va vb _ _ => lenV va + lenV vb)
  case atStart => exact ⟨ys, ps, qs, 0, aa, la, ca, ab, lb, cb, rfl, rfl, rfl, HO.out, HA.out, HB.out, SA.out, SB.out, rfl, by simp, rfl, Nat.le_refl _, HW.out⟩
  case round =>
    clear HO HA HB SA SB HW hB0
    obtain ⟨ys', ps', qs', p, aa, la, ca, ab, lb, cb, rfl, rfl, rfl, ho, ha, hb, sa, sb, hmr, hpr, hln, hla, hbl⟩ := hrel
    have hal := ha.hlen; have hbl' := hb.hlen
    have hac := ha.hle; have hbc := hb.hle; have ham := ha.hmax; have hbm := hb.hmax
    unfold maxLen at ham hbm
    obtain ⟨so, sco, hso⟩ : ∃ a c, u0 = .slice a ys'.length c := own_shape ho.row
    subst hso
    have HO := Lib.hid ho; have HA := Lib.hid ha; have HB := Lib.hid hb; have SA := Lib.hid sa; have SB := Lib.hid sb; have BL := Lib.hid hbl
    have HMR := Lib.hid hmr; have HPR := Lib.hid hpr
    have hbw : B ≤ wr.heap.size := Nat.le_trans hB hbl.size
    clear ho ha hb sa sb hbl hmr
    cases ps' with
    | cons x ra =>
      cases qs' with
      | cons y rb =>
        have hla0 : 0 < la := by rw [hal]; simp
        have hlb0 : 0 < lb := by rw [hbl']; simp
        have HAL := Lib.hid hal; have HBL := Lib.hid hbl'
        clear hal hbl'
        obtain ⟨ba, oa, rfl, hba, hca⟩ := HA.out.at_ (by simp)
        obtain ⟨bb, ob, rfl, hbb, hcb⟩ := HB.out.at_ (by simp)
        clear hca hcb
        obtain ⟨x0, _⟩ := head1 HA.out
        obtain ⟨y0, _⟩ := head1 HB.out
        go_wp2_with fail
        go_still_tail 7, (by kernel_rfl)
        go_wp2_with fail
        refine (HLL.out _ (Below.drew BL.out) y x).mono ?_; rintro e w3 ⟨rfl, hb3⟩
        have hb3' : Below wr.heap.size wr w3 := (Below.drew (Below.refl _ _)).trans hb3
        have HO3 := Lib.hid (HO.out.below hb3'); have HA3 := Lib.hid (HA.out.below hb3'); have HB3 := Lib.hid (HB.out.below hb3'); have BL3 := Lib.hid (BL.out.trans (hb3'.mono hbw))
        have hs3 := hb3'.size
        have hbw3 : B ≤ w3.heap.size := Nat.le_trans hbw hs3
        clear hb3 hb3' x0 y0
        cases hlt : lt y x
        · obtain ⟨x0, _⟩ := head1 HA3.out
          have e1 := mrg_no (a := ra) (b := rb) hlt
          have e2 := mprs_no (a := ra) (b := rb) hlt
          have HLT := Lib.hid hlt
          have E1 := Lib.hid e1; have E2 := Lib.hid e2
          clear hlt e1 e2
          by_cases hc1 : ca = 1
          all_goals
            go_wp2_with (at_builtin; refine wpList_append_slice _ rfl (.tmp 39) (.tmp 43) 35 rfl 3 i0 (.int .i64 0) 1 8 Try.underlying35 hi hz0 hz1 hz2 rfl (by decide) _ _ _ rfl (HO3.out.row.alloc _) (some ⟨w3.heap.size, 0, none⟩) 1 1 (encF x) rfl rfl (fun h => (by cases h)) ?_ (encF_one x) ?_ ?_ ?_)
            · intro a ha; cases ha
              exact newsN w3 x
            · unfold maxLen; omega
            · omega
            · intro v' w4 hro hg hn
              have G := HO3.out.grow (ys := [x]) (Below.alloc (Below.refl _ _) (Nat.le_refl _) _) hbw3 (by simpa [flat] using hro) hg (fun g hg' => (hn g hg').imp id (fun h => by simpa using h))
              obtain ⟨v1, v2, hv'⟩ : ∃ a c, v' = .slice a (ys'.length + 1) c := own_shape hro
              subst hv'
              have G1 := Lib.hid G.1; have G2 := Lib.hid G.2.1; have G3 := Lib.hid (BL3.out.trans (G.2.2.1)); have G4 := Lib.hid G.2.2.2
              clear hro hg hn G x0
              go_wp2_with fail
              go_roundw
              case rel =>
                refine ⟨ys' ++ [x], ra, y :: rb, p, _, _, _, _, _, _, rfl, rfl, rfl, G1.out, ?_, HB3.out.keep G2.out (fun _ z hz hs => (SB.out z hz).2 hs), ?_, ?_, ?_, ?_, ?_, ?_, G3.out⟩
                · have := (HA3.out.drop (k := 1) (by omega)).keep G2.out (fun _ z hz hs => (SA.out ⟨ba, oa, none⟩ rfl).2 (by rw [hs]; split at hz <;> cases hz <;> rfl))
                  simpa [hc1] using this
                · intro z hz
                  have hz' : z.block = ba := by cases hz; rfl
                  rw [hz']
                  exact ⟨Nat.lt_of_lt_of_le hba (Nat.le_trans hs3 G2.out.size), fun h => (G4.out _ h).elim (SA.out ⟨ba, oa, none⟩ rfl).2 (fun h => by omega)⟩
                · intro z hz
                  have hz' : z.block = bb := by cases hz; rfl
                  rw [hz']
                  exact ⟨Nat.lt_of_lt_of_le hbb (Nat.le_trans hs3 G2.out.size), fun h => (G4.out _ h).elim (SB.out ⟨bb, ob, none⟩ rfl).2 (fun h => by omega)⟩
                · rw [← HMR.out, E1.out]; simp
                · rw [← HPR.out, E2.out]
                · simp at hln ⊢; omega
                · simp at hla; omega
              case measure => simp [lenV]; omega
        · obtain ⟨y0, _⟩ := head1 HB3.out
          have e1 := mrg_yes (a := ra) (b := rb) hlt
          have e2 := mprs_yes (a := ra) (b := rb) hlt
          have HLT := Lib.hid hlt
          have E1 := Lib.hid e1; have E2 := Lib.hid e2
          have hpl : p + la ≤ 17179869184 := by have := HPR.out; rw [e2] at this; have := HAL.out; simp at this; omega
          clear hlt e1 e2
          by_cases hc1 : cb = 1
          all_goals
            go_wp2_with (at_builtin; refine wpList_append_slice _ rfl (.tmp 27) (.tmp 31) 35 rfl 3 i0 (.int .i64 0) 1 8 Try.underlying35 hi hz0 hz1 hz2 rfl (by decide) _ _ _ rfl (HO3.out.row.alloc _) (some ⟨w3.heap.size, 0, none⟩) 1 1 (encF y) rfl rfl (fun h => (by cases h)) ?_ (encF_one y) ?_ ?_ ?_)
            · intro a ha; cases ha
              exact newsN w3 y
            · unfold maxLen; omega
            · omega
            · intro v' w4 hro hg hn
              have G := HO3.out.grow (ys := [y]) (Below.alloc (Below.refl _ _) (Nat.le_refl _) _) hbw3 (by simpa [flat] using hro) hg (fun g hg' => (hn g hg').imp id (fun h => by simpa using h))
              obtain ⟨v1, v2, hv'⟩ : ∃ a c, v' = .slice a (ys'.length + 1) c := own_shape hro
              subst hv'
              have G1 := Lib.hid G.1; have G2 := Lib.hid G.2.1; have G3 := Lib.hid (BL3.out.trans (G.2.2.1)); have G4 := Lib.hid G.2.2.2
              clear hro hg hn G y0
              go_wp2_with fail
              go_roundw
              case rel =>
                refine ⟨ys' ++ [y], x :: ra, rb, p + la, _, _, _, _, _, _, rfl, rfl, by go_num, G1.out, HA3.out.keep G2.out (fun _ z hz hs => (SA.out z hz).2 hs), ?_, ?_, ?_, ?_, ?_, ?_, ?_, G3.out⟩
                · have := (HB3.out.drop (k := 1) (by omega)).keep G2.out (fun _ z hz hs => (SB.out ⟨bb, ob, none⟩ rfl).2 (by rw [hs]; split at hz <;> cases hz <;> rfl))
                  simpa [hc1] using this
                · intro z hz
                  have hz' : z.block = ba := by cases hz; rfl
                  rw [hz']
                  exact ⟨Nat.lt_of_lt_of_le hba (Nat.le_trans hs3 G2.out.size), fun h => (G4.out _ h).elim (SA.out ⟨ba, oa, none⟩ rfl).2 (fun h => by omega)⟩
                · intro z hz
                  have hz' : z.block = bb := by cases hz; rfl
                  rw [hz']
                  exact ⟨Nat.lt_of_lt_of_le hbb (Nat.le_trans hs3 G2.out.size), fun h => (G4.out _ h).elim (SB.out ⟨bb, ob, none⟩ rfl).2 (fun h => by omega)⟩
                · rw [← HMR.out, E1.out]; simp
                · have h1 := HPR.out; have h2 := HAL.out; rw [E2.out] at h1; simp at h2; omega
                · simp at hln ⊢; omega
                · simp at hla ⊢; omega
              case measure => simp [lenV]; omega
      | nil =>
        have hlb0 : lb = 0 := by rw [hbl']; rfl
        subst hlb0
        have hla0 : 0 < la := by rw [hal]; simp
        clear hbl'
        have hpm : p = mprs lt ps qs := by rw [← HPR.out, mprs_nil']; rfl
        have HPM := Lib.hid hpm
        have hmm : (ys' ++ x :: ra) ++ [] = ys ++ mrg lt ps qs := by rw [← HMR.out, mrg_nil']; simp
        have HMM := Lib.hid hmm
        have hl2 : ys'.length + la ≤ 131072 := by rw [hal]; simp at hln ⊢; omega
        clear hpm hmm hal hln
        have hal' := HA.out.hlen
        have hbl'' := HB.out.hlen
        have HAL := Lib.hid hal'; have HBL := Lib.hid hbl''
        clear hal' hbl''
        go_wp2_with (at_builtin; refine wpList_append_slice _ rfl (.tmp 47) (.tmp 48) 35 rfl 3 i0 (.int .i64 0) 1 8 Try.underlying35 hi hz0 hz1 hz2 rfl (by decide) _ _ _ rfl HO.out.row _ _ _ (flat encF (x :: ra)) rfl ?_ ?_ ?_ (flat_one encF_one _) ?_ ?_ ?_)
        · rw [flat_length encF_len, HAL.out]
        · intro h; first | exact ⟨by have := HA.out.hle; have := HA.out.hnone h; omega, HA.out.hnone h⟩ | exact HA.out.hnone h
        · intro a ha
          subst ha
          exact slNews encF_len HA.out
        · unfold maxLen; omega
        · omega
        · intro v1 w1 hr1 hg1 hn1
          have G := HO.out.grow (ys := x :: ra) (Below.refl _ _) hbw (by rw [← HAL.out]; exact hr1) hg1 hn1
          obtain ⟨s1, t1, hv1⟩ : ∃ a c, v1 = .slice a _ c := own_shape hr1
          subst hv1
          have O1 := Lib.hid G.1; have T1 := Lib.hid G.2.1; have B1 := Lib.hid (BL.out.trans G.2.2.1); have N1 := Lib.hid G.2.2.2
          have HB1 := Lib.hid (HB.out.keep G.2.1 (fun _ z hz hs => (SB.out z hz).2 hs))
          have hbw1 : B ≤ w1.heap.size := Nat.le_trans hbw G.2.1.size
          have hol : (ys' ++ (x :: ra)).length = ys'.length + la := by rw [List.length_append, ← HAL.out]
          have HOL := Lib.hid hol
          have OR := Lib.hid (show w1.ownsRow 0 3 1 (.slice s1 (ys'.length + la) t1) (ys'.length + la) (flat encF (ys' ++ (x :: ra))) by rw [← hol]; rw [hol]; have := O1.out.row; rw [hol] at this; exact this)
          clear hr1 hg1 hn1 G hol
          go_wp2_with (at_builtin; refine wpList_append_slice _ rfl (.tmp 50) (.tmp 51) 35 rfl 3 i0 (.int .i64 0) 1 8 Try.underlying35 hi hz0 hz1 hz2 rfl (by decide) _ _ _ rfl OR.out _ _ _ (flat encF (([] : List (Fin m)))) rfl ?_ ?_ ?_ (flat_one encF_one _) ?_ ?_ ?_)
          · rw [flat_length encF_len, HBL.out]
          · intro h; first | exact ⟨by have := HB.out.hle; have := HB.out.hnone h; omega, HB.out.hnone h⟩ | exact HB.out.hnone h
          · intro a ha
            subst ha
            exact slNews encF_len HB1.out
          · unfold maxLen; omega
          · omega
          · intro v2 w2 hr2 hg2 hn2
            have G := O1.out.grow (ys := ([] : List (Fin m))) (Below.refl _ _) hbw1 (by first | (rw [HOL.out, ← HBL.out]; exact hr2) | (rw [← HBL.out]; simpa [flat] using hr2)) hg2 hn2
            have O2 := Lib.hid G.1; have B2 := Lib.hid (B1.out.trans G.2.2.1)
            clear hr2 hg2 hn2 G
            go_wp2_with fail
            go_ret2
            refine ⟨v2, by rw [← HPM.out]; rfl, ?_, B2.out⟩
            rw [← HMM.out]
            exact O2.out
    | nil =>
      have hla0 : la = 0 := by rw [hal]; rfl
      subst hla0
      clear hal
      have hpm : p = mprs lt ps qs := by rw [← HPR.out, mprs_nil]; rfl
      have HPM := Lib.hid hpm
      have hmm : (ys' ++ []) ++ qs' = ys ++ mrg lt ps qs := by rw [← HMR.out, mrg_nil]; simp
      have HMM := Lib.hid hmm
      have hl2 : ys'.length + lb ≤ 131072 := by rw [hbl']; simp at hln ⊢; omega
      clear hpm hmm hbl' hln
      have hal' := HA.out.hlen
      have hbl'' := HB.out.hlen
      have HAL := Lib.hid hal'; have HBL := Lib.hid hbl''
      clear hal' hbl''
      go_wp2_with (at_builtin; refine wpList_append_slice _ rfl (.tmp 47) (.tmp 48) 35 rfl 3 i0 (.int .i64 0) 1 8 Try.underlying35 hi hz0 hz1 hz2 rfl (by decide) _ _ _ rfl HO.out.row _ _ _ (flat encF (([] : List (Fin m)))) rfl ?_ ?_ ?_ (flat_one encF_one _) ?_ ?_ ?_)
      · rw [flat_length encF_len, HAL.out]
      · intro h; first | exact ⟨by have := HA.out.hle; have := HA.out.hnone h; omega, HA.out.hnone h⟩ | exact HA.out.hnone h
      · intro a ha
        subst ha
        exact slNews encF_len HA.out
      · unfold maxLen; omega
      · omega
      · intro v1 w1 hr1 hg1 hn1
        have G := HO.out.grow (ys := ([] : List (Fin m))) (Below.refl _ _) hbw (by rw [← HAL.out]; exact hr1) hg1 hn1
        obtain ⟨s1, t1, hv1⟩ : ∃ a c, v1 = .slice a _ c := own_shape hr1
        subst hv1
        have O1 := Lib.hid G.1; have T1 := Lib.hid G.2.1; have B1 := Lib.hid (BL.out.trans G.2.2.1); have N1 := Lib.hid G.2.2.2
        have HB1 := Lib.hid (HB.out.keep G.2.1 (fun _ z hz hs => (SB.out z hz).2 hs))
        have hbw1 : B ≤ w1.heap.size := Nat.le_trans hbw G.2.1.size
        have hol : (ys' ++ (([] : List (Fin m)))).length = ys'.length + 0 := by rw [List.length_append, ← HAL.out]
        have HOL := Lib.hid hol
        have OR := Lib.hid (show w1.ownsRow 0 3 1 (.slice s1 (ys'.length + 0) t1) (ys'.length + 0) (flat encF (ys' ++ (([] : List (Fin m))))) by rw [← hol]; rw [hol]; have := O1.out.row; rw [hol] at this; exact this)
        clear hr1 hg1 hn1 G hol
        go_wp2_with (at_builtin; refine wpList_append_slice _ rfl (.tmp 50) (.tmp 51) 35 rfl 3 i0 (.int .i64 0) 1 8 Try.underlying35 hi hz0 hz1 hz2 rfl (by decide) _ _ _ rfl OR.out _ _ _ (flat encF (qs')) rfl ?_ ?_ ?_ (flat_one encF_one _) ?_ ?_ ?_)
        · rw [flat_length encF_len, HBL.out]
        · intro h; first | exact ⟨by have := HB.out.hle; have := HB.out.hnone h; omega, HB.out.hnone h⟩ | exact HB.out.hnone h
        · intro a ha
          subst ha
          exact slNews encF_len HB1.out
        · unfold maxLen; omega
        · omega
        · intro v2 w2 hr2 hg2 hn2
          have G := O1.out.grow (ys := qs') (Below.refl _ _) hbw1 (by first | (rw [HOL.out, ← HBL.out]; exact hr2) | (rw [← HBL.out]; simpa [flat] using hr2)) hg2 hn2
          have O2 := Lib.hid G.1; have B2 := Lib.hid (B1.out.trans G.2.2.1)
          clear hr2 hg2 hn2 G
          go_wp2_with fail
          go_ret2
          refine ⟨v2, by rw [← HPM.out]; rfl, ?_, B2.out⟩
          rw [← HMM.out]
          exact O2.out
end Go.Proofs.Ytmholiddejgccaa

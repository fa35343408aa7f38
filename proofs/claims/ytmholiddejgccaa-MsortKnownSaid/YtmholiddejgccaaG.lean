/- arrange, at records. Printed by merge.py. -/
import Derived.Test.YtmholiddejgccaaE
import Derived.StillTailTactics
namespace Go.Proofs.Ytmholiddejgccaa
open Go.ChangeShapes Go.WideShapes Go.ChangeAt Go.RowKit

set_option maxRecDepth 100000 in
set_option maxHeartbeats 4000000 in
theorem arrangeR {f : Nat} {caps : Array Value} {lt : Rc → Rc → Bool} {w0 : World} {B : Nat} (hent : ∀ (args : Array Value) (w : World), (callFunc f args).run Try.prog w = .ok (.enter f args) w)
    (HL : ∀ W, Below B w0 W → ∀ x y, Calls Try.prog f (#[Rc.agg x, Rc.agg y] ++ caps) W fun e w' => e = .returned (.bool (lt x y)) ∧ Below W.heap.size W w') (hB : B ≤ w0.heap.size) :
    ∀ (n : Nat) (w : World) (aa : Option Addr) (la ca : Nat) (ps : List (Rc)), la = n → la ≤ 65536 → Below B w0 w → IsSl 4 encR w aa la ca ps →
      Calls Try.prog 33 #[.slice aa la ca, .func (.func f) #[] caps] w fun e w' => ∃ v', e = .returned (.tuple #[v', .int .i64 (arrN lt ps : Nat)]) ∧ OutR 4 encR 24 w' w.heap.size v' (arr lt ps) ∧ Below w.heap.size w w' := by
  intro n
  induction n using Nat.strongRecOn with
  | _ n ih =>
    intro w aa la ca ps hn hla hw ha
    subst hn
    have hal := ha.hlen; have hac := ha.hle; have ham := ha.hmax
    unfold maxLen at ham
    obtain ⟨i0, hi, hz0, hz1, hz2⟩ := info_parts info24
    have HA := Lib.hid ha; have HW := Lib.hid hw; have HLL := Lib.hid HL; have IH := Lib.hid ih
    have hB0 : B ≤ w.heap.size := Nat.le_trans hB hw.size
    clear ha hw HL ih
    by_cases hshort : la < 2
    · have e1 := arr_short (lt := lt) (l := ps) (by omega)
      have e2 := arrN_short (lt := lt) (l := ps) (by omega)
      have E1 := Lib.hid e1; have E2 := Lib.hid e2; have HAL := Lib.hid hal
      clear e1 e2 hal
      go_enter Try.func33, Try.ntmps33
      go_wp2_with (at_make; refine wpList_make_own _ rfl _ _ 31 rfl w.heap.size 24 i0 (.agg #[.int .u64 0, .int .u64 0, .int .i64 0, .int .i64 0]) 4 Try.underlying31 hi hz0 hz1 .i64 .i64 _ la rfl rfl rfl (by rw [hz2]; omega) (by unfold maxLen; omega) (Nat.le_refl _) ?_)
      intro w1 hown hgrow
      have hb1 := Below.grown (Below.refl w.heap.size w) hgrow (Nat.le_refl _) (fun k h => by cases h)
      have O1 := Lib.hid (out_of_make (enc := (encR : (Rc) → List Value)) hown)
      have HA1 := Lib.hid (HA.out.below hb1)
      have HB1 := Lib.hid hb1
      clear hown hgrow hb1
      go_wp2_with (at_builtin; refine wpList_append_slice _ rfl (.tmp 17) (.tmp 18) 31 rfl 24 i0 (.agg #[.int .u64 0, .int .u64 0, .int .i64 0, .int .i64 0]) 4 32 Try.underlying31 hi hz0 hz1 hz2 rfl (by decide) _ _ _ rfl O1.out.row _ _ _ (flat encR ps) rfl ?_ ?_ ?_ (flat_one encR_one _) ?_ ?_ ?_)
      · rw [flat_length encR_len, HAL.out]
      · intro h; exact ⟨by have := HA.out.hle; have := HA.out.hnone h; omega, HA.out.hnone h⟩
      · intro a ha
        subst ha
        exact slNews encR_len HA1.out
      · unfold maxLen; simp; omega
      · simp; omega
      · intro v2 w2 hr2 hg2 hn2
        have G := O1.out.grow (ys := ps) (Below.refl _ _) HB1.out.size (by rw [← HAL.out]; simpa using hr2) hg2 hn2
        have O2 := Lib.hid G.1; have B2 := Lib.hid (HB1.out.trans G.2.2.1)
        clear hr2 hg2 hn2 G
        go_wp2_with fail
        go_ret2
        exact ⟨v2, by rw [E2.out]; rfl, by rw [E1.out]; simpa using O2.out, B2.out⟩
    · have e1 := arr_long (lt := lt) (l := ps) (by omega)
      have e2 := arrN_long (lt := lt) (l := ps) (by omega)
      rw [← hal] at e1 e2
      have hbd := arrN_le (lt := lt) ps
      have hsq : ps.length * ps.length ≤ 65536 * 65536 := Nat.mul_le_mul (by omega) (by omega)
      rw [e2] at hbd
      obtain ⟨b, off, rfl, hbw, _⟩ := HA.out.at_ (by intro h; rw [h] at hal; simp at hal; omega)
      obtain ⟨h, hh⟩ : ∃ h, la / 2 = h := ⟨_, rfl⟩
      have eh : (la : Int) / 2 = (h : Int) := by omega
      have hh1 : 1 ≤ h ∧ h < la ∧ h ≤ 65536 := by omega
      rw [hh] at e1 e2 hbd
      have E1 := Lib.hid e1; have E2 := Lib.hid e2; have HAL := Lib.hid hal
      have hne : ¬ ca = h := by omega
      have hca1 : (h : Int) ≤ (ca : Int) := by omega
      have hla1 : (h : Int) ≤ (la : Int) := by omega
      have TK := Lib.hid (HA.out.take (k := h) (by omega))
      have DP := Lib.hid (HA.out.drop (k := h) (by omega))
      clear hh e1 e2 hal
      rw [if_neg hne] at DP
      try rw [Nat.mul_one] at DP
      have hb1 : arrN lt (ps.take h) ≤ 4294967296 := by omega
      have hb2 : arrN lt (ps.drop h) ≤ 4294967296 := by omega
      have hb3 : mprs lt (arr lt (ps.take h)) (arr lt (ps.drop h)) ≤ 4294967296 := by omega
      have HBD := Lib.hid (And.intro hb1 (And.intro hb2 hb3))
      clear hbd hsq hb1 hb2 hb3
      obtain ⟨h1a, h1b, h1c⟩ := hh1
      go_enter Try.func33, Try.ntmps33
      go_wp2_with fail
      refine (IH.out h (by omega) w _ h ca (ps.take h) rfl (by omega) HW.out TK.out).mono ?_; rintro e w1 ⟨v1, rfl, ho1, hb1⟩
      have O1 := Lib.hid ho1; have B1 := Lib.hid hb1; have W1 := Lib.hid (HW.out.trans (hb1.mono hB0))
      have DP1 := Lib.hid (DP.out.below hb1)
      obtain ⟨s1, t1, hv1⟩ : ∃ a c, v1 = .slice a _ c := own_shape ho1.row
      subst hv1
      have hb1n := HBD.out.1
      clear ho1 hb1
      generalize hN1 : arrN lt (ps.take h) = n1 at *
      have HN1 := Lib.hid hN1; clear hN1
      go_wp2_with fail
      refine (IH.out (la - h) (by omega) w1 _ (la - h) (ca - h) (ps.drop h) rfl (by omega) W1.out DP1.out).mono ?_; rintro e w2 ⟨v2, rfl, ho2, hb2⟩
      have O2 := Lib.hid ho2; have B2 := Lib.hid (B1.out.trans (hb2.mono B1.out.size)); have W2 := Lib.hid (W1.out.trans (hb2.mono (Nat.le_trans hB0 B1.out.size)))
      have O12 := Lib.hid (O1.out.below hb2)
      obtain ⟨s2, t2, hv2⟩ : ∃ a c, v2 = .slice a _ c := own_shape ho2.row
      subst hv2
      have hb2n := HBD.out.2.1
      have hsz2 := hb2.size
      clear ho2 hb2
      generalize hN2 : arrN lt (ps.drop h) = n2 at *
      have HN2 := Lib.hid hN2; clear hN2
      have L1 := Lib.hid (show (arr lt (ps.take h)).length = h by rw [arr_length]; simp; have := HAL.out; omega)
      have L2 := Lib.hid (show (arr lt (ps.drop h)).length = la - h by rw [arr_length]; simp; have := HAL.out; omega)
      go_wp2_with (at_make; refine wpList_make_own _ rfl _ _ 31 rfl w2.heap.size 24 i0 (.agg #[.int .u64 0, .int .u64 0, .int .i64 0, .int .i64 0]) 4 Try.underlying31 hi hz0 hz1 .i64 .i64 _ la rfl rfl rfl (by rw [hz2]; omega) (by unfold maxLen; omega) (Nat.le_refl _) ?_)
      intro w3 hown hgrow
      have hb3 := Below.grown (Below.refl w2.heap.size w2) hgrow (Nat.le_refl _) (fun k h => by cases h)
      have O3 := Lib.hid (out_of_make (enc := (encR : (Rc) → List Value)) hown)
      have S1 := Lib.hid ((IsSl.of_own encR_len O12.out.row rfl).below hb3)
      have S2 := Lib.hid ((IsSl.of_own encR_len O2.out.row rfl).below hb3)
      have W3 := Lib.hid (W2.out.trans (hb3.mono (Nat.le_trans hB0 B2.out.size)))
      have B3 := Lib.hid (B2.out.trans (hb3.mono B2.out.size))
      have hsz3 := hb3.size
      have P1 := Lib.hid (fun (x : Addr) (hx : s1 = some x) => own_lt O12.out.row (g := x.block) (by subst hx; rfl))
      have P2 := Lib.hid (fun (x : Addr) (hx : s2 = some x) => own_lt O2.out.row (g := x.block) (by subst hx; rfl))
      clear hown hgrow hb3
      have hW3 : w2.heap.size ≤ w3.heap.size := hsz3
      go_wp2_with fail
      refine (mergeR (w0 := w3) (B := w2.heap.size) hent (fun W hW x y => HLL.out W (W3.out.trans (hW.mono (Nat.le_trans hB0 B2.out.size))) x y) (Below.refl _ _) hsz3 (ys := []) O3.out S1.out S2.out ?_ ?_ ?_).mono ?_
      · intro x hx
        exact ⟨Nat.lt_of_lt_of_le (P1.out x hx) hsz3, fun hh => by have := O3.out.blk _ hh; have := P1.out x hx; omega⟩
      · intro x hx
        exact ⟨Nat.lt_of_lt_of_le (P2.out x hx) hsz3, fun hh => by have := O3.out.blk _ hh; have := P2.out x hx; omega⟩
      · rw [L1.out, L2.out]; simp; omega
      · rintro e w4 ⟨v4, rfl, ho4, hb4⟩
        have O4 := Lib.hid ho4; have B4 := Lib.hid (B3.out.trans (hb4.mono B2.out.size))
        have hb3n := HBD.out.2.2
        clear ho4 hb4
        generalize hN3 : mprs lt (arr lt (ps.take h)) (arr lt (ps.drop h)) = n3 at *
        have HN3 := Lib.hid hN3; clear hN3
        go_wp2_with fail
        go_ret2
        refine ⟨v4, ?_, ⟨by rw [E1.out]; exact O4.out.row, fun g hg => Nat.le_trans B2.out.size (O4.out.blk g hg)⟩, B4.out⟩
        rw [E2.out, Int.natCast_add, Int.natCast_add]
        rfl
end Go.Proofs.Ytmholiddejgccaa

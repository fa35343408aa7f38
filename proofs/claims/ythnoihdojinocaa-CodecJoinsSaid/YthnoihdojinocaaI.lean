/- Numbers are read, by the document; signed ones by both. -/
import Derived.Test.YthnoihdojinocaaH
import Derived.Lib.Zigzag
namespace Go.Proofs.Ythnoihdojinocaa
open Go.ChangeShapes Go.WideShapes Go.ChangeAt Go.RowKit
set_option linter.unusedVariables false
set_option linter.unusedSimpArgs false

def RuRel (b : List Nat) (r : Option (Nat × Nat)) (vx vu vi : Value) : Prop :=
  ∃ i x u : Nat, i ≤ b.length ∧ i ≤ 10 ∧ vi = .int .i64 i ∧ vx = .int .u64 x ∧ vu = .int .u64 u ∧ (i ≤ 9 → u = 128 ^ i) ∧ guF i x (b.drop i) = r ∧ x < 128 ^ i
set_option maxRecDepth 100000 in
set_option maxHeartbeats 4000000 in
theorem rgu {w : World} {a : Option Addr} {n c : Nat} {b : List Nat} (h : IsK .u8 w a n c (ns b)) (hb : By b) :
    Calls Try.prog 25 #[.slice a n c] w fun e w' => e = .returned (guV (gu b)) ∧ w = w' := by
  have hn := h.u8; have hle := h.hle; have hmx := h.hmax
  unfold maxLen at hmx
  have H := Lib.hid h; have HB := Lib.hid hb; have HN := Lib.hid hn
  obtain ⟨R, hR⟩ : ∃ R, R = gu b := ⟨_, rfl⟩
  rw [← hR]
  have HR := Lib.hid hR
  clear h hb hn hR
  go_enter Try.func25, Try.ntmps25
  go_wp2_with fail
  go_loop [5, 6, 7, 8] (fun vx vu vi _ => RuRel b R vx vu vi) (fun _ _ vi _ => n - (intOf vi).toNat)
  case atStart => exact ⟨0, 0, 1, Nat.zero_le _, Nat.zero_le _, rfl, rfl, rfl, fun _ => rfl, by rw [HR.out]; rfl, by simp⟩
  case round =>
    obtain ⟨i, x, u, hi, hi10, rfl, rfl, rfl, hu, hg, hx⟩ := hrel
    have HG := Lib.hid hg; have HX := Lib.hid hx; have HU := Lib.hid hu
    clear hg hx hu
    by_cases hlt : i < n ∧ i < 10
    · obtain ⟨hlt, hlt10⟩ := hlt
      have hil : i < b.length := by have := HN.out; omega
      obtain ⟨bb, off, rfl, _, _⟩ := H.out.at_ (by intro h; have h1 := ns_len b; rw [h, List.length_nil] at h1; omega)
      have x0 := H.out.cellK (i := i) (by rw [ns_len]; exact hil)
      rw [ns_get] at x0
      have hd : b.drop i = b.getD i 0 :: b.drop (i + 1) := by rw [List.drop_eq_getElem_cons hil]; simp [hil]
      have hcb : b.getD i 0 < 256 := HB.out _ (by simp [hil])
      have hg2 := HG.out
      rw [hd, guF] at hg2
      generalize b.getD i 0 = cc at *
      have hi9 : i ≤ 9 := by omega
      have hX2 := next_lt (c := cc) HX.out
      by_cases hA : i = 9 ∧ 1 < cc
      · rw [if_pos (Or.inr hA)] at hg2
        have HG2 := Lib.hid hg2
        have e9 : ((i : Int) == 9) = true := by simp; omega
        have e1 : decide (1 < (cc : Int)) = true := by simp; omega
        have e1' : decide (1 < cc) = true := by simp; omega
        obtain ⟨-, hc1⟩ := hA
        clear hg2 hd hX2
        go_wp2_with fail
        go_ret3
        exact ⟨by rw [← HG2.out]; rfl, rfl⟩
      · rw [if_neg (by omega)] at hg2
        have hl := limb (c := cc) hi9 (by omega)
        have hx64 : x + cc % 128 * 128 ^ i < 18446744073709551616 := by
          rcases Nat.lt_or_ge i 9 with h | h
          · have h5 := p128_9 (i := i) (by omega)
            rw [Nat.pow_succ] at hX2; omega
          · obtain rfl : i = 9 := by omega
            have h1 := HX.out
            have h2 : cc % 128 * 128 ^ 9 ≤ 1 * 128 ^ 9 := Nat.mul_le_mul_right _ (by omega)
            rw [q128] at h1 h2 ⊢; omega
        have hm : (cc : Int) % 128 = ((cc % 128 : Nat) : Int) := by omega
        have hu := HU.out hi9
        have hw : IntKind.u64.wrap (((cc % 128 : Nat) : Int) * (u : Int)) = ((cc % 128 * 128 ^ i : Nat) : Int) := by
          rw [hu, ← Int.natCast_mul]; exact IntWalk.u64_in _ (by omega)
        have hw2 : IntKind.u64.wrap ((x : Int) + ((cc % 128 * 128 ^ i : Nat) : Int)) = ((x + cc % 128 * 128 ^ i : Nat) : Int) := by
          rw [← Int.natCast_add]; exact IntWalk.u64_in _ (by omega)
        obtain ⟨u2, hu2, hu2v⟩ : ∃ u2 : Nat, IntKind.u64.wrap ((u : Int) * 128) = (u2 : Int) ∧ (i + 1 ≤ 9 → u2 = 128 ^ (i + 1)) := by
          refine ⟨(IntKind.u64.wrap ((u : Int) * 128)).toNat, ?_, fun h => ?_⟩
          · rw [IntKind.wrap_u64]; omega
          · have h5 := p128_9 (i := i) (by omega)
            rw [IntKind.wrap_u64, Nat.pow_succ, hu]; omega
        have HU2 := Lib.hid hu2v
        clear hu2v hu
        have hr : cc % 128 < 128 := Nat.mod_lt _ (by decide)
        generalize x + cc % 128 * 128 ^ i = X at *
        generalize cc % 128 * 128 ^ i = s at *
        generalize cc % 128 = r at *
        have HX2 := Lib.hid hX2
        clear hX2
        by_cases h128 : 128 ≤ cc
        · rw [if_pos h128] at hg2
          have HG2 := Lib.hid hg2
          have e9 : ((i : Int) == 9) = false := by simp; omega
          clear hg2 hd hA
          go_wp2_with fail
          go_round
          case rel => exact ⟨i + 1, X, u2, by omega, by omega, by go_num, rfl, rfl, HU2.out, HG2.out, HX2.out⟩
          case measure => simp [intOf]; omega
        · rw [if_neg h128] at hg2
          have hc128 : cc < 128 := by omega
          by_cases hC : cc = 0 ∧ 0 < i
          · rw [if_pos hC] at hg2
            have HG2 := Lib.hid hg2
            clear hg2 hd hA
            obtain ⟨hc0, hi0⟩ := hC
            have e0 : ((cc : Int) == 0) = true := by simp; omega
            have e1 : decide (1 < (cc : Int)) = false := by simp; omega
            have e1' : decide (1 < cc) = false := by simp; omega
            have hc1 : cc ≤ 1 := by omega
            clear hc0
            by_cases h9 : i = 9
            · have e9 : ((i : Int) == 9) = true := by simp; omega
              clear h9
              go_wp2_with fail
              go_ret3
              exact ⟨by rw [← HG2.out]; rfl, rfl⟩
            · have e9 : ((i : Int) == 9) = false := by simp; omega
              go_wp2_with fail
              go_ret3
              exact ⟨by rw [← HG2.out]; rfl, rfl⟩
          · rw [if_neg hC] at hg2
            have HG2 := Lib.hid hg2
            clear hg2 hd
            by_cases h9 : i = 9
            · have hc1 : cc ≤ 1 := by omega
              have e9 : ((i : Int) == 9) = true := by simp; omega
              have e0 : ((cc : Int) == 0) = false := by simp; omega
              have e1 : decide (1 < (cc : Int)) = false := by simp; omega
              have e1' : decide (1 < cc) = false := by simp; omega
              clear h9 hA hC
              go_wp2_with fail
              go_ret3
              exact ⟨by rw [← HG2.out]; rfl, rfl⟩
            · have e9 : ((i : Int) == 9) = false := by simp; omega
              clear hA
              by_cases hc0 : cc = 0
              · have hi0 : i = 0 := by omega
                subst hi0
                have x0' : w.cell? ⟨bb, off, none⟩ = some (.int .u8 (cc : Int)) := x0
                clear x0
                have e0 : ((cc : Int) == 0) = true := by simp; omega
                clear hc0 hC h9
                go_wp2_with fail
                go_ret3
                exact ⟨by rw [← HG2.out]; rfl, rfl⟩
              · have e0 : ((cc : Int) == 0) = false := by simp; omega
                clear hC
                go_wp2_with fail
                go_ret3
                exact ⟨by rw [← HG2.out]; rfl, rfl⟩
    · have HE : Hid (none = R) := Lib.hid (by
        rw [← HG.out]
        have hn := HN.out
        cases hd : b.drop i with
        | nil => rfl
        | cons y r =>
          have h1 := congrArg List.length hd
          rw [List.length_drop, List.length_cons] at h1
          rw [guF, if_pos (by omega)])
      by_cases hin : i < n
      · have hi10' : ¬ i < 10 := by omega
        clear hlt
        go_wp2_with fail
        go_ret3
        exact ⟨by rw [← HE.out]; rfl, rfl⟩
      · clear hlt
        go_wp2_with fail
        go_ret3
        exact ⟨by rw [← HE.out]; rfl, rfl⟩
theorem giV_some (y k : Nat) : giV (some (y, k)) = .tuple #[.int .i64 (unf y), .int .i64 k, .int .i64 0] := rfl
theorem unf_1 {y : Nat} (h : y % 2 = 1) : unf y = -((y / 2 : Nat) : Int) - 1 := by unfold unf; rw [if_pos h]
theorem unf_0 {y : Nat} (h : ¬ y % 2 = 1) : unf y = ((y / 2 : Nat) : Int) := by unfold unf; rw [if_neg h]
theorem and_1 {y : Nat} (h : y < 18446744073709551616) : bits BinOp.and IntKind.u64 (y : Int) 1 = ((y % 2 : Nat) : Int) := by
  have := u64_and_nat y 1 h (by decide)
  rw [nat_mask1] at this
  exact this
set_option maxRecDepth 100000 in
set_option maxHeartbeats 2000000 in
theorem pgi {w : World} {a : Option Addr} {n c : Nat} {b : List Nat} (h : IsK .u8 w a n c (ns b)) (hb : By b) :
    Calls Try.prog 26 #[.slice a n c] w fun e w' => e = .returned (giV (gu b)) ∧ w = w' := by
  have P := Lib.hid (pgu h hb)
  have hs := fun x k (hq : gu b = some (x, k)) => (gu_some hb hq).1
  clear h hb
  cases hq : gu b with
  | none =>
    rw [hq] at P
    clear hs
    go_enter Try.func26, Try.ntmps26
    go_wp2_with fail
    refine (P.out).mono ?_; rintro e w1 ⟨rfl, rfl⟩
    unfold guV
    go_wp2_with fail
    go_ret3
    exact ⟨rfl, rfl⟩
  | some q =>
    obtain ⟨y, k⟩ := q
    have hy := hs y k hq
    rw [hq] at P
    clear hs hq
    have ha := and_1 hy
    have hd : (y : Int) / 2 = ((y / 2 : Nat) : Int) := by omega
    have hdl : y / 2 < 9223372036854775808 := by omega
    have hx := Lib.i64_not (y / 2) hdl
    rw [giV_some]
    by_cases hm : y % 2 = 1
    · rw [unf_1 hm]
      rw [hm] at ha
      clear hm
      generalize y / 2 = z at *
      go_enter Try.func26, Try.ntmps26
      go_wp2_with fail
      refine (P.out).mono ?_; rintro e w1 ⟨rfl, rfl⟩
      unfold guV
      go_wp2_with fail
      go_ret3
      exact ⟨rfl, rfl⟩
    · rw [unf_0 hm]
      rw [show y % 2 = 0 by omega] at ha
      clear hm
      generalize y / 2 = z at *
      go_enter Try.func26, Try.ntmps26
      go_wp2_with fail
      refine (P.out).mono ?_; rintro e w1 ⟨rfl, rfl⟩
      unfold guV
      go_wp2_with fail
      go_ret3
      exact ⟨rfl, rfl⟩
set_option maxRecDepth 100000 in
set_option maxHeartbeats 2000000 in
theorem rgi {w : World} {a : Option Addr} {n c : Nat} {b : List Nat} (h : IsK .u8 w a n c (ns b)) (hb : By b) :
    Calls Try.prog 27 #[.slice a n c] w fun e w' => e = .returned (giV (gu b)) ∧ w = w' := by
  have P := Lib.hid (rgu h hb)
  have hs := fun x k (hq : gu b = some (x, k)) => (gu_some hb hq).1
  clear h hb
  cases hq : gu b with
  | none =>
    rw [hq] at P
    clear hs
    go_enter Try.func27, Try.ntmps27
    go_wp2_with fail
    refine (P.out).mono ?_; rintro e w1 ⟨rfl, rfl⟩
    unfold guV
    go_wp2_with fail
    go_ret3
    exact ⟨rfl, rfl⟩
  | some q =>
    obtain ⟨y, k⟩ := q
    have hy := hs y k hq
    rw [hq] at P
    clear hs hq
    have hd : (y : Int) / 2 = ((y / 2 : Nat) : Int) := by omega
    have hdl : y / 2 < 9223372036854775808 := by omega
    rw [giV_some]
    by_cases hm : y % 2 = 1
    · rw [unf_1 hm]
      have ha : (y : Int) % 2 = 1 := by omega
      clear hm
      generalize y / 2 = z at *
      go_enter Try.func27, Try.ntmps27
      go_wp2_with fail
      refine (P.out).mono ?_; rintro e w1 ⟨rfl, rfl⟩
      unfold guV
      go_wp2_with fail
      go_ret3
      exact ⟨rfl, rfl⟩
    · rw [unf_0 hm]
      have ha : (y : Int) % 2 = 0 := by omega
      clear hm
      generalize y / 2 = z at *
      go_enter Try.func27, Try.ntmps27
      go_wp2_with fail
      refine (P.out).mono ?_; rintro e w1 ⟨rfl, rfl⟩
      unfold guV
      go_wp2_with fail
      go_ret3
      exact ⟨rfl, rfl⟩
end Go.Proofs.Ythnoihdojinocaa

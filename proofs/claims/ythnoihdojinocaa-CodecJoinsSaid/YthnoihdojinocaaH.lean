/- Numbers are read, by both. -/
import Derived.Test.YthnoihdojinocaaG
namespace Go.Proofs.Ythnoihdojinocaa
open Go.ChangeShapes Go.WideShapes Go.ChangeAt Go.RowKit
set_option linter.unusedVariables false
set_option linter.unusedSimpArgs false

/-- What a reading of an unsigned number returns. -/
def guV : Option (Nat × Nat) → Value
  | none => .tuple #[.int .u64 0, .int .i64 0, .int .i64 15]
  | some (x, n) => .tuple #[.int .u64 x, .int .i64 n, .int .i64 0]
def giV : Option (Nat × Nat) → Value
  | none => .tuple #[.int .i64 0, .int .i64 0, .int .i64 15]
  | some (x, n) => .tuple #[.int .i64 (unf x), .int .i64 n, .int .i64 0]
def GuRel (b : List Nat) (m : Nat) (r : Option (Nat × Nat)) (vx vi : Value) : Prop :=
  ∃ i x : Nat, i ≤ m ∧ vi = .int .i64 i ∧ vx = .int .u64 x ∧ guF i x (b.drop i) = r ∧ x < 128 ^ i
theorem min_10 (n : Nat) : ∃ m, m = min n 10 ∧ m ≤ n ∧ m ≤ 10 ∧ (m = n ∨ m = 10) := ⟨min n 10, rfl, by omega, by omega, by omega⟩
theorem and_127 {c : Nat} (h : c < 256) : bits BinOp.and IntKind.u8 (c : Int) 127 = ((c % 128 : Nat) : Int) := by
  have := u8_and_nat c 127 h (by decide)
  rw [nat_mask7] at this
  exact this
theorem pow_7 (i : Nat) : 2 ^ (7 * i) = 128 ^ i := by rw [Nat.pow_mul]
theorem limb {i c : Nat} (hi : i ≤ 9) (h9 : i = 9 → c ≤ 1) : c % 128 * 128 ^ i < 18446744073709551616 := by
  have h4 : c % 128 * 128 ^ i ≤ 127 * 128 ^ i := Nat.mul_le_mul_right _ (by omega)
  rcases Nat.lt_or_ge i 9 with h | h
  · have h5 := p128_9 (i := i) (by omega)
    omega
  · obtain rfl : i = 9 := by omega
    have := h9 rfl
    rw [q128]; omega
theorem join_7 {i c x : Nat} (hi : i ≤ 9) (h9 : i = 9 → c ≤ 1) (hx : x < 128 ^ i) : bits BinOp.or IntKind.u64 (x : Int) ((c % 128 * 128 ^ i : Nat) : Int) = ((x + c % 128 * 128 ^ i : Nat) : Int) := by
  have hl := limb hi h9
  have hxl : x < 18446744073709551616 := by
    rcases Nat.lt_or_ge i 9 with h | h
    · have h5 := p128_9 (i := i) (by omega)
      omega
    · obtain rfl : i = 9 := by omega
      rw [q128] at hx; omega
  rw [u64_or_nat _ _ hxl hl, Nat.or_comm, nat_join (7 * i) _ _ (by rw [pow_7]; exact Nat.mul_mod_left _ _) (by rw [pow_7]; exact hx), Nat.add_comm]
theorem next_lt {i c x : Nat} (hx : x < 128 ^ i) : x + c % 128 * 128 ^ i < 128 ^ (i + 1) := by
  have h4 : c % 128 * 128 ^ i ≤ 127 * 128 ^ i := Nat.mul_le_mul_right _ (by omega)
  rw [Nat.pow_succ]; omega
set_option maxRecDepth 100000 in
set_option maxHeartbeats 4000000 in
theorem pgu {w : World} {a : Option Addr} {n c : Nat} {b : List Nat} (h : IsK .u8 w a n c (ns b)) (hb : By b) :
    Calls Try.prog 24 #[.slice a n c] w fun e w' => e = .returned (guV (gu b)) ∧ w = w' := by
  have hn := h.u8; have hle := h.hle; have hmx := h.hmax
  unfold maxLen at hmx
  have H := Lib.hid h; have HB := Lib.hid hb; have HN := Lib.hid hn
  obtain ⟨m, hm, hm1, hm2, hm3⟩ := min_10 n
  have HM3 := Lib.hid hm3
  have hmi : (if (n : Int) < 10 then (n : Int) else 10) = (m : Int) := by rw [hm]; split <;> omega
  have hmi2 : (if (10 : Int) < (n : Int) then (10 : Int) else (n : Int)) = (m : Int) := by rw [hm]; split <;> omega
  obtain ⟨R, hR⟩ : ∃ R, R = gu b := ⟨_, rfl⟩
  rw [← hR]
  have HR := Lib.hid hR
  clear h hb hn hm hm3 hR
  go_enter Try.func24, Try.ntmps24
  go_wp2_with fail
  go_loop [5, 6, 7, 14] (fun vx _ _ vi => GuRel b m R vx vi) (fun _ _ _ vi => m - (intOf vi).toNat)
  case atStart => exact ⟨0, 0, Nat.zero_le _, rfl, rfl, by rw [HR.out]; rfl, by simp⟩
  case round =>
    obtain ⟨i, x, hi, rfl, rfl, hg, hx⟩ := hrel
    have HG := Lib.hid hg; have HX := Lib.hid hx
    clear hg hx
    by_cases hlt : i < m
    · have hil : i < b.length := by have := HN.out; omega
      obtain ⟨bb, off, rfl, _, _⟩ := H.out.at_ (by intro h; have h1 := ns_len b; rw [h, List.length_nil] at h1; omega)
      have x0 := H.out.cellK (i := i) (by rw [ns_len]; exact hil)
      rw [ns_get] at x0
      have hd : b.drop i = b.getD i 0 :: b.drop (i + 1) := by rw [List.drop_eq_getElem_cons hil]; simp [hil]
      have hcb : b.getD i 0 < 256 := HB.out _ (by simp [hil])
      have hg2 := HG.out
      rw [hd, guF] at hg2
      generalize b.getD i 0 = cc at *
      have hi9 : i ≤ 9 := by omega
      have hX2 := next_lt (c := cc) HX.out
      by_cases hA : i = 9 ∧ 1 < cc
      · rw [if_pos (Or.inr hA)] at hg2
        have HG2 := Lib.hid hg2
        have e9 : ((i : Int) == 9) = true := by simp; omega
        have e1 : decide (1 < (cc : Int)) = true := by simp; omega
        have e1' : decide (1 < cc) = true := by simp; omega
        obtain ⟨-, hc1⟩ := hA
        clear hg2 hd hX2
        go_wp2_with fail
        go_ret3
        exact ⟨by rw [← HG2.out]; rfl, rfl⟩
      · rw [if_neg (by omega)] at hg2
        have hl := limb (c := cc) hi9 (by omega)
        have hj := join_7 (c := cc) hi9 (by omega) HX.out
        have ha := and_127 hcb
        have hp : ((cc % 128 : Nat) : Int) * 2 ^ (7 * i) = ((cc % 128 * 128 ^ i : Nat) : Int) := by
          rw [← pow_7]; push_cast; rfl
        have hw : IntKind.u64.wrap (((cc % 128 : Nat) : Int) * 2 ^ (7 * i)) = ((cc % 128 * 128 ^ i : Nat) : Int) := by
          rw [hp]; exact IntWalk.u64_in _ (by omega)
        have hr : cc % 128 < 128 := Nat.mod_lt _ (by decide)
        clear hp
        have HS : Hid (i = 0 → cc % 128 * 128 ^ i = cc % 128) := Lib.hid (by intro e; subst e; simp)
        generalize x + cc % 128 * 128 ^ i = X at *
        generalize cc % 128 * 128 ^ i = s at *
        generalize cc % 128 = r at *
        have HX2 := Lib.hid hX2
        clear hX2
        by_cases h128 : 128 ≤ cc
        · rw [if_pos h128] at hg2
          have HG2 := Lib.hid hg2
          have e9 : ((i : Int) == 9) = false := by simp; omega
          clear hg2 hd hA
          go_wp2_with fail
          go_round
          case rel => exact ⟨i + 1, X, by omega, by go_num, rfl, HG2.out, HX2.out⟩
          case measure => simp [intOf]; omega
        · rw [if_neg h128] at hg2
          have hc128 : cc < 128 := by omega
          by_cases hC : cc = 0 ∧ 0 < i
          · rw [if_pos hC] at hg2
            have HG2 := Lib.hid hg2
            clear hg2 hd hA
            obtain ⟨hc0, hi0⟩ := hC
            have e0 : ((cc : Int) == 0) = true := by simp; omega
            have e1 : decide (1 < (cc : Int)) = false := by simp; omega
            have e1' : decide (1 < cc) = false := by simp; omega
            have hc1 : cc ≤ 1 := by omega
            clear hc0
            by_cases h9 : i = 9
            · have e9 : ((i : Int) == 9) = true := by simp; omega
              clear h9
              go_wp2_with fail
              go_ret3
              exact ⟨by rw [← HG2.out]; rfl, rfl⟩
            · have e9 : ((i : Int) == 9) = false := by simp; omega
              go_wp2_with fail
              go_ret3
              exact ⟨by rw [← HG2.out]; rfl, rfl⟩
          · rw [if_neg hC] at hg2
            have HG2 := Lib.hid hg2
            clear hg2 hd
            by_cases h9 : i = 9
            · have hc1 : cc ≤ 1 := by omega
              have e9 : ((i : Int) == 9) = true := by simp; omega
              have e0 : ((cc : Int) == 0) = false := by simp; omega
              have e1 : decide (1 < (cc : Int)) = false := by simp; omega
              have e1' : decide (1 < cc) = false := by simp; omega
              clear h9 hA hC
              go_wp2_with fail
              go_ret3
              exact ⟨by rw [← HG2.out]; rfl, rfl⟩
            · have e9 : ((i : Int) == 9) = false := by simp; omega
              clear hA
              by_cases hc0 : cc = 0
              · have hi0 : i = 0 := by omega
                subst hi0
                have hs := HS.out rfl
                subst hs
                have x0' : w.cell? ⟨bb, off, none⟩ = some (.int .u8 (cc : Int)) := x0
                clear x0
                have e0 : ((cc : Int) == 0) = true := by simp; omega
                clear hc0 hC h9
                go_wp2_with fail
                go_ret3
                exact ⟨by rw [← HG2.out]; rfl, rfl⟩
              · have e0 : ((cc : Int) == 0) = false := by simp; omega
                clear hC
                go_wp2_with fail
                go_ret3
                exact ⟨by rw [← HG2.out]; rfl, rfl⟩
    · have HE : Hid (none = R) := Lib.hid (by
        rw [← HG.out]
        have hm := HM3.out; have hn := HN.out
        cases hd : b.drop i with
        | nil => rfl
        | cons y r =>
          have h1 := congrArg List.length hd
          rw [List.length_drop, List.length_cons] at h1
          rw [guF, if_pos (by omega)])
      go_wp2_with fail
      go_ret3
      exact ⟨by rw [← HE.out]; rfl, rfl⟩
end Go.Proofs.Ythnoihdojinocaa

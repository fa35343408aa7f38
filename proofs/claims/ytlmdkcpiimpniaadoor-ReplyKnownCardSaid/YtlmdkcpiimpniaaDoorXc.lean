/- number of the document. -/
import Derived.Test.YtlmdkcpiimpniaaDoorXb
namespace Go.Proofs.YtlmdkcpiimpniaaDoor
open Go.ChangeShapes Go.WideShapes Go.ChangeAt Go.RowKit
set_option linter.unusedVariables false
set_option linter.unusedSimpArgs false

def rnV (p : Nat) : Option (Nat × Nat) → Value
  | none => .tuple #[.int .u64 0, .int .i64 (-1)]
  | some (x, k) => .tuple #[.int .u64 (x : Int), .int .i64 ((p : Int) + (k : Int))]
def RuRel (b : List Nat) (r : Option (Nat × Nat)) (vx vu vi : Value) : Prop :=
  ∃ i x u : Nat, i ≤ b.length ∧ i ≤ 10 ∧ vi = .int .i64 i ∧ vx = .int .u64 x ∧ vu = .int .u64 u ∧ (i ≤ 9 → u = 128 ^ i) ∧ guF i x (b.drop i) = r ∧ x < 128 ^ i
set_option maxRecDepth 100000 in
set_option maxHeartbeats 4000000 in
theorem rnum {w : World} {a : Option Addr} {n c : Nat} {b : List Nat} (h : IsK .u8 w a n c (ns b)) (hb : By b) {p : Nat} (hp : p ≤ n) (hn9 : n ≤ 1000000000) :
    Calls Tryd.prog 72 #[.slice a n c, .int .i64 (p : Int)] w fun e w' => e = .returned (rnV p (gu (b.drop p))) ∧ w = w' := by
  have hn := h.u8; have hle := h.hle; have hmx := h.hmax
  unfold maxLen at hmx
  have H := Lib.hid h; have HB := Lib.hid hb; have HN := Lib.hid hn
  obtain ⟨R, hR⟩ : ∃ R, R = gu (b.drop p) := ⟨_, rfl⟩
  rw [← hR]
  have HR := Lib.hid hR
  clear h hb hn hR
  go_enter Tryd.func72, Tryd.ntmps72
  go_wp2_with fail
  go_loop [6, 7, 8, 9] (fun vx vu vi _ => RuRel (b.drop p) R vx vu vi) (fun _ _ vi _ => 10 - (intOf vi).toNat)
  case atStart => exact ⟨0, 0, 1, Nat.zero_le _, Nat.zero_le _, rfl, rfl, rfl, fun _ => rfl, by rw [HR.out]; rfl, by simp⟩
  case round =>
    obtain ⟨i, x, u, hi, hi10, rfl, rfl, rfl, hu, hg, hx⟩ := hrel
    have HG := Lib.hid hg; have HX := Lib.hid hx; have HU := Lib.hid hu
    clear hg hx hu
    have HLD := Lib.hid (List.length_drop (i := p) (l := b))
    by_cases hlt : p + i < n ∧ i < 10
    · obtain ⟨hlt, hlt10⟩ := hlt
      have hil : p + i < b.length := by have := HN.out; omega
      obtain ⟨bb, off, rfl, _, _⟩ := H.out.at_ (by intro h; have h1 := ns_len b; rw [h, List.length_nil] at h1; omega)
      have x0 := H.out.cellK (i := p + i) (by rw [ns_len]; exact hil)
      rw [ns_get] at x0
      have hd : (b.drop p).drop i = b.getD (p + i) 0 :: (b.drop p).drop (i + 1) := by rw [List.drop_drop, List.drop_drop, List.drop_eq_getElem_cons hil, ← Nat.add_assoc]; simp [hil]
      have hcb : b.getD (p + i) 0 < 256 := HB.out _ (by simp [hil])
      have hg2 := HG.out
      rw [hd, guF] at hg2
      generalize b.getD (p + i) 0 = cc at *
      have hi9 : i ≤ 9 := by omega
      have dge : decide ((n : Int) ≤ (p : Int) + (i : Int)) = false := by simp; omega
      have hX2 := next_lt (c := cc) HX.out
      by_cases hA : i = 9 ∧ 1 < cc
      · rw [if_pos (Or.inr hA)] at hg2
        have HG2 := Lib.hid hg2
        have e9 : ((i : Int) == 9) = true := by simp; omega
        have e1 : decide (1 < (cc : Int)) = true := by simp; omega
        have e1' : decide (1 < cc) = true := by simp; omega
        obtain ⟨-, hc1⟩ := hA
        clear hg2 hd hX2
        go_wp2_with fail
        go_ret2
        exact ⟨by rw [← HG2.out]; rfl, rfl⟩
      · rw [if_neg (by omega)] at hg2
        have hl := limb (c := cc) hi9 (by omega)
        have hx64 : x + cc % 128 * 128 ^ i < 18446744073709551616 := by
          rcases Nat.lt_or_ge i 9 with h | h
          · have h5 := p128_9 (i := i) (by omega)
            rw [Nat.pow_succ] at hX2; omega
          · obtain rfl : i = 9 := by omega
            have h1 := HX.out
            have h2 : cc % 128 * 128 ^ 9 ≤ 1 * 128 ^ 9 := Nat.mul_le_mul_right _ (by omega)
            rw [q128] at h1 h2 ⊢; omega
        have hm : (cc : Int) % 128 = ((cc % 128 : Nat) : Int) := by omega
        have hu := HU.out hi9
        have hw : IntKind.u64.wrap (((cc % 128 : Nat) : Int) * (u : Int)) = ((cc % 128 * 128 ^ i : Nat) : Int) := by
          rw [hu, ← Int.natCast_mul]; exact IntWalk.u64_in _ (by omega)
        have hw2 : IntKind.u64.wrap ((x : Int) + ((cc % 128 * 128 ^ i : Nat) : Int)) = ((x + cc % 128 * 128 ^ i : Nat) : Int) := by
          rw [← Int.natCast_add]; exact IntWalk.u64_in _ (by omega)
        obtain ⟨u2, hu2, hu2v⟩ : ∃ u2 : Nat, IntKind.u64.wrap ((u : Int) * 128) = (u2 : Int) ∧ (i + 1 ≤ 9 → u2 = 128 ^ (i + 1)) := by
          refine ⟨(IntKind.u64.wrap ((u : Int) * 128)).toNat, ?_, fun h => ?_⟩
          · rw [IntKind.wrap_u64]; omega
          · have h5 := p128_9 (i := i) (by omega)
            rw [IntKind.wrap_u64, Nat.pow_succ, hu]; omega
        have HU2 := Lib.hid hu2v
        clear hu2v hu
        have hr : cc % 128 < 128 := Nat.mod_lt _ (by decide)
        generalize x + cc % 128 * 128 ^ i = X at *
        generalize cc % 128 * 128 ^ i = s at *
        generalize cc % 128 = r at *
        have HX2 := Lib.hid hX2
        clear hX2
        by_cases h128 : 128 ≤ cc
        · rw [if_pos h128] at hg2
          have HG2 := Lib.hid hg2
          have e9 : ((i : Int) == 9) = false := by simp; omega
          clear hg2 hd hA
          go_wp2_with fail
          go_round
          case rel => exact ⟨i + 1, X, u2, by have := HN.out; have := HLD.out; omega, by omega, by go_num, rfl, rfl, HU2.out, HG2.out, HX2.out⟩
          case measure => simp [intOf]; omega
        · rw [if_neg h128] at hg2
          have hc128 : cc < 128 := by omega
          by_cases hC : cc = 0 ∧ 0 < i
          · rw [if_pos hC] at hg2
            have HG2 := Lib.hid hg2
            clear hg2 hd hA
            obtain ⟨hc0, hi0⟩ := hC
            have e0 : ((cc : Int) == 0) = true := by simp; omega
            have e1 : decide (1 < (cc : Int)) = false := by simp; omega
            have e1' : decide (1 < cc) = false := by simp; omega
            have hc1 : cc ≤ 1 := by omega
            clear hc0
            by_cases h9 : i = 9
            · have e9 : ((i : Int) == 9) = true := by simp; omega
              clear h9
              go_wp2_with fail
              go_ret2
              exact ⟨by rw [← HG2.out]; rfl, rfl⟩
            · have e9 : ((i : Int) == 9) = false := by simp; omega
              go_wp2_with fail
              go_ret2
              exact ⟨by rw [← HG2.out]; rfl, rfl⟩
          · rw [if_neg hC] at hg2
            have HG2 := Lib.hid hg2
            clear hg2 hd
            by_cases h9 : i = 9
            · have hc1 : cc ≤ 1 := by omega
              have e9 : ((i : Int) == 9) = true := by simp; omega
              have e0 : ((cc : Int) == 0) = false := by simp; omega
              have e1 : decide (1 < (cc : Int)) = false := by simp; omega
              have e1' : decide (1 < cc) = false := by simp; omega
              clear h9 hA hC
              go_wp2_with fail
              go_ret2
              exact ⟨by rw [← HG2.out]; rfl, rfl⟩
            · have e9 : ((i : Int) == 9) = false := by simp; omega
              clear hA
              by_cases hc0 : cc = 0
              · have hi0 : i = 0 := by omega
                subst hi0
                have x0' : w.cell? ⟨bb, off + p, none⟩ = some (.int .u8 (cc : Int)) := by rw [Nat.add_zero] at x0; exact x0
                clear x0
                have e0 : ((cc : Int) == 0) = true := by simp; omega
                clear hc0 hC h9
                go_wp2_with fail
                go_ret2
                exact ⟨by rw [← HG2.out]; rfl, rfl⟩
              · have e0 : ((cc : Int) == 0) = false := by simp; omega
                clear hC
                go_wp2_with fail
                go_ret2
                exact ⟨by rw [← HG2.out]; rfl, rfl⟩
    · have HE : Hid (none = R) := Lib.hid (by
        rw [← HG.out]
        have hn := HN.out
        cases hd : (b.drop p).drop i with
        | nil => rfl
        | cons y r =>
          have h1 := congrArg List.length hd
          rw [List.length_drop, List.length_drop, List.length_cons] at h1
          rw [guF, if_pos (by omega)])
      by_cases hin : p + i < n
      · have hi10' : i = 10 := by omega
        subst hi10'
        clear hlt
        go_wp2_with fail
        go_ret2
        exact ⟨by rw [← HE.out]; rfl, rfl⟩
      · clear hlt
        have dge : decide ((n : Int) ≤ (p : Int) + (i : Int)) = true := by simp; omega
        by_cases hi10' : i = 10
        · subst hi10'
          go_wp2_with fail
          go_ret2
          exact ⟨by rw [← HE.out]; rfl, rfl⟩
        have hi9' : i ≤ 9 := by omega
        go_wp2_with fail
        go_ret2
        exact ⟨by rw [← HE.out]; rfl, rfl⟩
end Go.Proofs.YtlmdkcpiimpniaaDoor

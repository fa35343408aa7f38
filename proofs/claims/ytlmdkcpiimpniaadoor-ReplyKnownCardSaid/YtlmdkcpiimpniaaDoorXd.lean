/- list of the document. -/
import Derived.Test.YtlmdkcpiimpniaaDoorXc
namespace Go.Proofs.YtlmdkcpiimpniaaDoor
open Go.ChangeShapes Go.WideShapes Go.ChangeAt Go.RowKit
set_option linter.unusedVariables false
set_option linter.unusedSimpArgs false

theorem rn_some (p m x k : Nat) : rnV (p + m) (some (x, k)) = .tuple #[.int .u64 (x : Int), .int .i64 ((p : Int) + ((m + k : Nat) : Int))] := by
  show Value.tuple #[.int .u64 (x : Int), .int .i64 (((p + m : Nat) : Int) + (k : Int))] = _
  rw [show (((p + m : Nat) : Int) + (k : Int)) = (p : Int) + ((m + k : Nat) : Int) by omega]
def RlS (w : World) (p : Nat) (R : Option (List Nat × Nat)) (e : Ending) (w' : World) : Prop :=
  Below w.heap.size w w' ∧ (R = none → e = .returned (.tuple #[.slice none 0 0, .int .i64 (-1)])) ∧ ∀ l m, R = some (l, m) → ∃ a c, e = .returned (.tuple #[.slice a l.length c, .int .i64 ((p : Int) + ((m : Nat) : Int))]) ∧ OutR 1 (encK .u64) 28 w' w.heap.size (.slice a l.length c) (ns l)
def RlRel (w : World) (N p n : Nat) (b : List Nat) (R : Option (List Nat × Nat)) (v1 v7 v8 : Value) (wr : World) : Prop :=
  ∃ i m l, i ≤ N ∧ p + m ≤ n ∧ l.length = i ∧ v8 = .int .u64 ((i : Nat) : Int) ∧ v1 = .int .i64 ((p : Int) + ((m : Nat) : Int)) ∧ OutR 1 (encK .u64) 28 wr w.heap.size v7 (ns l) ∧ Below w.heap.size w wr ∧ R = restL N i m b l
set_option maxRecDepth 100000 in
set_option maxHeartbeats 8000000 in
theorem rlist {w : World} {a : Option Addr} {n c : Nat} {b : List Nat} (h : IsK .u8 w a n c (ns b)) (hb : By b) (hn : n ≤ 1000000000) {p : Nat} (hp : p ≤ n) :
    Calls Tryd.prog 58 #[.slice a n c, .int .i64 (p : Int)] w (RlS w p (lst (b.drop p))) := by
  obtain ⟨i0, hi, hz0, hz1, hz2⟩ := info_parts info28
  have HNB := Lib.hid h.u8
  have P0 := Lib.hid (rnum h hb hp hn)
  have PG : Hid (∀ wr m, Below w.heap.size w wr → p + m ≤ n → Calls Tryd.prog 72 #[.slice a n c, .int .i64 ((p : Int) + ((m : Nat) : Int))] wr fun e w' => e = .returned (rnV (p + m) (gu ((b.drop p).drop m))) ∧ wr = w') := Lib.hid (fun wr m hbl hm => by
    have := rnum (h.below hbl) hb hm hn
    rw [List.drop_drop]
    rwa [show ((p + m : Nat) : Int) = (p : Int) + ((m : Nat) : Int) by omega] at this)
  have GL : Hid (∀ m x k, p + m ≤ n → gu ((b.drop p).drop m) = some (x, k) → p + (m + k) ≤ n ∧ x < 18446744073709551616) := Lib.hid (fun m x k hm hg => by
    have h1 := (gu_le (By.drop (By.drop hb p) m) hg).2.1
    have h2 := (gu_some (By.drop (By.drop hb p) m) hg).1
    rw [List.length_drop, List.length_drop, ← HNB.out] at h1
    exact ⟨by omega, h2⟩)
  cases hg : gu (b.drop p) with
  | none =>
    rw [hg] at P0
    have HR : Hid (lst (b.drop p) = none) := Lib.hid (by unfold lst; rw [hg]; rfl)
    generalize lst (b.drop p) = R at *
    clear h hb PG GL hg
    unfold rnV at P0
    go_enter Tryd.func58, Tryd.ntmps58
    go_wp2_with fail
    refine (P0.out).mono ?_; rintro e w1 ⟨rfl, rfl⟩
    go_wp2_with fail
    go_ret2
    exact ⟨Below.refl _ _, fun _ => rfl, fun l m h => by rw [HR.out] at h; cases h⟩
  | some q =>
    obtain ⟨N, m0⟩ := q
    rw [hg] at P0
    have hml := gu_le (By.drop hb p) hg
    have hx := (gu_some (By.drop hb p) hg).1
    unfold rnV at P0
    have hm0 : p + m0 ≤ n := by have h1 := hml.2.1; rw [List.length_drop, ← HNB.out] at h1; omega
    by_cases hN : N ≤ 65536
    · have HS := Lib.hid (rest_start hg hN)
      generalize lst (b.drop p) = R at *
      have HLB := Lib.hid (rfl : b.drop p = b.drop p)
      generalize b.drop p = bd at *
      clear h hg hml hb HLB
      have d1 : decide (65536 < (N : Int)) = false := by simp; omega
      have d2 : decide (65536 < N) = false := by simp; omega
      have d0 : decide ((p : Int) + (m0 : Int) < 0) = false := by simp; omega
      go_enter Tryd.func58, Tryd.ntmps58
      go_wp2_with fail
      refine (P0.out).mono ?_; rintro e w1 ⟨rfl, rfl⟩
      go_wp2_with fail
      go_loopw [1, 7, 8] (fun v1 v7 v8 wr => RlRel w N p n bd R v1 v7 v8 wr) (fun _ _ v8 _ => N - (intOf v8).toNat)
      case atStart => exact ⟨0, m0, [], Nat.zero_le _, hm0, rfl, rfl, rfl, ⟨⟨rfl, Or.inl ⟨rfl, rfl⟩⟩, fun g h => by cases h⟩, Below.refl _ _, HS.out⟩
      case round =>
        obtain ⟨i, m, l, hil, hmn, hll, rfl, rfl, hO, hB, hR⟩ := hrel
        clear hx
        have O := Lib.hid hO; have B := Lib.hid hB; have HR := Lib.hid hR
        have hbs := hB.size
        obtain ⟨sa, sc, rfl⟩ := own_shape hO.row
        have hLL : (ns l).length = i := by rw [ns_len]; exact hll
        rw [hLL] at O
        have HLL := Lib.hid hLL
        clear hO hB hR HS
        simp only [hLL]
        by_cases hlt : i < N
        · have PM := Lib.hid (PG.out wr m B.out hmn)
          cases hg : gu (bd.drop m) with
          | none =>
            have HRN := Lib.hid (HR.out.trans (rest_none hlt hg))
            rw [hg] at PM
            unfold rnV at PM
            clear HR hg PG GL
            go_wp2_with fail
            refine (PM.out).mono ?_; rintro e w1 ⟨rfl, rfl⟩
            go_wp2_with fail
            go_ret2
            exact ⟨B.out, fun _ => rfl, fun l m h => by rw [HRN.out] at h; cases h⟩
          | some q =>
            obtain ⟨x, k⟩ := q
            have HRN := Lib.hid (HR.out.trans (rest_some hlt hg))
            rw [hg] at PM
            rw [rn_some] at PM
            obtain ⟨hmk, hxx⟩ := GL.out m x k hmn hg
            have d5 : decide ((p : Int) + ((m + k : Nat) : Int) < 0) = false := by simp; omega
            generalize m + k = mk at *
            clear HR hg PG GL
            go_wp2_with fail
            refine (PM.out).mono ?_; rintro e w1 ⟨rfl, rfl⟩
            go_wp2_with (at_builtin; refine wpList_app rfl (.tmp 36) (.tmp 38) 25 rfl 28 i0 .u64 8 Tryd.underlying25 hi hz0 hz1 hz2 (by decide) rfl O.out hbs (x : Int) rfl (by rw [HLL.out]; omega) ?_)
            intro v5 w5 k1 k2 k3 k4
            have O5 := Lib.hid k1
            have B5 := Lib.hid (B.out.trans k3)
            obtain ⟨a5, c5, rfl⟩ := own_shape k1.row
            generalize (ns l ++ [(x : Int)]).length = n5 at *
            clear k1 k2 k3 k4
            go_wp2_with fail
            go_roundw
            case rel => exact ⟨i + 1, mk, l ++ [x], hlt, hmk, by simp [hll], by go_num, rfl, by rw [ns_cat]; exact O5.out, B5.out, HRN.out⟩
            case measure => simp [intOf]; omega
        · obtain rfl : i = N := by omega
          have HRN := Lib.hid (HR.out.trans (rest_end i m bd l))
          clear HR PG GL
          go_wp2_with fail
          go_ret2
          refine ⟨B.out, fun h => (by rw [HRN.out] at h; cases h), fun l' m' h => ?_⟩
          rw [HRN.out] at h
          cases h
          exact ⟨sa, sc, by rw [hll]; rfl, by rw [hll]; exact O.out⟩
    · have HR : Hid (lst (b.drop p) = none) := Lib.hid (by unfold lst; rw [hg]; show (if N ≤ 65536 then _ else none) = none; rw [if_neg hN])
      generalize lst (b.drop p) = R at *
      clear h hb PG GL hg hml
      have d1 : decide (65536 < (N : Int)) = true := by simp; omega
      have d2 : decide (65536 < N) = true := by simp; omega
      have d0 : decide ((p : Int) + (m0 : Int) < 0) = false := by simp; omega
      go_enter Tryd.func58, Tryd.ntmps58
      go_wp2_with fail
      refine (P0.out).mono ?_; rintro e w1 ⟨rfl, rfl⟩
      go_wp2_with fail
      go_ret2
      exact ⟨Below.refl _ _, fun _ => rfl, fun l m h => by rw [HR.out] at h; cases h⟩
end Go.Proofs.YtlmdkcpiimpniaaDoor

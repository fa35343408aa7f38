/- getList of the program. -/
import Derived.Test.YtlmdkcpiimpniaaDoorGb
import Derived.Test.YtlmdkcpiimpniaaDoorSd
namespace Go.Proofs.YtlmdkcpiimpniaaDoor
open Go.ChangeShapes Go.WideShapes Go.ChangeAt Go.RowKit
set_option linter.unusedVariables false
set_option linter.unusedSimpArgs false

theorem size5x : ∀ w, (sizeOf 5).run Tryd.prog w = .ok 1 w := fun w => by kernel_rfl
theorem ent42 : ∀ (args : Array Value) (w : World), (callFunc 42 args).run Tryd.prog w = .ok (.enter 42 args) w := enters_of Tryd.func42 (by kernel_rfl) rfl
theorem ent44 : ∀ (args : Array Value) (w : World), (callFunc 44 args).run Tryd.prog w = .ok (.enter 44 args) w := enters_of Tryd.func44 (by kernel_rfl) rfl
theorem ns_dropx (b : List Nat) (m : Nat) : (ns b).drop m = ns (b.drop m) := by unfold ns; rw [List.map_drop]
theorem tail_u8 {w : World} {a : Option Addr} {n c : Nat} {b : List Nat} (h : IsK .u8 w a n c (ns b)) {m : Nat} (hm : m ≤ n) : IsK .u8 w (part a m c 1) (n - m) (c - m) (ns (b.drop m)) := by
  have := h.tail (l := m) hm
  rwa [ns_dropx] at this
/-- The rest of a list's reading. -/
def restL (N i m : Nat) (b : List Nat) (l : List Nat) : Option (List Nat × Nat) := (rdL (N - i) (b.drop m)).map fun q => (l ++ q.1, m + q.2)
theorem rest_start {b : List Nat} {N m : Nat} (h : gu b = some (N, m)) (hN : N ≤ 65536) : lst b = restL N 0 m b [] := by
  unfold lst restL
  rw [h]
  show (if N ≤ 65536 then _ else none) = _
  rw [if_pos hN]
  rfl
theorem rest_end (N m : Nat) (b l : List Nat) : restL N N m b l = some (l, m) := by
  unfold restL
  rw [Nat.sub_self]
  show some (l ++ [], m + 0) = _
  rw [List.append_nil, Nat.add_zero]
theorem rest_none {N i m : Nat} {b l : List Nat} (hi : i < N) (h : gu (b.drop m) = none) : restL N i m b l = none := by
  unfold restL
  obtain ⟨k, hk⟩ : ∃ k, N - i = k + 1 := ⟨N - i - 1, by omega⟩
  rw [hk]
  show ((gu (b.drop m)).bind _).map _ = none
  rw [h]
  rfl
theorem rest_some {N i m x k : Nat} {b l : List Nat} (hi : i < N) (h : gu (b.drop m) = some (x, k)) : restL N i m b l = restL N (i + 1) (m + k) b (l ++ [x]) := by
  unfold restL
  obtain ⟨j, hj⟩ : ∃ j, N - i = j + 1 := ⟨N - i - 1, by omega⟩
  rw [hj, show N - (i + 1) = j by omega]
  show ((gu (b.drop m)).bind fun p => (rdL j ((b.drop m).drop p.2)).map fun q => (p.1 :: q.1, p.2 + q.2)).map _ = _
  rw [h]
  show ((rdL j ((b.drop m).drop k)).map fun q => (x :: q.1, k + q.2)).map _ = _
  rw [List.drop_drop]
  cases rdL j (b.drop (m + k)) with
  | none => rfl
  | some q => simp [Nat.add_assoc]
def pgl_uS (w : World) (R : Option (List Nat × Nat)) (e : Ending) (w' : World) : Prop :=
  Below w.heap.size w w' ∧ (R = none → e = .returned (.tuple #[.slice none 0 0, .int .i64 0, .bool false])) ∧ ∀ l m, R = some (l, m) → ∃ a c, e = .returned (.tuple #[.slice a l.length c, .int .i64 ((m : Nat) : Int), .bool true]) ∧ OutR 1 (encK .u64) 28 w' w.heap.size (.slice a l.length c) (ns l)
def pgl_uRel (w : World) (N n : Nat) (b : List Nat) (R : Option (List Nat × Nat)) (v8 v10 v27 : Value) (wr : World) : Prop :=
  ∃ i m l, i ≤ N ∧ m ≤ n ∧ l.length = i ∧ v27 = .int .u64 ((i : Nat) : Int) ∧ v8 = .int .i64 ((m : Nat) : Int) ∧ OutR 1 (encK .u64) 28 wr w.heap.size v10 (ns l) ∧ Below w.heap.size w wr ∧ R = restL N i m b l
set_option maxRecDepth 100000 in
set_option maxHeartbeats 8000000 in
theorem pgl_u {w : World} {a : Option Addr} {n c : Nat} {b : List Nat} (h : IsK .u8 w a n c (ns b)) (hb : By b) (hn : n ≤ 1000000000) :
    Calls Tryd.prog 41 #[.slice a n c, .func (.func 42) #[] #[]] w (pgl_uS w (lst b)) := by
  obtain ⟨i0, hi, hz0, hz1, hz2⟩ := info_parts info28
  have HNB := Lib.hid h.u8
  have hnc := h.hle; have hmx := h.hmax
  unfold maxLen at hmx
  have P0 := Lib.hid (pgu h hb)
  have PG : Hid (∀ wr m, Below w.heap.size w wr → m ≤ n → Calls Tryd.prog 42 #[.slice (part a m c 1) (n - m) (c - m)] wr fun e w' => e = .returned (guV (gu (b.drop m))) ∧ wr = w') := Lib.hid (fun wr m hbl hm => pgu (tail_u8 (h.below hbl) hm) (By.drop hb m))
  have SL : Hid (∀ m, m ≤ n → ∀ w, (Instr.slice 31 (.slice a n c) (some (.int .i64 ((m : Nat) : Int))) none none).run Tryd.prog w = .ok (.slice (part a m c 1) (n - m) (c - m)) w) := Lib.hid (fun m hm => run_from Tryd.underlying31 size5x (a := a) (len := n) (cap := c) (l := (m : Int)) (k := m) rfl hm)
  have GL : Hid (∀ m x k, m ≤ n → gu (b.drop m) = some (x, k) → m + k ≤ n ∧ x < 18446744073709551616) := Lib.hid (fun m x k hm hg => by
    have h1 := (gu_le (By.drop hb m) hg).2.1
    have h2 := (gu_some (By.drop hb m) hg).1
    rw [List.length_drop, ← HNB.out] at h1
    exact ⟨by omega, h2⟩)
  have ec := ent42
  have ec0 := ent42
  cases hg : gu b with
  | none =>
    rw [hg] at P0
    have HR : Hid (lst b = none) := Lib.hid (by unfold lst; rw [hg]; rfl)
    generalize lst b = R at *
    clear h hb PG SL GL hg
    unfold guV at P0
    go_enter Tryd.func41, Tryd.ntmps41
    go_wp2_with fail
    refine (P0.out).mono ?_; rintro e w1 ⟨rfl, rfl⟩
    go_wp2_with fail
    go_ret3
    exact ⟨Below.refl _ _, fun _ => rfl, fun l m h => by rw [HR.out] at h; cases h⟩
  | some p =>
    obtain ⟨N, m0⟩ := p
    rw [hg] at P0
    have hml := gu_le hb hg
    have hx := (gu_some hb hg).1
    unfold guV at P0
    by_cases hN : N ≤ 65536
    · have HS := Lib.hid (rest_start hg hN)
      generalize lst b = R at *
      have hm0 : m0 ≤ n := by rw [HNB.out]; exact hml.2.1
      clear h hg hml hb
      have d1 : decide (65536 < (N : Int)) = false := by simp; omega
      have d2 : decide (65536 < N) = false := by simp; omega
      go_enter Tryd.func41, Tryd.ntmps41
      go_wp2_with fail
      refine (P0.out).mono ?_; rintro e w1 ⟨rfl, rfl⟩
      go_wp2_with fail
      go_loopw [8, 10, 27] (fun v8 v10 v27 wr => pgl_uRel w N n b R v8 v10 v27 wr) (fun _ _ v27 _ => N - (intOf v27).toNat)
      case atStart => exact ⟨0, m0, [], Nat.zero_le _, hm0, rfl, rfl, rfl, ⟨⟨rfl, Or.inl ⟨rfl, rfl⟩⟩, fun g h => by cases h⟩, Below.refl _ _, HS.out⟩
      case round =>
        obtain ⟨i, m, l, hil, hmn, hll, rfl, rfl, hO, hB, hR⟩ := hrel
        have HL := Lib.hid hll
        clear hx
        have O := Lib.hid hO; have B := Lib.hid hB; have HR := Lib.hid hR
        have hbs := hB.size
        obtain ⟨sa, sc, rfl⟩ := own_shape hO.row
        have hLL : (ns l).length = i := by rw [ns_len]; exact hll
        rw [hLL] at O
        have HLL := Lib.hid hLL
        clear hO hB hR HS
        simp only [hLL]
        by_cases hlt : i < N
        · have hsl := SL.out m hmn
          have PM := Lib.hid (PG.out wr m B.out hmn)
          generalize part a m c 1 = pa at *
          cases hg : gu (b.drop m) with
          | none =>
            have HRN := Lib.hid (HR.out.trans (rest_none hlt hg))
            rw [hg] at PM
            unfold guV at PM
            clear HR hg PG SL GL
            go_wp2_with fail
            refine (PM.out).mono ?_; rintro e w1 ⟨rfl, rfl⟩
            go_wp2_with fail
            go_ret3
            exact ⟨B.out, fun _ => rfl, fun l m h => by rw [HRN.out] at h; cases h⟩
          | some p =>
            obtain ⟨x, k⟩ := p
            have HRN := Lib.hid (HR.out.trans (rest_some hlt hg))
            rw [hg] at PM
            unfold guV at PM
            obtain ⟨hmk, hxx⟩ := GL.out m x k hmn hg
            clear HR hg PG SL GL
            go_wp2_with fail
            refine (PM.out).mono ?_; rintro e w1 ⟨rfl, rfl⟩
            go_wp2_with (at_builtin; refine wpList_app rfl (.tmp 40) (.tmp 42) 25 rfl 28 i0 .u64 8 Tryd.underlying25 hi hz0 hz1 hz2 (by decide) rfl O.out hbs (x : Int) rfl (by rw [HLL.out]; omega) ?_)
            intro v5 w5 k1 k2 k3 k4
            have O5 := Lib.hid k1
            have B5 := Lib.hid (B.out.trans k3)
            obtain ⟨a5, c5, rfl⟩ := own_shape k1.row
            generalize (ns l ++ [(x : Int)]).length = n5 at *
            clear k1 k2 k3 k4
            go_wp2_with fail
            go_roundw
            case rel => exact ⟨i + 1, m + k, l ++ [x], hlt, hmk, by simp [hll], by go_num, by go_num, by rw [ns_cat]; exact O5.out, B5.out, HRN.out⟩
            case measure => simp [intOf]; omega
        · obtain rfl : i = N := by omega
          have HRN := Lib.hid (HR.out.trans (rest_end i m b l))
          clear HR PG SL GL
          go_wp2_with fail
          go_ret3
          refine ⟨B.out, fun h => (by rw [HRN.out] at h; cases h), fun l' m' h => ?_⟩
          rw [HRN.out] at h
          cases h
          exact ⟨sa, sc, by rw [hll]; rfl, by rw [hll]; exact O.out⟩
    · have HR : Hid (lst b = none) := Lib.hid (by unfold lst; rw [hg]; show (if N ≤ 65536 then _ else none) = none; rw [if_neg hN])
      generalize lst b = R at *
      clear h hb PG SL GL hg
      have d1 : decide (65536 < (N : Int)) = true := by simp; omega
      have d2 : decide (65536 < N) = true := by simp; omega
      go_enter Tryd.func41, Tryd.ntmps41
      go_wp2_with fail
      refine (P0.out).mono ?_; rintro e w1 ⟨rfl, rfl⟩
      go_wp2_with fail
      go_ret3
      exact ⟨Below.refl _ _, fun _ => rfl, fun l m h => by rw [HR.out] at h; cases h⟩
def pgl_iS (w : World) (R : Option (List Nat × Nat)) (e : Ending) (w' : World) : Prop :=
  Below w.heap.size w w' ∧ (R = none → e = .returned (.tuple #[.slice none 0 0, .int .i64 0, .bool false])) ∧ ∀ l m, R = some (l, m) → ∃ a c, e = .returned (.tuple #[.slice a l.length c, .int .i64 ((m : Nat) : Int), .bool true]) ∧ OutR 1 (encK .i64) 2 w' w.heap.size (.slice a l.length c) (l.map unf)
def pgl_iRel (w : World) (N n : Nat) (b : List Nat) (R : Option (List Nat × Nat)) (v8 v10 v27 : Value) (wr : World) : Prop :=
  ∃ i m l, i ≤ N ∧ m ≤ n ∧ l.length = i ∧ v27 = .int .u64 ((i : Nat) : Int) ∧ v8 = .int .i64 ((m : Nat) : Int) ∧ OutR 1 (encK .i64) 2 wr w.heap.size v10 (l.map unf) ∧ Below w.heap.size w wr ∧ R = restL N i m b l
set_option maxRecDepth 100000 in
set_option maxHeartbeats 8000000 in
theorem pgl_i {w : World} {a : Option Addr} {n c : Nat} {b : List Nat} (h : IsK .u8 w a n c (ns b)) (hb : By b) (hn : n ≤ 1000000000) :
    Calls Tryd.prog 43 #[.slice a n c, .func (.func 44) #[] #[]] w (pgl_iS w (lst b)) := by
  obtain ⟨i0, hi, hz0, hz1, hz2⟩ := info_parts info2
  have HNB := Lib.hid h.u8
  have hnc := h.hle; have hmx := h.hmax
  unfold maxLen at hmx
  have P0 := Lib.hid (pgu h hb)
  have PG : Hid (∀ wr m, Below w.heap.size w wr → m ≤ n → Calls Tryd.prog 44 #[.slice (part a m c 1) (n - m) (c - m)] wr fun e w' => e = .returned (giV (gu (b.drop m))) ∧ wr = w') := Lib.hid (fun wr m hbl hm => pgi (tail_u8 (h.below hbl) hm) (By.drop hb m))
  have SL : Hid (∀ m, m ≤ n → ∀ w, (Instr.slice 31 (.slice a n c) (some (.int .i64 ((m : Nat) : Int))) none none).run Tryd.prog w = .ok (.slice (part a m c 1) (n - m) (c - m)) w) := Lib.hid (fun m hm => run_from Tryd.underlying31 size5x (a := a) (len := n) (cap := c) (l := (m : Int)) (k := m) rfl hm)
  have GL : Hid (∀ m x k, m ≤ n → gu (b.drop m) = some (x, k) → m + k ≤ n ∧ x < 18446744073709551616) := Lib.hid (fun m x k hm hg => by
    have h1 := (gu_le (By.drop hb m) hg).2.1
    have h2 := (gu_some (By.drop hb m) hg).1
    rw [List.length_drop, ← HNB.out] at h1
    exact ⟨by omega, h2⟩)
  have ec := ent44
  have ec0 := ent42
  cases hg : gu b with
  | none =>
    rw [hg] at P0
    have HR : Hid (lst b = none) := Lib.hid (by unfold lst; rw [hg]; rfl)
    generalize lst b = R at *
    clear h hb PG SL GL hg
    unfold guV at P0
    go_enter Tryd.func43, Tryd.ntmps43
    go_wp2_with fail
    refine (P0.out).mono ?_; rintro e w1 ⟨rfl, rfl⟩
    go_wp2_with fail
    go_ret3
    exact ⟨Below.refl _ _, fun _ => rfl, fun l m h => by rw [HR.out] at h; cases h⟩
  | some p =>
    obtain ⟨N, m0⟩ := p
    rw [hg] at P0
    have hml := gu_le hb hg
    have hx := (gu_some hb hg).1
    unfold guV at P0
    by_cases hN : N ≤ 65536
    · have HS := Lib.hid (rest_start hg hN)
      generalize lst b = R at *
      have hm0 : m0 ≤ n := by rw [HNB.out]; exact hml.2.1
      clear h hg hml hb
      have d1 : decide (65536 < (N : Int)) = false := by simp; omega
      have d2 : decide (65536 < N) = false := by simp; omega
      go_enter Tryd.func43, Tryd.ntmps43
      go_wp2_with fail
      refine (P0.out).mono ?_; rintro e w1 ⟨rfl, rfl⟩
      go_wp2_with fail
      go_loopw [8, 10, 27] (fun v8 v10 v27 wr => pgl_iRel w N n b R v8 v10 v27 wr) (fun _ _ v27 _ => N - (intOf v27).toNat)
      case atStart => exact ⟨0, m0, [], Nat.zero_le _, hm0, rfl, rfl, rfl, ⟨⟨rfl, Or.inl ⟨rfl, rfl⟩⟩, fun g h => by cases h⟩, Below.refl _ _, HS.out⟩
      case round =>
        obtain ⟨i, m, l, hil, hmn, hll, rfl, rfl, hO, hB, hR⟩ := hrel
        have HL := Lib.hid hll
        clear hx
        have O := Lib.hid hO; have B := Lib.hid hB; have HR := Lib.hid hR
        have hbs := hB.size
        obtain ⟨sa, sc, rfl⟩ := own_shape hO.row
        have hLL : (l.map unf).length = i := by rw [List.length_map]; exact hll
        rw [hLL] at O
        have HLL := Lib.hid hLL
        clear hO hB hR HS
        simp only [hLL]
        by_cases hlt : i < N
        · have hsl := SL.out m hmn
          have PM := Lib.hid (PG.out wr m B.out hmn)
          generalize part a m c 1 = pa at *
          cases hg : gu (b.drop m) with
          | none =>
            have HRN := Lib.hid (HR.out.trans (rest_none hlt hg))
            rw [hg] at PM
            unfold giV at PM
            clear HR hg PG SL GL
            go_wp2_with fail
            refine (PM.out).mono ?_; rintro e w1 ⟨rfl, rfl⟩
            go_wp2_with fail
            go_ret3
            exact ⟨B.out, fun _ => rfl, fun l m h => by rw [HRN.out] at h; cases h⟩
          | some p =>
            obtain ⟨x, k⟩ := p
            have HRN := Lib.hid (HR.out.trans (rest_some hlt hg))
            rw [hg] at PM
            unfold giV at PM
            obtain ⟨hmk, hxx⟩ := GL.out m x k hmn hg
            clear HR hg PG SL GL
            go_wp2_with fail
            refine (PM.out).mono ?_; rintro e w1 ⟨rfl, rfl⟩
            go_wp2_with (at_builtin; refine wpList_app rfl (.tmp 40) (.tmp 42) 23 rfl 2 i0 .i64 8 Tryd.underlying23 hi hz0 hz1 hz2 (by decide) rfl O.out hbs (unf x) rfl (by rw [HLL.out]; omega) ?_)
            intro v5 w5 k1 k2 k3 k4
            have O5 := Lib.hid k1
            have B5 := Lib.hid (B.out.trans k3)
            obtain ⟨a5, c5, rfl⟩ := own_shape k1.row
            generalize (l.map unf ++ [(unf x)]).length = n5 at *
            clear k1 k2 k3 k4
            go_wp2_with fail
            go_roundw
            case rel => exact ⟨i + 1, m + k, l ++ [x], hlt, hmk, by simp [hll], by go_num, by go_num, by rw [List.map_append]; exact O5.out, B5.out, HRN.out⟩
            case measure => simp [intOf]; omega
        · obtain rfl : i = N := by omega
          have HRN := Lib.hid (HR.out.trans (rest_end i m b l))
          clear HR PG SL GL
          go_wp2_with fail
          go_ret3
          refine ⟨B.out, fun h => (by rw [HRN.out] at h; cases h), fun l' m' h => ?_⟩
          rw [HRN.out] at h
          cases h
          exact ⟨sa, sc, by rw [hll]; rfl, by rw [hll]; exact O.out⟩
    · have HR : Hid (lst b = none) := Lib.hid (by unfold lst; rw [hg]; show (if N ≤ 65536 then _ else none) = none; rw [if_neg hN])
      generalize lst b = R at *
      clear h hb PG SL GL hg
      have d1 : decide (65536 < (N : Int)) = true := by simp; omega
      have d2 : decide (65536 < N) = true := by simp; omega
      go_enter Tryd.func43, Tryd.ntmps43
      go_wp2_with fail
      refine (P0.out).mono ?_; rintro e w1 ⟨rfl, rfl⟩
      go_wp2_with fail
      go_ret3
      exact ⟨Below.refl _ _, fun _ => rfl, fun l m h => by rw [HR.out] at h; cases h⟩
end Go.Proofs.YtlmdkcpiimpniaaDoor

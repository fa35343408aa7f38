/- Strings by index and by parts; the document's number. -/
import Derived.Test.YtabihdhgonnihaaDoorV
namespace Go.Proofs.YtabihdhgonnihaaDoor
open Go.ChangeShapes Go.WideShapes Go.ChangeAt Go.RowKit
set_option linter.unusedVariables false
set_option linter.unusedSimpArgs false

theorem bsz (s : Str) : (⟨s.toArray⟩ : ByteArray).size = s.length := by simp [ByteArray.size]
theorem bget (s : Str) (i : Nat) (h : i < (⟨s.toArray⟩ : ByteArray).size) : (⟨s.toArray⟩ : ByteArray)[i]'h = s[i]'(by rw [bsz] at h; exact h) := by
  show s.toArray[i]'(by rw [bsz] at h; simpa using h) = _
  simp
theorem run_ix (s : Str) {i : Nat} (hi : i < s.length) (w : World) : (Instr.index 9 (.string ⟨s.toArray⟩) (.int .i64 (i : Int))).run Tryd.prog w = .ok (.int .u8 ((s[i]).toNat : Int)) w := by
  rw [run_index_string w 9 ⟨s.toArray⟩ .i64 i Tryd.underlying9, dif_pos (by rw [bsz]; omega)]
  simp only [Int.toNat_natCast, bget]
theorem run_sl (s : Str) {i j : Nat} (hij : i ≤ j) (hj : j ≤ s.length) (w : World) : (Instr.slice 9 (.string ⟨s.toArray⟩) (some (.int .i64 (i : Int))) (some (.int .i64 (j : Int))) none).run Tryd.prog w = .ok (.string ⟨((s.drop i).take (j - i)).toArray⟩) w := by
  rw [run_slice_string w 9 ⟨s.toArray⟩ .i64 .i64 i j Tryd.underlying9 (by omega) (by omega) (by rw [bsz]; omega)]
  rw [Int.toNat_natCast, Int.toNat_natCast, ByteArray.extract_mk]
theorem run_to_ (s : Str) {j : Nat} (hj : j ≤ s.length) (w : World) : (Instr.slice 9 (.string ⟨s.toArray⟩) none (some (.int .i64 (j : Int))) none).run Tryd.prog w = .ok (.string ⟨(s.take j).toArray⟩) w := by
  rw [run_slice_string_h w 9 ⟨s.toArray⟩ Tryd.underlying9 .i64 j (by omega) (by rw [bsz]; omega)]
  rw [Int.toNat_natCast, ByteArray.extract_mk]; simp
theorem run_from_ (s : Str) {i : Nat} (hi : i ≤ s.length) (w : World) : (Instr.slice 9 (.string ⟨s.toArray⟩) (some (.int .i64 (i : Int))) none none).run Tryd.prog w = .ok (.string ⟨(s.drop i).toArray⟩) w := by
  rw [run_slice_string_l w 9 ⟨s.toArray⟩ Tryd.underlying9 .i64 i (by omega) (by rw [bsz]; omega)]
  rw [Int.toNat_natCast, bsz, ByteArray.extract_mk, List.take_of_length_le (by rw [List.length_drop]; exact Nat.le_refl _)]
/-- How the document's number goes on. -/
theorem vl_take {s : Str} {i : Nat} (hi : i < s.length) (a : Nat) : vl a (s.take (i + 1)) = vl a (s.take i) * 10 + (s[i].toNat - 48) := by
  rw [List.take_succ_eq_append_getElem hi, vl_snoc]
theorem vl_lt : ∀ (n : Nat) (s : Str), s.length = n → (∀ c ∈ s, isD c = true) → vl 0 s < 10 ^ n
  | 0, s, h, _ => by
    have e := List.eq_nil_of_length_eq_zero h
    subst e
    decide
  | n + 1, s, h, hd => by
    have hne : s ≠ [] := fun e => by rw [e] at h; cases h
    obtain ⟨t, c, rfl⟩ : ∃ t c, s = t ++ [c] := ⟨s.dropLast, s.getLast hne, (List.dropLast_concat_getLast hne).symm⟩
    have h1 := vl_lt n t (by simpa using h) (fun x hx => hd x (by simp [hx]))
    have hc := isD_iff.1 (hd c (by simp))
    rw [vl_snoc, Nat.pow_succ]
    omega
theorem vl_lt19 {s : Str} (hl : s.length ≤ 19) (hd : ∀ c ∈ s, isD c = true) : vl 0 s < 10 ^ 19 :=
  Nat.lt_of_lt_of_le (vl_lt s.length s rfl hd) (Nat.pow_le_pow_right (by decide) hl)
theorem vl_le19 {s : Str} (hl : s.length ≤ 19) (hd : ∀ c ∈ s, isD c = true) : vl 0 s ≤ 9999999999999999999 := by
  have h := vl_lt19 hl hd
  have e : (10 : Nat) ^ 19 = 9999999999999999999 + 1 := by kernel_rfl
  rw [e] at h
  exact Nat.lt_succ_iff.1 h
def NoR (o : Option Nat) (e : Ending) : Prop := match o with
  | none => e = .returned (.tuple #[.int .i64 0, .bool false])
  | some u => e = .returned (.tuple #[.int .i64 (u : Nat), .bool true])
theorem num_long {s : Str} (h : 19 < s.length) : num s = none := by
  cases hn : num s with
  | none => rfl
  | some u =>
    obtain ⟨rfl, hu⟩ := num_iff.1 hn
    have := dec_len19 hu
    omega
theorem num_zero {s : Str} (h : s.head? = some 48) (hl : 1 < s.length) : num s = none := by
  unfold num
  rw [if_neg]
  rintro ⟨_, _, h3, _⟩
  have := h3 h; omega
theorem num_nodig {s : Str} {i : Nat} (hi : i < s.length) (h : isD s[i] = false) : num s = none := by
  unfold num
  rw [if_neg]
  rintro ⟨_, h2, _, _⟩
  have := List.all_eq_true.1 h2 s[i] (List.getElem_mem hi)
  rw [h] at this; cases this
theorem num_good {s : Str} (hne : s ≠ []) (hd : ∀ c ∈ s, isD c = true) (hz : ¬ (s.head? = some 48 ∧ 1 < s.length)) : num s = if 9223372036854775807 < vl 0 s then none else some (vl 0 s) := by
  unfold num
  by_cases h : 9223372036854775807 < vl 0 s
  · rw [if_pos h, if_neg]; rintro ⟨_, _, _, h4⟩; omega
  · have h1 : 0 < s.length := List.length_pos_iff.2 hne
    rw [if_neg h, if_pos ⟨hne, List.all_eq_true.2 hd, fun e => by by_cases hl : 1 < s.length; exact absurd ⟨e, hl⟩ hz; omega, by omega⟩]
def NbRel (w : World) (s : Str) (v4 v5 : Value) (wr : World) : Prop := ∃ i : Nat, i ≤ s.length ∧ v5 = .int .i64 (i : Int) ∧ v4 = .int .u64 ((vl 0 (s.take i) : Nat) : Int) ∧ (∀ c ∈ s.take i, isD c = true) ∧ w = wr
set_option maxRecDepth 100000 in
set_option maxHeartbeats 2000000 in
theorem rnumber (s : Str) (hs : s.length ≤ 1000000) (w : World) : Calls Tryd.prog 71 #[.string ⟨s.toArray⟩] w fun e w' => NoR (num s) e ∧ w = w' := by
  by_cases h0 : s = []
  · subst h0
    go_enter Tryd.func71, Tryd.ntmps71
    go_wp2_with fail
    go_ret2
    exact ⟨rfl, rfl⟩
  have hlp : 0 < s.length := List.length_pos_iff.2 h0
  by_cases hlong : 19 < s.length
  · have HN := Lib.hid (num_long hlong)
    have e1 : decide ((s.length : Int) < 1) = false := by simp; omega
    have e2 : decide ((19 : Int) < (s.length : Int)) = true := by simp; omega
    have e3 : decide (s.length < 1) = false := by simp; omega
    have e4 : decide (19 < s.length) = true := by simp; omega
    go_enter Tryd.func71, Tryd.ntmps71
    go_wp2_with fail
    go_ret2
    exact ⟨by rw [HN.out]; rfl, rfl⟩
  have hbg := bget s
  have e1 : decide ((s.length : Int) < 1) = false := by simp; omega
  have e2 : decide ((19 : Int) < (s.length : Int)) = false := by simp; omega
  have e3 : decide (s.length < 1) = false := by simp; omega
  have e4 : decide (19 < s.length) = false := by simp; omega
  have hh : s.head? = some s[0] := by cases s with | nil => exact absurd rfl h0 | cons a l => rfl
  by_cases hz : s[0] = 48 ∧ 1 < s.length
  · have HN := Lib.hid (num_zero (by rw [hh, hz.1]) hz.2)
    have e5 : decide ((1 : Int) < (s.length : Int)) = true := by simp; omega
    have e6 : decide (1 < s.length) = true := by simp; omega
    have e8 : ((s[0].toNat : Int) == 48) = true := by rw [hz.1]; rfl
    have e9 : (s[0].toNat : Int) = 48 := by rw [hz.1]; rfl
    clear hh hz hs hlong
    go_enter Tryd.func71, Tryd.ntmps71
    go_wp2_with fail
    go_ret2
    exact ⟨by rw [HN.out]; rfl, rfl⟩
  have HG := Lib.hid (fun hd => num_good (s := s) h0 hd (by rw [hh]; rintro ⟨h1, h2⟩; exact hz ⟨Option.some.inj h1, h2⟩))
  have HB := Lib.hid (fun i (hi : i < s.length) (h : isD s[i] = false) => num_nodig hi h)
  have HL := Lib.hid (show s.length ≤ 19 by omega)
  have hcase : (((s[0].toNat : Int) == 48) = true ∧ decide ((1 : Int) < (s.length : Int)) = false ∧ decide (1 < s.length) = false ∧ (s[0].toNat : Int) = 48) ∨ (((s[0].toNat : Int) == 48) = false ∧ ¬ (s[0].toNat : Int) = 48) := by
    by_cases h1 : s[0] = 48
    · have h2 : ¬ 1 < s.length := fun h => hz ⟨h1, h⟩
      exact Or.inl ⟨by rw [h1]; rfl, by simp; omega, by simp; omega, by rw [h1]; rfl⟩
    · have h3 : ¬ (s[0].toNat : Int) = 48 := fun e => h1 (UInt8.toNat_inj.1 (by show s[0].toNat = 48; omega))
      exact Or.inr ⟨by simpa using h3, h3⟩
  clear hh hz
  rcases hcase with ⟨f1, f2, f3, f4⟩ | ⟨f1, f2⟩
  all_goals
    go_enter Tryd.func71, Tryd.ntmps71
    go_wp2_with fail
    go_loopw [4, 5] (fun v4 v5 wr => NbRel w s v4 v5 wr) (fun _ v5 _ => s.length - (intOf v5).toNat)
    case atStart => exact ⟨0, Nat.zero_le _, rfl, rfl, fun c hc => by simp at hc, rfl⟩
    case round =>
      obtain ⟨i, hi, rfl, rfl, hd, rfl⟩ := hrel
      have HD := Lib.hid hd
      clear hd
      by_cases hlt : i < s.length
      · have hbi := bget s i (by rw [bsz]; exact hlt)
        have TK := Lib.hid (vl_take hlt 0)
        have DN : Hid (isD s[i] = true → ∀ c ∈ s.take (i + 1), isD c = true) := Lib.hid (fun h c hc => by
          rw [List.take_succ_eq_append_getElem hlt] at hc
          rcases List.mem_append.1 hc with hc | hc
          · exact HD.out c hc
          · rw [List.mem_singleton.1 hc]; exact h)
        have HBI := Lib.hid (HB.out i hlt)
        have hVL := fun (h : isD s[i] = true) => vl_le19 (s := s.take (i + 1)) (by rw [List.length_take]; have := HL.out; omega) (DN.out h)
        rw [TK.out] at hVL
        have hD : isD s[i] = decide (48 ≤ s[i].toNat ∧ s[i].toNat ≤ 57) := by simp [isD]
        rw [hD] at hVL HBI DN
        have hc8 := UInt8.toNat_lt s[i]
        generalize hv : vl 0 (s.take i) = v at *
        clear hD hv
        by_cases h1 : s[i].toNat < 48
        · have g1 : decide ((s[i].toNat : Int) < 48) = true := by simp; omega
          have g2 : decide (s[i].toNat < 48) = true := by simpa using h1
          have HN := Lib.hid (HBI.out (by simp; omega))
          clear hVL h1 HBI DN
          go_wp2_with fail
          go_ret2
          exact ⟨by rw [HN.out]; rfl, rfl⟩
        have g1 : decide ((s[i].toNat : Int) < 48) = false := by simp; omega
        have g2 : decide (s[i].toNat < 48) = false := by simpa using h1
        by_cases h2 : 57 < s[i].toNat
        · have g3 : decide ((57 : Int) < (s[i].toNat : Int)) = true := by simp; omega
          have g4 : decide (57 < s[i].toNat) = true := by simpa using h2
          have HN := Lib.hid (HBI.out (by simp; omega))
          clear hVL h1 h2 HBI DN
          go_wp2_with fail
          go_ret2
          exact ⟨by rw [HN.out]; rfl, rfl⟩
        have g3 : decide ((57 : Int) < (s[i].toNat : Int)) = false := by simp; omega
        have g4 : decide (57 < s[i].toNat) = false := by simpa using h2
        have hV := hVL (by simp; omega)
        have DN2 := Lib.hid (DN.out (by simp; omega))
        have q1 : IntKind.u8.wrap ((s[i].toNat : Int) - 48) = ((s[i].toNat - 48 : Nat) : Int) := by
          rw [show (s[i].toNat : Int) - 48 = ((s[i].toNat - 48 : Nat) : Int) by omega]; exact IntWalk.u8_in _ (by omega)
        have q2 : IntKind.u64.wrap ((v : Int) * 10) = ((v * 10 : Nat) : Int) := by
          rw [show (v : Int) * 10 = ((v * 10 : Nat) : Int) by omega]; exact IntWalk.u64_in _ (by omega)
        have q3 : IntKind.u64.wrap (((v * 10 : Nat) : Int) + ((s[i].toNat - 48 : Nat) : Int)) = ((v * 10 + (s[i].toNat - 48) : Nat) : Int) := by
          rw [show ((v * 10 : Nat) : Int) + ((s[i].toNat - 48 : Nat) : Int) = ((v * 10 + (s[i].toNat - 48) : Nat) : Int) by omega]; exact IntWalk.u64_in _ (by omega)
        clear hVL HBI DN
        go_wp2_with fail
        go_roundw
        case rel => exact ⟨i + 1, hlt, by go_num, by rw [TK.out]; simp, DN2.out, rfl⟩
        case measure => simp [intOf]; omega
      · have hie : s.take i = s := List.take_of_length_le (by omega)
        have HD2 : Hid (∀ c ∈ s, isD c = true) := Lib.hid (fun c hc => HD.out c (by rw [hie]; exact hc))
        rw [hie]
        have HN := Lib.hid (HG.out HD2.out)
        have hV := vl_le19 HL.out HD2.out
        clear hie
        by_cases hbig : 9223372036854775807 < vl 0 s
        · rw [if_pos hbig] at HN
          have g1 : decide ((9223372036854775807 : Int) < (vl 0 s : Int)) = true := by simp; omega
          have g2 : decide (9223372036854775807 < vl 0 s) = true := by simpa using hbig
          go_wp2_with fail
          go_ret2
          exact ⟨by rw [HN.out]; rfl, rfl⟩
        · rw [if_neg hbig] at HN
          have g1 : decide ((9223372036854775807 : Int) < (vl 0 s : Int)) = false := by simp; omega
          have g2 : decide (9223372036854775807 < vl 0 s) = false := by simpa using hbig
          generalize vl 0 s = v at *
          go_wp2_with fail
          go_ret2
          exact ⟨by rw [HN.out]; rfl, rfl⟩
end Go.Proofs.YtabihdhgonnihaaDoor

/- The library's functions at lists of bytes; number and find. -/
import Derived.Test.YtabihdhgonnihaaDoorI
import Derived.WalkSmall
namespace Go.Proofs.YtabihdhgonnihaaDoor
open Go.ChangeShapes Go.WideShapes Go.ChangeAt Go.RowKit
set_option linter.unusedVariables false
set_option linter.unusedSimpArgs false

theorem l_cut {w : World} (h : Env w) (c : UInt8) {s : Str} (hs : s.length < 4294967281) :
    Calls Tryd.prog 59 #[.string ⟨s.toArray⟩, .string ⟨#[c]⟩] w fun e w' => e = .returned (.tuple #[.string ⟨(cutc c s).1.toArray⟩, .string ⟨(cutc c s).2.1.toArray⟩, .bool (cutc c s).2.2]) ∧ Below w.heap.size w w' := by
  obtain ⟨m, hm⟩ := h.mx
  refine (Any.strings_Cut Tryd.lays145 ⟨s.toArray⟩ ⟨#[c]⟩ m w (by simpa [ByteArray.size] using hs) hm).mono fun e w' hh => ?_
  obtain ⟨he, n, rfl⟩ := hh
  refine ⟨?_, below_drewN (Below.refl _ _) n⟩
  rw [he, show Lib.cut (⟨s.toArray⟩ : ByteArray).data.toList (⟨#[c]⟩ : ByteArray).data.toList = cutc c s from cut_one c s]
theorem l_fmt {w : World} (h : Env w) {n : Int} (h0 : -9223372036854775808 ≤ n) (h1 : n ≤ 9223372036854775807) :
    Calls Tryd.prog 76 #[.int .i64 n, .int .i64 10] w fun e w' => e = .returned (.string ⟨(Lib.itoa n).toArray⟩) ∧ Below w.heap.size w w' := by
  refine (Any.strconv_FormatInt_10 Tryd.laysM173 n h0 h1 w h.pow).mono fun e w' hh => ?_
  obtain ⟨he, k, os, rfl⟩ := hh
  exact ⟨he, Lib.below_grow w.heap.size w (Nat.le_refl _) k os⟩
theorem l_parse_ok {w : World} (h : Env w) {s : Str} (hs : s.length ≤ 281474976710656) {v : Int} (hp : Lib.parseIntB 64 s = .ok v) :
    Calls Tryd.prog 75 #[.string ⟨s.toArray⟩, .int .i64 10, .int .i64 64] w fun e w' => e = .returned (.tuple #[.int .i64 v, .nilIface]) ∧ Below w.heap.size w w' := by
  refine (Any.strconv_ParseInt_10_at64_ok Tryd.laysC174 ⟨s.toArray⟩ (by simp [ByteArray.size]; omega) v hp w).mono fun e w' hh => ?_
  obtain ⟨he, rfl | ⟨t, rfl⟩⟩ := hh
  · exact ⟨he, Below.refl _ _⟩
  · exact ⟨he, Lib.bytesWorld_below _ _ _⟩
theorem l_parse_bad {w : World} (h : Env w) {s : Str} (hs : s.length ≤ 281474976710656) (hp : ∀ v, Lib.parseIntB 64 s ≠ .ok v) :
    Calls Tryd.prog 75 #[.string ⟨s.toArray⟩, .int .i64 10, .int .i64 64] w fun e w' => ∃ x p, e = .returned (.tuple #[.int .i64 x, .iface 146 (.pointer p)]) ∧ Below w.heap.size w w' := by
  obtain ⟨ts, ps, hsyn⟩ := h.syn
  obtain ⟨tr, pr, hrng⟩ := h.rng
  rcases hq : Lib.parseIntB 64 s with v | _ | _
  · exact absurd hq (hp v)
  · first
    | refine (Any.strconv_ParseInt_10_at64_syntax Tryd.laysC174 ⟨s.toArray⟩ (by simpa [ByteArray.size] using hs) hq _ w hsyn (Or.inr ⟨_, _, rfl⟩)).mono fun e w' hh => ?_
      obtain ⟨N, he, _, _, hb⟩ := hh
      exact ⟨_, _, he, hb⟩
    | refine (Any.strconv_ParseInt_10_at64_range Tryd.laysC174 ⟨s.toArray⟩ (by simpa [ByteArray.size] using hs) hq _ w hrng (Or.inr ⟨_, _, rfl⟩)).mono fun e w' hh => ?_
      obtain ⟨N, he, _, _, hb⟩ := hh
      exact ⟨_, _, he, hb⟩
  · first
    | refine (Any.strconv_ParseInt_10_at64_syntax Tryd.laysC174 ⟨s.toArray⟩ (by simpa [ByteArray.size] using hs) hq _ w hsyn (Or.inr ⟨_, _, rfl⟩)).mono fun e w' hh => ?_
      obtain ⟨N, he, _, _, hb⟩ := hh
      exact ⟨_, _, he, hb⟩
    | refine (Any.strconv_ParseInt_10_at64_range Tryd.laysC174 ⟨s.toArray⟩ (by simpa [ByteArray.size] using hs) hq _ w hrng (Or.inr ⟨_, _, rfl⟩)).mono fun e w' hh => ?_
      obtain ⟨N, he, _, _, hb⟩ := hh
      exact ⟨_, _, he, hb⟩
theorem str_inj {a b : Str} (h : (⟨a.toArray⟩ : ByteArray) = ⟨b.toArray⟩) : a = b := by
  have := congrArg (fun x : ByteArray => x.data.toList) h
  simpa using this
theorem beq_str {a b : Str} (h : a ≠ b) : (a == b) = false := by simpa using h
abbrev PN : Ending := .panicked [{ v := .iface 98 (.agg #[]), recovered := false }]
def NumR (o : Option Nat) (e : Ending) : Prop := match o with
  | none => e = PN
  | some u => e = .returned (.int .i64 (u : Nat))
set_option maxRecDepth 100000 in
set_option maxHeartbeats 4000000 in
theorem pnumber {w : World} (h : Env w) {s : Str} (hs : s.length ≤ 1000000) :
    Calls Tryd.prog 61 #[.string ⟨s.toArray⟩] w fun e w' => NumR (num s) e ∧ Below w.heap.size w w' := by
  by_cases hp : ∃ v, Lib.parseIntB 64 s = .ok v
  · obtain ⟨v, hv⟩ := hp
    have P := Lib.hid (l_parse_ok h (s := s) (by omega) hv)
    have hb := Lib.parseIntB_bounds hv
    have hb0 : -9223372036854775808 ≤ v ∧ v ≤ 9223372036854775807 := by
      obtain ⟨h1, h2⟩ := hb
      have e63 : ((2 ^ (64 - 1) : Nat) : Int) = 9223372036854775808 := by decide
      rw [e63] at h1 h2
      omega
    have F : Hid (∀ w1, Below w.heap.size w w1 → Calls Tryd.prog 76 #[.int .i64 v, .int .i64 10] w1 fun e w' => e = .returned (.string ⟨(Lib.itoa v).toArray⟩) ∧ Below w1.heap.size w1 w') := Lib.hid (fun w1 h1 => l_fmt (h.below h1) hb0.1 hb0.2)
    rw [num_parse hv]
    by_cases hn : v < 0
    · rw [if_neg (fun hh => absurd hh.1 (by omega))]
      have e1 : decide (v < 0) = true := by simpa using hn
      clear h hs hv hb hb0 F
      go_enter Tryd.func61, Tryd.ntmps61
      go_wp2_with fail
      refine (P.out).mono ?_; rintro e w1 ⟨rfl, hb1⟩
      have B := Lib.hid hb1; clear hb1 P
      go_wp2_with fail
      exact ⟨rfl, rfl, B.out⟩
    · have e1 : decide (v < 0) = false := by simpa using hn
      by_cases hi : Lib.itoa v = s
      · rw [if_pos ⟨by omega, hi⟩]
        have hi' := hi
        generalize Lib.itoa v = q at *
        subst hi
        clear h hs hv hb hb0 hi'
        go_enter Tryd.func61, Tryd.ntmps61
        go_wp2_with fail
        refine (P.out).mono ?_; rintro e w1 ⟨rfl, hb1⟩
        have G := Lib.hid (F.out w1 hb1)
        have B := Lib.hid hb1; clear hb1 P F
        go_wp2_with fail
        refine (G.out).mono ?_; rintro e w2 ⟨rfl, hb2⟩
        have B2 := Lib.hid (B.out.trans (hb2.mono B.out.size)); clear hb2 G
        go_wp2_with fail
        go_ret
        exact ⟨ret_int (Int.toNat_of_nonneg (by simpa using hn)).symm, B2.out⟩
      · rw [if_neg (fun hh => hi hh.2)]
        have hne := beq_str hi
        clear h hs hv hb hb0 hi
        go_enter Tryd.func61, Tryd.ntmps61
        go_wp2_with fail
        refine (P.out).mono ?_; rintro e w1 ⟨rfl, hb1⟩
        have G := Lib.hid (F.out w1 hb1)
        have B := Lib.hid hb1; clear hb1 P F
        go_wp2_with fail
        refine (G.out).mono ?_; rintro e w2 ⟨rfl, hb2⟩
        have B2 := Lib.hid (B.out.trans (hb2.mono B.out.size)); clear hb2 G
        go_wp2_with fail
        exact ⟨rfl, rfl, B2.out⟩
  · have hp' : ∀ v, Lib.parseIntB 64 s ≠ .ok v := fun v hv => hp ⟨v, hv⟩
    have P := Lib.hid (l_parse_bad h (s := s) (by omega) hp')
    rw [num_bad hp']
    clear h hs hp hp'
    go_enter Tryd.func61, Tryd.ntmps61
    go_wp2_with fail
    refine (P.out).mono ?_; rintro e w1 ⟨x, p, rfl, hb1⟩
    have B := Lib.hid hb1; clear hb1 P
    go_wp2_with fail
    exact ⟨rfl, rfl, B.out⟩
end Go.Proofs.YtabihdhgonnihaaDoor

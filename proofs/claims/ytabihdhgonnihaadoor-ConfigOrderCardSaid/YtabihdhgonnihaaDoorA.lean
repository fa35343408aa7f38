/- Plain: decimal numerals; parts of a text; settings; configurations and their texts. -/
import Derived.Lib.ParseIntBCases
import Derived.Lib.ItoaMem
import Derived.Lib.IndexMore
namespace Go.Proofs.YtabihdhgonnihaaDoor
open Go
set_option linter.unusedVariables false
set_option linter.unusedSimpArgs false

abbrev Str := List UInt8
def isD (c : UInt8) : Bool := decide (48 ≤ c.toNat) && decide (c.toNat ≤ 57)
theorem isD_iff {c : UInt8} : isD c = true ↔ 48 ≤ c.toNat ∧ c.toNat ≤ 57 := by simp [isD]
/-- What digits spell. -/
def vl : Nat → Str → Nat
  | acc, [] => acc
  | acc, c :: r => vl (acc * 10 + (c.toNat - 48)) r
theorem vl_app : ∀ (s t : Str) (a : Nat), vl a (s ++ t) = vl (vl a s) t
  | [], _, _ => rfl
  | c :: s, t, a => vl_app s t _
theorem head_app {s t : Str} (h : s ≠ []) : (s ++ t).head? = s.head? := by cases s with | nil => exact absurd rfl h | cons a b => rfl
theorem vl_snoc (s : Str) (c : UInt8) (a : Nat) : vl a (s ++ [c]) = vl a s * 10 + (c.toNat - 48) := by rw [vl_app]; rfl
theorem vl_ge : ∀ (s : Str) (a : Nat), a ≤ vl a s
  | [], _ => Nat.le_refl _
  | c :: s, a => by
    have := vl_ge s (a * 10 + (c.toNat - 48))
    show a ≤ vl (a * 10 + (c.toNat - 48)) s
    omega
theorem dec_one {u : Nat} (h : u < 10) : Lib.decDigits u = [UInt8.ofNat (48 + u)] := by rw [Lib.decDigits, dif_pos h]
theorem dec_big {u : Nat} (h : ¬ u < 10) : Lib.decDigits u = Lib.decDigits (u / 10) ++ [UInt8.ofNat (48 + u % 10)] := by rw [Lib.decDigits, dif_neg h]
theorem ofN {d : Nat} (h : d < 10) : (UInt8.ofNat (48 + d)).toNat = 48 + d := by
  rw [UInt8.toNat_ofNat']; omega
theorem dec_dig : ∀ (u : Nat), ∀ c ∈ Lib.decDigits u, isD c = true := by
  intro u
  induction u using Nat.strongRecOn with
  | _ u ih =>
    intro c hc
    by_cases h : u < 10
    · rw [dec_one h] at hc
      cases List.mem_singleton.1 hc
      rw [isD_iff, ofN h]; omega
    · rw [dec_big h] at hc
      rcases List.mem_append.1 hc with hc | hc
      · exact ih (u / 10) (by omega) c hc
      · cases List.mem_singleton.1 hc
        rw [isD_iff, ofN (Nat.mod_lt _ (by decide))]; have := Nat.mod_lt u (show 0 < 10 by decide); omega
theorem vl_dec : ∀ (u : Nat), vl 0 (Lib.decDigits u) = u := by
  intro u
  induction u using Nat.strongRecOn with
  | _ u ih =>
    by_cases h : u < 10
    · rw [dec_one h]; show 0 * 10 + ((UInt8.ofNat (48 + u)).toNat - 48) = u; rw [ofN h]; omega
    · rw [dec_big h, vl_snoc, ih (u / 10) (by omega), ofN (Nat.mod_lt _ (by decide))]; omega
theorem dec_ne (u : Nat) : Lib.decDigits u ≠ [] := by
  by_cases h : u < 10
  · rw [dec_one h]; simp
  · rw [dec_big h]; simp
theorem dec_head : ∀ (u : Nat), 1 ≤ u → (Lib.decDigits u).head? ≠ some 48 := by
  intro u
  induction u using Nat.strongRecOn with
  | _ u ih =>
    intro h1
    by_cases h : u < 10
    · rw [dec_one h]
      intro he
      have := congrArg UInt8.toNat (Option.some.inj he)
      rw [ofN h] at this
      have h48 : (48 : UInt8).toNat = 48 := rfl
      omega
    · rw [dec_big h, head_app (dec_ne _)]
      exact ih (u / 10) (by omega) (by omega)
theorem dec_len19 {u : Nat} (h : u ≤ 9223372036854775807) : (Lib.decDigits u).length ≤ 19 := by
  have hl : ∀ (k u : Nat), u < 10 ^ (k + 1) → (Lib.decDigits u).length ≤ k + 1 := by
    intro k
    induction k with
    | zero => intro u hu; rw [dec_one (by simpa using hu)]; simp
    | succ k ih =>
      intro u hu
      by_cases hs : u < 10
      · rw [dec_one hs]; simp
      · rw [dec_big hs, List.length_append]
        have := ih (u / 10) (by rw [Nat.pow_succ] at hu; omega)
        simp only [List.length_cons, List.length_nil]; omega
  exact hl 18 u (by omega)
theorem dec_of : ∀ (n : Nat) (s : Str), s.length = n → s ≠ [] → (∀ c ∈ s, isD c = true) → (s.head? = some 48 → s.length = 1) → Lib.decDigits (vl 0 s) = s := by
  intro n
  induction n with
  | zero => intro s hl hne; exact absurd (List.eq_nil_of_length_eq_zero hl) hne
  | succ n ih =>
    intro s hl hne hd hz
    obtain ⟨t, c, rfl⟩ : ∃ t c, s = t ++ [c] := ⟨s.dropLast, s.getLast hne, (List.dropLast_concat_getLast hne).symm⟩
    have hc := isD_iff.1 (hd c (by simp))
    rw [vl_snoc]
    by_cases ht : t = []
    · subst ht
      show Lib.decDigits (0 * 10 + (c.toNat - 48)) = [c]
      rw [dec_one (by omega)]
      congr 1
      apply UInt8.toNat_inj.1
      rw [UInt8.toNat_ofNat']; omega
    · have hh : (t ++ [c]).head? = t.head? := head_app ht
      have hl1 : t.length = n := by simpa using hl
      have hlp : 0 < t.length := List.length_pos_iff.2 ht
      have hh48 : t.head? ≠ some 48 := fun e => by
        have := hz (hh.trans e)
        simp at this; exact ht this
      have ih1 := ih t hl1 ht (fun x hx => hd x (by simp [hx])) (fun e => absurd e hh48)
      have hpos : 1 ≤ vl 0 t := by
        rcases Nat.eq_zero_or_pos (vl 0 t) with e | e
        · rw [e, dec_one (by decide)] at ih1
          exact absurd (by rw [← ih1]; rfl) hh48
        · exact e
      rw [dec_big (by omega), show (vl 0 t * 10 + (c.toNat - 48)) / 10 = vl 0 t by omega, ih1]
      congr 1
      rw [show (vl 0 t * 10 + (c.toNat - 48)) % 10 = c.toNat - 48 by omega]
      congr 1
      apply UInt8.toNat_inj.1
      rw [UInt8.toNat_ofNat']; omega
/-- The number of a setting's digits. -/
def num (s : Str) : Option Nat :=
  if s ≠ [] ∧ s.all isD = true ∧ (s.head? = some 48 → s.length = 1) ∧ vl 0 s ≤ 9223372036854775807 then some (vl 0 s) else none
theorem num_iff {s : Str} {u : Nat} : num s = some u ↔ s = Lib.decDigits u ∧ u ≤ 9223372036854775807 := by
  unfold num
  constructor
  · intro h
    split at h
    · rename_i hh
      obtain ⟨h1, h2, h3, h4⟩ := hh
      cases h
      exact ⟨(dec_of _ s rfl h1 (fun c hc => List.all_eq_true.1 h2 c hc) h3).symm, h4⟩
    · cases h
  · rintro ⟨rfl, h⟩
    have hz : (Lib.decDigits u).head? = some 48 → (Lib.decDigits u).length = 1 := fun e => by
      rcases Nat.eq_zero_or_pos u with e0 | e0
      · subst e0; rw [dec_one (by decide)]; rfl
      · exact absurd e (dec_head u e0)
    rw [vl_dec, if_pos ⟨dec_ne u, List.all_eq_true.2 (dec_dig u), hz, h⟩]
theorem num_dec {u : Nat} (h : u ≤ 9223372036854775807) : num (Lib.decDigits u) = some u := num_iff.2 ⟨rfl, h⟩
theorem num_nil : num [] = none := rfl
theorem pm_dig : ∀ (l : Str) (acc : Nat), (∀ c ∈ l, isD c = true) → vl acc l ≤ 18446744073709551615 → Lib.parseUintM 18446744073709551615 acc l = .ok (vl acc l)
  | [], acc, _, _ => rfl
  | c :: r, acc, hd, hv => by
    have hc := isD_iff.1 (hd c (by simp))
    have h1 := vl_ge r (acc * 10 + (c.toNat - 48))
    have hv' : vl (acc * 10 + (c.toNat - 48)) r ≤ 18446744073709551615 := hv
    unfold Lib.parseUintM
    rw [if_pos hc, if_neg (by omega), if_neg (by omega)]
    exact pm_dig r _ (fun x hx => hd x (by simp [hx])) hv'
theorem parse_dec {u : Nat} (h : u ≤ 9223372036854775807) : Lib.parseIntB 64 (Lib.decDigits u) = .ok (u : Int) := by
  have hne := dec_ne u
  have hd := dec_dig u
  have hv := vl_dec u
  generalize Lib.decDigits u = s at *
  cases s with
  | nil => exact absurd rfl hne
  | cons c r =>
    have hc := isD_iff.1 (hd c (by simp))
    rw [Lib.parseIntB_plain 64 c r (by omega) (by omega)]
    have hp : Lib.parseUintB 64 (c :: r) = .ok u := by
      unfold Lib.parseUintB
      rw [if_neg hne]
      have := pm_dig (c :: r) 0 hd (by rw [hv]; omega)
      rw [hv] at this
      exact this
    rw [hp]
    unfold Lib.signlessC
    simp; omega
theorem num_parse {s : Str} {v : Int} (hp : Lib.parseIntB 64 s = .ok v) : num s = if 0 ≤ v ∧ Lib.itoa v = s then some v.toNat else none := by
  by_cases h : 0 ≤ v ∧ Lib.itoa v = s
  · rw [if_pos h]
    obtain ⟨h0, h1⟩ := h
    obtain ⟨u, rfl⟩ : ∃ u : Nat, v = u := ⟨v.toNat, by omega⟩
    rw [Lib.itoa_nonneg] at h1
    have hb : (u : Int) ≤ 9223372036854775807 := by
      by_cases hu : u ≤ 9223372036854775807
      · omega
      · exfalso
        cases s with
        | nil => cases hp
        | cons c r =>
          have hc := isD_iff.1 (dec_dig u c (by rw [h1]; simp))
          rw [Lib.parseIntB_plain 64 c r (by omega) (by omega)] at hp
          unfold Lib.signlessC at hp
          split at hp <;> first | cases hp | skip
          split at hp
          · cases hp
          · rename_i x _ hlt
            cases hp
            simp at hlt
            omega
    rw [Int.toNat_natCast]
    exact num_iff.2 ⟨h1.symm, by omega⟩
  · rw [if_neg h]
    cases hn : num s with
    | none => rfl
    | some u =>
      obtain ⟨rfl, hu⟩ := num_iff.1 hn
      rw [parse_dec hu] at hp
      cases hp
      exact absurd ⟨by omega, Lib.itoa_nonneg u⟩ h
theorem num_bad {s : Str} (hp : ∀ v, Lib.parseIntB 64 s ≠ .ok v) : num s = none := by
  cases hn : num s with
  | none => rfl
  | some u =>
    obtain ⟨rfl, hu⟩ := num_iff.1 hn
    exact absurd (parse_dec hu) (hp _)
end Go.Proofs.YtabihdhgonnihaaDoor

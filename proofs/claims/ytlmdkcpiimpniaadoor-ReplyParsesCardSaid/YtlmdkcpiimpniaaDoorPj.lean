/- Plain: decimal numerals; parts of a text; settings; configurations and their texts. -/
import Derived.Lib.ParseIntBCases
import Derived.Lib.ItoaMem
import Derived.Lib.IndexMore
import Derived.WalkKit
namespace Go.Proofs.YtlmdkcpiimpniaaDoor
open Go
set_option linter.unusedVariables false
set_option linter.unusedSimpArgs false

abbrev Str := List UInt8
def isD (c : UInt8) : Bool := decide (48 ≤ c.toNat) && decide (c.toNat ≤ 57)
theorem isD_iff {c : UInt8} : isD c = true ↔ 48 ≤ c.toNat ∧ c.toNat ≤ 57 := by simp [isD]
/-- What digits spell. -/
def vl : Nat → Str → Nat
  | acc, [] => acc
  | acc, c :: r => vl (acc * 10 + (c.toNat - 48)) r
theorem vl_app : ∀ (s t : Str) (a : Nat), vl a (s ++ t) = vl (vl a s) t
  | [], _, _ => rfl
  | c :: s, t, a => vl_app s t _
theorem head_app {s t : Str} (h : s ≠ []) : (s ++ t).head? = s.head? := by cases s with | nil => exact absurd rfl h | cons a b => rfl
theorem vl_snoc (s : Str) (c : UInt8) (a : Nat) : vl a (s ++ [c]) = vl a s * 10 + (c.toNat - 48) := by rw [vl_app]; rfl
theorem vl_ge : ∀ (s : Str) (a : Nat), a ≤ vl a s
  | [], _ => Nat.le_refl _
  | c :: s, a => by
    have := vl_ge s (a * 10 + (c.toNat - 48))
    show a ≤ vl (a * 10 + (c.toNat - 48)) s
    omega
theorem dec_one {u : Nat} (h : u < 10) : Lib.decDigits u = [UInt8.ofNat (48 + u)] := by rw [Lib.decDigits, dif_pos h]
theorem dec_big {u : Nat} (h : ¬ u < 10) : Lib.decDigits u = Lib.decDigits (u / 10) ++ [UInt8.ofNat (48 + u % 10)] := by rw [Lib.decDigits, dif_neg h]
theorem ofN {d : Nat} (h : d < 10) : (UInt8.ofNat (48 + d)).toNat = 48 + d := by
  rw [UInt8.toNat_ofNat']; omega
theorem dec_dig : ∀ (u : Nat), ∀ c ∈ Lib.decDigits u, isD c = true := by
  intro u
  induction u using Nat.strongRecOn with
  | _ u ih =>
    intro c hc
    by_cases h : u < 10
    · rw [dec_one h] at hc
      cases List.mem_singleton.1 hc
      rw [isD_iff, ofN h]; omega
    · rw [dec_big h] at hc
      rcases List.mem_append.1 hc with hc | hc
      · exact ih (u / 10) (by omega) c hc
      · cases List.mem_singleton.1 hc
        rw [isD_iff, ofN (Nat.mod_lt _ (by decide))]; have := Nat.mod_lt u (show 0 < 10 by decide); omega
theorem vl_dec : ∀ (u : Nat), vl 0 (Lib.decDigits u) = u := by
  intro u
  induction u using Nat.strongRecOn with
  | _ u ih =>
    by_cases h : u < 10
    · rw [dec_one h]; show 0 * 10 + ((UInt8.ofNat (48 + u)).toNat - 48) = u; rw [ofN h]; omega
    · rw [dec_big h, vl_snoc, ih (u / 10) (by omega), ofN (Nat.mod_lt _ (by decide))]; omega
theorem dec_ne (u : Nat) : Lib.decDigits u ≠ [] := by
  by_cases h : u < 10
  · rw [dec_one h]; simp
  · rw [dec_big h]; simp
theorem dec_head : ∀ (u : Nat), 1 ≤ u → (Lib.decDigits u).head? ≠ some 48 := by
  intro u
  induction u using Nat.strongRecOn with
  | _ u ih =>
    intro h1
    by_cases h : u < 10
    · rw [dec_one h]
      intro he
      have := congrArg UInt8.toNat (Option.some.inj he)
      rw [ofN h] at this
      have h48 : (48 : UInt8).toNat = 48 := rfl
      omega
    · rw [dec_big h, head_app (dec_ne _)]
      exact ih (u / 10) (by omega) (by omega)
theorem dec_len19 {u : Nat} (h : u ≤ 9223372036854775807) : (Lib.decDigits u).length ≤ 19 := by
  have hl : ∀ (k u : Nat), u < 10 ^ (k + 1) → (Lib.decDigits u).length ≤ k + 1 := by
    intro k
    induction k with
    | zero => intro u hu; rw [dec_one (by simpa using hu)]; simp
    | succ k ih =>
      intro u hu
      by_cases hs : u < 10
      · rw [dec_one hs]; simp
      · rw [dec_big hs, List.length_append]
        have := ih (u / 10) (by rw [Nat.pow_succ] at hu; omega)
        simp only [List.length_cons, List.length_nil]; omega
  exact hl 18 u (by omega)
theorem dec_of : ∀ (n : Nat) (s : Str), s.length = n → s ≠ [] → (∀ c ∈ s, isD c = true) → (s.head? = some 48 → s.length = 1) → Lib.decDigits (vl 0 s) = s := by
  intro n
  induction n with
  | zero => intro s hl hne; exact absurd (List.eq_nil_of_length_eq_zero hl) hne
  | succ n ih =>
    intro s hl hne hd hz
    obtain ⟨t, c, rfl⟩ : ∃ t c, s = t ++ [c] := ⟨s.dropLast, s.getLast hne, (List.dropLast_concat_getLast hne).symm⟩
    have hc := isD_iff.1 (hd c (by simp))
    rw [vl_snoc]
    by_cases ht : t = []
    · subst ht
      show Lib.decDigits (0 * 10 + (c.toNat - 48)) = [c]
      rw [dec_one (by omega)]
      congr 1
      apply UInt8.toNat_inj.1
      rw [UInt8.toNat_ofNat']; omega
    · have hh : (t ++ [c]).head? = t.head? := head_app ht
      have hl1 : t.length = n := by simpa using hl
      have hlp : 0 < t.length := List.length_pos_iff.2 ht
      have hh48 : t.head? ≠ some 48 := fun e => by
        have := hz (hh.trans e)
        simp at this; exact ht this
      have ih1 := ih t hl1 ht (fun x hx => hd x (by simp [hx])) (fun e => absurd e hh48)
      have hpos : 1 ≤ vl 0 t := by
        rcases Nat.eq_zero_or_pos (vl 0 t) with e | e
        · rw [e, dec_one (by decide)] at ih1
          exact absurd (by rw [← ih1]; rfl) hh48
        · exact e
      rw [dec_big (by omega), show (vl 0 t * 10 + (c.toNat - 48)) / 10 = vl 0 t by omega, ih1]
      congr 1
      rw [show (vl 0 t * 10 + (c.toNat - 48)) % 10 = c.toNat - 48 by omega]
      congr 1
      apply UInt8.toNat_inj.1
      rw [UInt8.toNat_ofNat']; omega
/-- The number of a setting's digits. -/
def num (s : Str) : Option Nat :=
  if s ≠ [] ∧ s.all isD = true ∧ (s.head? = some 48 → s.length = 1) ∧ vl 0 s ≤ 9223372036854775807 then some (vl 0 s) else none
theorem num_iff {s : Str} {u : Nat} : num s = some u ↔ s = Lib.decDigits u ∧ u ≤ 9223372036854775807 := by
  unfold num
  constructor
  · intro h
    split at h
    · rename_i hh
      obtain ⟨h1, h2, h3, h4⟩ := hh
      cases h
      exact ⟨(dec_of _ s rfl h1 (fun c hc => List.all_eq_true.1 h2 c hc) h3).symm, h4⟩
    · cases h
  · rintro ⟨rfl, h⟩
    have hz : (Lib.decDigits u).head? = some 48 → (Lib.decDigits u).length = 1 := fun e => by
      rcases Nat.eq_zero_or_pos u with e0 | e0
      · subst e0; rw [dec_one (by decide)]; rfl
      · exact absurd e (dec_head u e0)
    rw [vl_dec, if_pos ⟨dec_ne u, List.all_eq_true.2 (dec_dig u), hz, h⟩]
theorem num_dec {u : Nat} (h : u ≤ 9223372036854775807) : num (Lib.decDigits u) = some u := num_iff.2 ⟨rfl, h⟩
theorem num_nil : num [] = none := rfl
theorem pm_dig : ∀ (l : Str) (acc : Nat), (∀ c ∈ l, isD c = true) → vl acc l ≤ 18446744073709551615 → Lib.parseUintM 18446744073709551615 acc l = .ok (vl acc l)
  | [], acc, _, _ => rfl
  | c :: r, acc, hd, hv => by
    have hc := isD_iff.1 (hd c (by simp))
    have h1 := vl_ge r (acc * 10 + (c.toNat - 48))
    have hv' : vl (acc * 10 + (c.toNat - 48)) r ≤ 18446744073709551615 := hv
    unfold Lib.parseUintM
    rw [if_pos hc, if_neg (by omega), if_neg (by omega)]
    exact pm_dig r _ (fun x hx => hd x (by simp [hx])) hv'
theorem parse_dec {u : Nat} (h : u ≤ 9223372036854775807) : Lib.parseIntB 64 (Lib.decDigits u) = .ok (u : Int) := by
  have hne := dec_ne u
  have hd := dec_dig u
  have hv := vl_dec u
  generalize Lib.decDigits u = s at *
  cases s with
  | nil => exact absurd rfl hne
  | cons c r =>
    have hc := isD_iff.1 (hd c (by simp))
    rw [Lib.parseIntB_plain 64 c r (by omega) (by omega)]
    have hp : Lib.parseUintB 64 (c :: r) = .ok u := by
      unfold Lib.parseUintB
      rw [if_neg hne]
      have := pm_dig (c :: r) 0 hd (by rw [hv]; omega)
      rw [hv] at this
      exact this
    rw [hp]
    unfold Lib.signlessC
    simp; omega
theorem num_parse {s : Str} {v : Int} (hp : Lib.parseIntB 64 s = .ok v) : num s = if 0 ≤ v ∧ Lib.itoa v = s then some v.toNat else none := by
  by_cases h : 0 ≤ v ∧ Lib.itoa v = s
  · rw [if_pos h]
    obtain ⟨h0, h1⟩ := h
    obtain ⟨u, rfl⟩ : ∃ u : Nat, v = u := ⟨v.toNat, by omega⟩
    rw [Lib.itoa_nonneg] at h1
    have hb : (u : Int) ≤ 9223372036854775807 := by
      by_cases hu : u ≤ 9223372036854775807
      · omega
      · exfalso
        cases s with
        | nil => cases hp
        | cons c r =>
          have hc := isD_iff.1 (dec_dig u c (by rw [h1]; simp))
          rw [Lib.parseIntB_plain 64 c r (by omega) (by omega)] at hp
          unfold Lib.signlessC at hp
          split at hp <;> first | cases hp | skip
          split at hp
          · cases hp
          · rename_i x _ hlt
            cases hp
            simp at hlt
            omega
    rw [Int.toNat_natCast]
    exact num_iff.2 ⟨h1.symm, by omega⟩
  · rw [if_neg h]
    cases hn : num s with
    | none => rfl
    | some u =>
      obtain ⟨rfl, hu⟩ := num_iff.1 hn
      rw [parse_dec hu] at hp
      cases hp
      exact absurd ⟨by omega, Lib.itoa_nonneg u⟩ h
theorem num_bad {s : Str} (hp : ∀ v, Lib.parseIntB 64 s ≠ .ok v) : num s = none := by
  cases hn : num s with
  | none => rfl
  | some u =>
    obtain ⟨rfl, hu⟩ := num_iff.1 hn
    exact absurd (parse_dec hu) (hp _)
end Go.Proofs.YtlmdkcpiimpniaaDoor
/- Plain: parts of a text; settings; what a text reads as. -/
namespace Go.Proofs.YtlmdkcpiimpniaaDoor
open Go
set_option linter.unusedVariables false
set_option linter.unusedSimpArgs false

/-- Cut at the first c. -/
def cutc (c : UInt8) : Str → Str × Str × Bool
  | [] => ([], [], false)
  | b :: l => if b = c then ([], l, true) else (b :: (cutc c l).1, (cutc c l).2.1, (cutc c l).2.2)
theorem index_one (c : UInt8) : ∀ s : Str, Lib.index s [c] = if (cutc c s).2.2 then ((cutc c s).1.length : Int) else -1
  | [] => rfl
  | b :: l => by
    have ih := index_one c l
    unfold Lib.index cutc
    by_cases h : b = c
    · subst h
      rw [if_pos (by simp), if_pos rfl]; rfl
    · have h2 : ([c] : Str).isPrefixOf (b :: l) = false := by simp [List.isPrefixOf]; exact fun e => h e.symm
      rw [if_neg (by rw [h2]; decide), if_neg h, ih]
      dsimp only
      cases hc : (cutc c l).2.2
      · simp
      · rw [if_pos rfl, if_pos rfl]
        have h3 : (((cutc c l).1.length : Int) == -1) = false := by simp
        rw [h3]
        simp
theorem cutc_miss (c : UInt8) : ∀ s : Str, (cutc c s).2.2 = false → cutc c s = (s, [], false)
  | [], _ => rfl
  | b :: l, h => by
    unfold cutc at h ⊢
    split at h
    · cases h
    · rename_i hb
      rw [if_neg hb, cutc_miss c l h]
theorem cutc_hit (c : UInt8) : ∀ s : Str, (cutc c s).2.2 = true → s = (cutc c s).1 ++ c :: (cutc c s).2.1
  | [], h => by cases h
  | b :: l, h => by
    unfold cutc at h ⊢
    split at h
    · rename_i hb; subst hb; rw [if_pos rfl]; rfl
    · rename_i hb
      rw [if_neg hb]
      have := cutc_hit c l h
      show b :: l = (b :: (cutc c l).1) ++ c :: (cutc c l).2.1
      rw [List.cons_append, ← this]
theorem cutc_free (c : UInt8) : ∀ s : Str, c ∉ (cutc c s).1
  | [] => by simp [cutc]
  | b :: l => by
    unfold cutc
    split
    · simp
    · rename_i hb
      show c ∉ b :: (cutc c l).1
      rw [List.mem_cons]; rintro (h | h)
      · exact hb h.symm
      · exact cutc_free c l h
theorem cut_one (c : UInt8) (s : Str) : Lib.cut s [c] = cutc c s := by
  unfold Lib.cut
  rw [index_one]
  cases h : (cutc c s).2.2
  · rw [if_neg (by simp)]; exact (cutc_miss c s h).symm
  · have e := cutc_hit c s h
    have h2 : (cutc c s).2.2 = true := h
    rw [if_pos rfl, if_pos (by omega), Int.toNat_natCast]
    generalize cutc c s = q at *
    obtain ⟨a, r, m⟩ := q
    simp only at e h2
    subst e h2
    simp
theorem cutc_app {c : UInt8} : ∀ {a : Str} (r : Str), c ∉ a → cutc c (a ++ c :: r) = (a, r, true)
  | [], r, _ => by simp [cutc]
  | b :: a, r, h => by
    rw [List.cons_append]
    unfold cutc
    rw [if_neg (fun e => h (by rw [e]; simp)), cutc_app r (fun e => h (List.mem_cons_of_mem _ e))]
theorem cutc_no {c : UInt8} : ∀ {a : Str}, c ∉ a → cutc c a = (a, [], false)
  | [], _ => rfl
  | b :: a, h => by
    unfold cutc
    rw [if_neg (fun e => h (by rw [e]; simp)), cutc_no (fun e => h (List.mem_cons_of_mem _ e))]
/-- The parts between spaces. -/
def sp : Str → List Str
  | [] => [[]]
  | b :: l => if b = 32 then [] :: sp l else (b :: (sp l).headD []) :: (sp l).tail
theorem sp_ne : ∀ s : Str, sp s ≠ []
  | [] => by simp [sp]
  | b :: l => by unfold sp; split <;> simp
theorem sp_cut (s : Str) : sp s = (cutc 32 s).1 :: (if (cutc 32 s).2.2 then sp (cutc 32 s).2.1 else []) := by
  induction s with
  | nil => rfl
  | cons b l ih =>
    have e : sp (b :: l) = if b = 32 then [] :: sp l else (b :: (sp l).headD []) :: (sp l).tail := rfl
    have e2 : cutc 32 (b :: l) = if b = 32 then ([], l, true) else (b :: (cutc 32 l).1, (cutc 32 l).2.1, (cutc 32 l).2.2) := rfl
    rw [e, e2]
    by_cases h : b = 32
    · rw [if_pos h, if_pos h]; rfl
    · rw [if_neg h, if_neg h, ih]; rfl
theorem sp_snoc : ∀ (s : Str) (b : UInt8), sp (s ++ [b]) = if b = 32 then sp s ++ [[]] else (sp s).dropLast ++ [(sp s).getLastD [] ++ [b]]
  | [], b => by
    show sp [b] = _
    unfold sp
    by_cases h : b = 32
    · rw [if_pos h, if_pos h]; rfl
    · rw [if_neg h, if_neg h]; rfl
  | x :: s, b => by
    have ih := sp_snoc s b
    rw [List.cons_append]
    unfold sp
    rw [ih]
    have hne := sp_ne s
    by_cases hx : x = 32
    · rw [if_pos hx, if_pos hx]
      by_cases h : b = 32
      · rw [if_pos h, if_pos h]; rfl
      · rw [if_neg h, if_neg h]
        cases hs : sp s with
        | nil => exact absurd hs hne
        | cons a r => simp [List.dropLast, List.getLastD]
    · rw [if_neg hx, if_neg hx]
      by_cases h : b = 32
      · rw [if_pos h, if_pos h]
        cases hs : sp s with
        | nil => exact absurd hs hne
        | cons a r => simp
      · rw [if_neg h, if_neg h]
        cases hs : sp s with
        | nil => exact absurd hs hne
        | cons a r =>
          cases r with
          | nil => simp
          | cons a2 r2 => simp [List.dropLast, List.getLastD]
/-- Settings, a space between each two. -/
def jn : List Str → Str
  | [] => []
  | [a] => a
  | a :: b :: l => a ++ 32 :: jn (b :: l)
theorem sp_no {a : Str} (h : (32 : UInt8) ∉ a) : sp a = [a] := by
  rw [sp_cut, cutc_no h]; rfl
theorem sp_app {a : Str} (h : (32 : UInt8) ∉ a) (r : Str) : sp (a ++ 32 :: r) = a :: sp r := by
  rw [sp_cut, cutc_app r h]; rfl
theorem sp_jn : ∀ {l : List Str}, l ≠ [] → (∀ a ∈ l, (32 : UInt8) ∉ a) → sp (jn l) = l
  | [], h, _ => absurd rfl h
  | [a], _, h => sp_no (h a (by simp))
  | a :: b :: l, _, h => by
    show sp (a ++ 32 :: jn (b :: l)) = _
    rw [sp_app (h a (by simp)), sp_jn (by simp) (fun x hx => h x (List.mem_cons_of_mem _ hx))]
end Go.Proofs.YtlmdkcpiimpniaaDoor
/- Plain: numbers as bytes. -/
namespace Go.Proofs.YtlmdkcpiimpniaaDoor
set_option linter.unusedVariables false
set_option linter.unusedSimpArgs false

/-- An unsigned number as bytes. -/
def vi (x : Nat) : List Nat := if x < 128 then [x] else (x % 128 + 128) :: vi (x / 128)
termination_by x
theorem vi_lt {x : Nat} (h : x < 128) : vi x = [x] := by rw [vi, if_pos h]
theorem vi_ge {x : Nat} (h : 128 ≤ x) : vi x = (x % 128 + 128) :: vi (x / 128) := by rw [vi, if_neg (by omega)]
theorem vi_pos (x : Nat) : 0 < (vi x).length := by rw [vi]; split <;> simp
theorem vi_byte : ∀ (x : Nat), ∀ c ∈ vi x, c < 256
  | x => by
    intro c hc
    rcases Nat.lt_or_ge x 128 with h | h
    · rw [vi_lt h] at hc; simp at hc; omega
    · rw [vi_ge h] at hc
      rcases List.mem_cons.1 hc with rfl | hc
      · omega
      · exact vi_byte (x / 128) c hc
termination_by x => x
/-- Reading one; from index i on, with what has been read. -/
def guF : Nat → Nat → List Nat → Option (Nat × Nat)
  | _, _, [] => none
  | i, x, c :: r => if 10 ≤ i ∨ (i = 9 ∧ 1 < c) then none else if 128 ≤ c then guF (i + 1) (x + c % 128 * 128 ^ i) r else if c = 0 ∧ 0 < i then none else some (x + c % 128 * 128 ^ i, i + 1)
def gu (b : List Nat) : Option (Nat × Nat) := guF 0 0 b
theorem p128 {i : Nat} (h : 10 ≤ i) : 1180591620717411303424 ≤ 128 ^ i := by
  have h1 : 128 ^ 10 ≤ 128 ^ i := Nat.pow_le_pow_right (by decide) h
  have h2 : (128 : Nat) ^ 10 = 1180591620717411303424 := by decide
  omega
theorem p128_9 {i : Nat} (h : i ≤ 8) : 128 ^ i ≤ 72057594037927936 := by
  have h1 : 128 ^ i ≤ 128 ^ 8 := Nat.pow_le_pow_right (by decide) h
  have h2 : (128 : Nat) ^ 8 = 72057594037927936 := by decide
  omega
theorem q128 : (128 : Nat) ^ 9 = 9223372036854775808 := by decide
theorem guF_vi : ∀ (x i y : Nat) (more : List Nat), x * 128 ^ i < 18446744073709551616 → (i = 0 ∨ 0 < x) → guF i y (vi x ++ more) = some (y + x * 128 ^ i, i + (vi x).length)
  | x, i, y, more => by
    intro hx hi
    have hi9 : i ≤ 9 := by
      rcases Nat.lt_or_ge 9 i with h | h
      · have h1 := p128 (i := i) (by omega)
        have h2 : 1 * 128 ^ i ≤ x * 128 ^ i := Nat.mul_le_mul_right _ (by omega)
        omega
      · exact h
    have h9 : i = 9 → x ≤ 1 := fun e => by subst e; rw [q128] at hx; omega
    rcases Nat.lt_or_ge x 128 with h | h
    · rw [vi_lt h]
      show guF i y (x :: more) = _
      rw [guF, if_neg (by omega), if_neg (by omega), if_neg (by omega), Nat.mod_eq_of_lt h]; rfl
    · rw [vi_ge h]
      show guF i y ((x % 128 + 128) :: (vi (x / 128) ++ more)) = _
      have e1 : (x % 128 + 128) % 128 = x % 128 := by omega
      have e2 : x / 128 * 128 ^ (i + 1) + x % 128 * 128 ^ i = x * 128 ^ i := by
        rw [Nat.pow_succ, Nat.mul_comm (128 ^ i) 128, ← Nat.mul_assoc, ← Nat.add_mul]
        congr 1; omega
      rw [guF, if_neg (by omega), if_pos (by omega), e1, guF_vi (x / 128) (i + 1) _ more (by omega) (by omega)]
      rw [Nat.add_assoc, Nat.add_comm (x % 128 * 128 ^ i), e2, List.length_cons]
      congr 2; omega
termination_by x => x
theorem gu_vi {x : Nat} (hx : x < 18446744073709551616) (more : List Nat) : gu (vi x ++ more) = some (x, (vi x).length) := by
  have := guF_vi x 0 0 more (by simpa using hx) (Or.inl rfl)
  simpa [gu] using this
theorem guF_some : ∀ (b : List Nat) (i y x n : Nat), (∀ c ∈ b, c < 256) → guF i y b = some (x, n) →
    ∃ z, x = y + z * 128 ^ i ∧ n = i + (vi z).length ∧ b = vi z ++ b.drop (vi z).length ∧ (0 < i → 0 < z) ∧ (y < 128 ^ i → x < 18446744073709551616)
  | [], _, _, _, _ => by intro _ h; simp [guF] at h
  | c :: r, i, y, x, n => by
    intro hb h
    rw [guF] at h
    split at h
    · cases h
    · rename_i h1
      split at h
      · rename_i h2
        obtain ⟨z, e1, e2, e3, e4, e5⟩ := guF_some r (i + 1) _ x n (fun d hd => hb d (List.mem_cons_of_mem _ hd)) h
        have hz := e4 (by omega)
        have hc := hb c (by simp)
        have e6 : c % 128 + 128 * z < 128 → False := fun h => by omega
        have e7 : vi (c % 128 + 128 * z) = c :: vi z := by
          rw [vi_ge (by omega)]
          congr 1
          · omega
          · congr 1; omega
        refine ⟨c % 128 + 128 * z, ?_, ?_, ?_, fun _ => by omega, fun hy => e5 ?_⟩
        · rw [e1, Nat.pow_succ, Nat.mul_comm (128 ^ i) 128, ← Nat.mul_assoc, Nat.add_assoc, ← Nat.add_mul, Nat.mul_comm z 128]
        · rw [e2, e7, List.length_cons]; omega
        · rw [e7, List.length_cons, List.drop_succ_cons, List.cons_append, ← e3]
        · have h3 : c % 128 * 128 ^ i ≤ 127 * 128 ^ i := Nat.mul_le_mul_right _ (by omega)
          rw [Nat.pow_succ]; omega
      · rename_i h2
        split at h
        · cases h
        · rename_i h3
          cases h
          have hc : c < 128 := by omega
          rw [Nat.mod_eq_of_lt hc]
          refine ⟨c, rfl, by rw [vi_lt hc]; rfl, by rw [vi_lt hc]; rfl, fun h => by omega, fun hy => ?_⟩
          rcases Nat.lt_or_ge i 9 with h9 | h9
          · have h4 : c * 128 ^ i ≤ 127 * 128 ^ i := Nat.mul_le_mul_right _ (by omega)
            have h5 := p128_9 (i := i) (by omega)
            omega
          · obtain rfl : i = 9 := by omega
            rw [q128] at hy ⊢
            have : c ≤ 1 := by omega
            omega
theorem gu_some {b : List Nat} {x n : Nat} (hb : ∀ c ∈ b, c < 256) (h : gu b = some (x, n)) : x < 18446744073709551616 ∧ n = (vi x).length ∧ b = vi x ++ b.drop n := by
  obtain ⟨z, e1, e2, e3, _, e5⟩ := guF_some b 0 0 x n hb h
  simp only [Nat.pow_zero, Nat.mul_one, Nat.zero_add] at e1 e2
  subst e1 e2
  exact ⟨e5 (by simp), rfl, e3⟩
theorem gu_more {l more : List Nat} {x n : Nat} (hb : ∀ c ∈ l, c < 256) (h : gu l = some (x, n)) : gu (l ++ more) = some (x, n) := by
  obtain ⟨h1, h2, h3⟩ := gu_some hb h
  have e : l ++ more = vi x ++ (l.drop n ++ more) := by rw [← List.append_assoc, ← h3]
  rw [e, gu_vi h1, h2]
theorem gu_le {b : List Nat} {x n : Nat} (hb : ∀ c ∈ b, c < 256) (h : gu b = some (x, n)) : 0 < n ∧ n ≤ b.length ∧ n ≤ 10 := by
  obtain ⟨h1, h2, h3⟩ := gu_some hb h
  have h4 := vi_pos x
  refine ⟨by omega, ?_, ?_⟩
  · have := congrArg List.length h3
    rw [List.length_append] at this; omega
  · have key : ∀ (b : List Nat) (i y x n : Nat), i ≤ 10 → guF i y b = some (x, n) → n ≤ 10 := by
      intro b
      induction b with
      | nil => intro i y x n _ h; simp [guF] at h
      | cons c r ih =>
        intro i y x n hi h
        rw [guF] at h
        split at h
        · cases h
        · split at h
          · exact ih _ _ _ _ (by omega) h
          · split at h
            · cases h
            · cases h; omega
    exact key b 0 0 x n (by omega) h
/-- A signed number as an unsigned one, and back. -/
def fold (x : Int) : Nat := if x < 0 then 2 * (-(x + 1)).toNat + 1 else 2 * x.toNat
def unf (y : Nat) : Int := if y % 2 = 1 then -((y / 2 : Nat) : Int) - 1 else ((y / 2 : Nat) : Int)
theorem unf_fold (x : Int) : unf (fold x) = x := by
  unfold unf fold
  split <;> split <;> omega
theorem fold_unf (y : Nat) : fold (unf y) = y := by
  unfold unf fold
  split <;> split <;> omega
theorem fold_lt {x : Int} (h : -9223372036854775808 ≤ x ∧ x ≤ 9223372036854775807) : fold x < 18446744073709551616 := by
  unfold fold; split <;> omega
theorem unf_lt {y : Nat} (h : y < 18446744073709551616) : -9223372036854775808 ≤ unf y ∧ unf y ≤ 9223372036854775807 := by
  unfold unf; split <;> omega
end Go.Proofs.YtlmdkcpiimpniaaDoor
/- Chapter 41, plain: which replies are valid, by the program's table and by the document. -/
namespace Go.Proofs.YtlmdkcpiimpniaaDoor
open Go
set_option linter.unusedVariables false
set_option linter.unusedSimpArgs false

structure Rp where
  op : Int
  er : Int
  yes : Bool
  ids : List Nat
  nums : List Int
/-- The table of kinds: how many IDs and Nums an entry has; how many entries (0 none, 1 one, 2 found, 3 some). -/
def ki : Nat → Nat
  | 6 => 1
  | 7 => 1
  | 9 => 2
  | 13 => 1
  | 14 => 1
  | _ => 0
def kn : Nat → Nat
  | 0 => 0
  | 3 => 0
  | 5 => 3
  | 10 => 4
  | 11 => 3
  | 13 => 0
  | 15 => 5
  | _ => 1
def ke : Nat → Nat
  | 0 => 0
  | 3 => 0
  | 7 => 3
  | 8 => 2
  | 9 => 3
  | 10 => 3
  | 11 => 3
  | 12 => 3
  | 13 => 3
  | 14 => 3
  | _ => 1
def asksO (op : Int) : Bool := op == 3 || op == 8
/-- The program's count, and fits, for an op of the table. -/
def count (k : Nat) (yes : Bool) (li ln : Nat) : Nat :=
  if ke k = 1 ∨ (ke k = 2 ∧ yes = true) then 1 else if ke k = 3 ∧ 0 < ki k then li / ki k else if ke k = 3 then ln / kn k else 0
def noneR (r : Rp) : Prop := r.yes = false ∧ r.ids.length = 0 ∧ r.nums.length = 0
def fits (r : Rp) : Prop :=
  ¬ (r.op < 0 ∨ 16 ≤ r.op) ∧ ¬ (r.op = 0 ∧ r.er ≠ 15) ∧
    if r.er ≠ 0 then (1 ≤ r.er ∧ r.er ≤ 18) ∧ noneR r
    else ¬ (r.yes = true ∧ asksO r.op = false) ∧ r.ids.length = count r.op.toNat r.yes r.ids.length r.nums.length * ki r.op.toNat ∧ r.nums.length = count r.op.toNat r.yes r.ids.length r.nums.length * kn r.op.toNat
/-- The document's. -/
def manyO (op : Int) : Bool := op == 7 || (decide (9 ≤ op) && decide (op ≤ 14))
def entK (k : Nat) (li ln : Nat) : Nat := if 0 < ki k then li / ki k else if 0 < kn k then ln / kn k else 0
def entOk (k : Nat) (li ln : Nat) : Prop := entK k li ln * ki k = li ∧ entK k li ln * kn k = ln
def shaped (r : Rp) : Prop :=
  if r.op = 0 then r.er = 15 ∧ noneR r
  else if r.op < 1 ∨ 15 < r.op then False
  else if r.er ≠ 0 then (1 ≤ r.er ∧ r.er ≤ 18) ∧ noneR r
  else entOk r.op.toNat r.ids.length r.nums.length ∧ ¬ (r.yes = true ∧ asksO r.op = false) ∧
    (manyO r.op = true ∨ (manyO r.op = false ∧ r.op = 3 ∧ entK r.op.toNat r.ids.length r.nums.length = 0) ∨
      (manyO r.op = false ∧ r.op = 8 ∧ ((r.yes = true ∧ entK r.op.toNat r.ids.length r.nums.length = 1) ∨ (r.yes = false ∧ entK r.op.toNat r.ids.length r.nums.length = 0))) ∨
      (manyO r.op = false ∧ r.op ≠ 3 ∧ r.op ≠ 8 ∧ entK r.op.toNat r.ids.length r.nums.length = 1))
theorem fits_shaped (r : Rp) : fits r ↔ shaped r := by
  obtain ⟨op, er, yes, ids, nums⟩ := r
  unfold fits shaped noneR
  simp only
  generalize ids.length = li
  generalize nums.length = ln
  by_cases h0 : op = 0
  · subst h0
    rw [if_pos rfl]
    by_cases he : er = 15
    · subst he; simp
    · simp [he]
  · rw [if_neg h0]
    by_cases hr : op < 1 ∨ 15 < op
    · rw [if_pos hr]
      constructor
      · intro h; exact absurd h.1 (by omega)
      · intro h; exact h.elim
    · rw [if_neg hr]
      by_cases he : er ≠ 0
      · rw [if_pos he, if_pos he]
        constructor
        · intro h; exact h.2.2
        · intro h; exact ⟨by omega, by omega, h⟩
      · rw [if_neg he, if_neg he]
        have hc : op = 1 ∨ op = 2 ∨ op = 3 ∨ op = 4 ∨ op = 5 ∨ op = 6 ∨ op = 7 ∨ op = 8 ∨ op = 9 ∨ op = 10 ∨ op = 11 ∨ op = 12 ∨ op = 13 ∨ op = 14 ∨ op = 15 := by omega
        clear hr h0 he
        rcases hc with rfl | rfl | rfl | rfl | rfl | rfl | rfl | rfl | rfl | rfl | rfl | rfl | rfl | rfl | rfl <;> cases yes <;> simp [count, ki, kn, ke, asksO, manyO, entK, entOk] <;> omega
end Go.Proofs.YtlmdkcpiimpniaaDoor
/- Chapter 41, plain: words that are numbers. (Imports chapter 39's decimals for now: A; to be turned to the seat.) -/
namespace Go.Proofs.YtlmdkcpiimpniaaDoor
open Go
set_option linter.unusedVariables false
set_option linter.unusedSimpArgs false

/-- The unsigned number that a word is the decimal form of. -/
def uns (s : Str) : Option Nat := match Lib.parseUintB 64 s with
  | .ok u => if Lib.decDigits u = s then some u else none
  | _ => none
/-- The signed one. -/
def sgn (s : Str) : Option Int := match Lib.parseIntB 64 s with
  | .ok v => if Lib.itoa v = s then some v else none
  | _ => none
theorem parseU_dec {u : Nat} (h : u ≤ 18446744073709551615) : Lib.parseUintB 64 (Lib.decDigits u) = .ok u := by
  have hne := dec_ne u
  have hv := vl_dec u
  have := pm_dig (Lib.decDigits u) 0 (dec_dig u) (by rw [hv]; exact h)
  rw [hv] at this
  unfold Lib.parseUintB
  rw [if_neg hne]
  exact this
theorem uns_dec {u : Nat} (h : u ≤ 18446744073709551615) : uns (Lib.decDigits u) = some u := by
  unfold uns
  rw [parseU_dec h]
  show (if Lib.decDigits u = Lib.decDigits u then some u else none) = some u
  rw [if_pos rfl]
theorem uns_iff {s : Str} {u : Nat} : uns s = some u ↔ s = Lib.decDigits u ∧ u ≤ 18446744073709551615 := by
  constructor
  · intro h
    unfold uns at h
    split at h
    · rename_i v hv
      split at h
      · rename_i e
        obtain rfl := Option.some.inj h
        have := Lib.parseUintB_le hv
        exact ⟨e.symm, by simpa using this⟩
      · cases h
    · cases h
  · rintro ⟨rfl, h⟩
    exact uns_dec h
theorem itoa_neg {n : Nat} (h : 0 < n) : Lib.itoa (-(n : Int)) = 45 :: Lib.decDigits n := by
  unfold Lib.itoa
  rw [if_pos (by omega)]
  simp
theorem itoa_nn (n : Nat) : Lib.itoa (n : Int) = Lib.decDigits n := Lib.itoa_nonneg n
theorem sgn_itoa {x : Int} (h0 : -9223372036854775808 ≤ x) (h1 : x ≤ 9223372036854775807) : sgn (Lib.itoa x) = some x := by
  have hp : Lib.parseIntB 64 (Lib.itoa x) = .ok x := by
    rcases Int.lt_or_le x 0 with hx | hx
    · obtain ⟨n, hn⟩ : ∃ n : Nat, x = -(n : Int) := ⟨x.natAbs, by omega⟩
      subst hn
      rw [itoa_neg (by omega), Lib.parseIntB_minus, parseU_dec (by omega)]
      unfold Lib.signedC
      simp
      omega
    · obtain ⟨n, hn⟩ := Int.eq_ofNat_of_zero_le hx
      subst hn
      rw [itoa_nn]
      exact parse_dec (by omega)
  unfold sgn
  rw [hp]
  show (if Lib.itoa x = Lib.itoa x then some x else none) = some x
  rw [if_pos rfl]
theorem sgn_some {s : Str} {x : Int} (h : sgn s = some x) : s = Lib.itoa x := by
  unfold sgn at h
  split at h
  · split at h
    · rename_i e; obtain rfl := Option.some.inj h; exact e.symm
    · cases h
  · cases h
end Go.Proofs.YtlmdkcpiimpniaaDoor
/- Chapter 41, plain: the numbers of a line, written and read. (Imports chapter 39's texts for now; to be turned to the seat.) -/
namespace Go.Proofs.YtlmdkcpiimpniaaDoor
open Go
set_option linter.unusedVariables false
set_option linter.unusedSimpArgs false

/-- How many IDs and Nums the first i words of the entries hold. -/
def cI (k i : Nat) : Nat := i / (ki k + kn k) * ki k + min (i % (ki k + kn k)) (ki k)
def cN (k i : Nat) : Nat := i / (ki k + kn k) * kn k + (i % (ki k + kn k) - ki k)
theorem c_step {k i : Nat} (hk : k < 16) (hs : 0 < ki k + kn k) : (i % (ki k + kn k) < ki k → cI k (i + 1) = cI k i + 1 ∧ cN k (i + 1) = cN k i) ∧ (¬ i % (ki k + kn k) < ki k → cI k (i + 1) = cI k i ∧ cN k (i + 1) = cN k i + 1) := by
  have hc : k = 0 ∨ k = 1 ∨ k = 2 ∨ k = 3 ∨ k = 4 ∨ k = 5 ∨ k = 6 ∨ k = 7 ∨ k = 8 ∨ k = 9 ∨ k = 10 ∨ k = 11 ∨ k = 12 ∨ k = 13 ∨ k = 14 ∨ k = 15 := by omega
  rcases hc with rfl | rfl | rfl | rfl | rfl | rfl | rfl | rfl | rfl | rfl | rfl | rfl | rfl | rfl | rfl | rfl <;> simp only [ki, kn] at hs <;> simp only [cI, cN, ki, kn] <;> omega
theorem c_all {k n : Nat} (hs : 0 < ki k + kn k) : cI k (n * (ki k + kn k)) = n * ki k ∧ cN k (n * (ki k + kn k)) = n * kn k := by
  unfold cI cN
  rw [Nat.mul_div_cancel _ hs, Nat.mul_mod_left]
  simp
/-- The i-th word of the entries. -/
def wW (k : Nat) (ids : List Nat) (nums : List Int) (i : Nat) : Str := if i % (ki k + kn k) < ki k then Lib.decDigits (ids.getD (cI k i) 0) else Lib.itoa (nums.getD (cN k i) 0)
def entW (k : Nat) (ids : List Nat) (nums : List Int) (m : Nat) : List Str := (List.range m).map (wW k ids nums)
/-- The words, read. -/
def rdW (k : Nat) : Nat → List Str → List Nat × List Int → Option (List Nat × List Int)
  | _, [], acc => some acc
  | i, w :: ws, acc => if i % (ki k + kn k) < ki k then (uns w).bind fun x => rdW k (i + 1) ws (acc.1 ++ [x], acc.2) else (sgn w).bind fun x => rdW k (i + 1) ws (acc.1, acc.2 ++ [x])
theorem rdW_app (k : Nat) : ∀ (ws vs : List Str) (i : Nat) (acc : List Nat × List Int), rdW k i (ws ++ vs) acc = (rdW k i ws acc).bind (rdW k (i + ws.length) vs)
  | [], vs, i, acc => rfl
  | w :: ws, vs, i, acc => by
    show (if i % (ki k + kn k) < ki k then (uns w).bind fun x => rdW k (i + 1) (ws ++ vs) (acc.1 ++ [x], acc.2) else (sgn w).bind fun x => rdW k (i + 1) (ws ++ vs) (acc.1, acc.2 ++ [x])) = (if i % (ki k + kn k) < ki k then (uns w).bind fun x => rdW k (i + 1) ws (acc.1 ++ [x], acc.2) else (sgn w).bind fun x => rdW k (i + 1) ws (acc.1, acc.2 ++ [x])).bind _
    have hl : i + (w :: ws).length = i + 1 + ws.length := by simp; omega
    rw [hl]
    split
    · cases uns w with
      | none => rfl
      | some x => exact rdW_app k ws vs (i + 1) _
    · cases sgn w with
      | none => rfl
      | some x => exact rdW_app k ws vs (i + 1) _
theorem take_getD {α : Type} (d : α) {l : List α} {i : Nat} (h : i < l.length) : l.take (i + 1) = l.take i ++ [l.getD i d] := by
  rw [List.take_succ_eq_append_getElem h]
  simp [h]
/-- What is written is read. -/
theorem rd_ent {k : Nat} (hk : k < 16) (hs : 0 < ki k + kn k) {ids : List Nat} {nums : List Int} (hi : ∀ x ∈ ids, x ≤ 18446744073709551615) (hn : ∀ x ∈ nums, -9223372036854775808 ≤ x ∧ x ≤ 9223372036854775807) :
    ∀ m, cI k m ≤ ids.length → cN k m ≤ nums.length → rdW k 0 (entW k ids nums m) ([], []) = some (ids.take (cI k m), nums.take (cN k m))
  | 0, _, _ => by simp [entW, rdW, cI, cN]
  | m + 1, h1, h2 => by
    obtain ⟨s1, s2⟩ := c_step (i := m) hk hs
    have e : entW k ids nums (m + 1) = entW k ids nums m ++ [wW k ids nums m] := by unfold entW; rw [List.range_succ]; simp
    have hl : (entW k ids nums m).length = m := by simp [entW]
    rw [e, rdW_app, hl]
    by_cases hp : m % (ki k + kn k) < ki k
    · obtain ⟨a, b⟩ := s1 hp
      rw [a] at h1
      rw [b] at h2
      rw [rd_ent hk hs hi hn m (by omega) h2]
      show rdW k (0 + m) [wW k ids nums m] (ids.take (cI k m), nums.take (cN k m)) = _
      have hlt : cI k m < ids.length := by omega
      unfold rdW wW
      rw [Nat.zero_add, if_pos hp, if_pos hp, uns_dec (by
        rw [List.getD_eq_getElem?_getD, List.getElem?_eq_getElem hlt]
        exact hi _ (List.getElem_mem hlt))]
      show some (ids.take (cI k m) ++ [ids.getD (cI k m) 0], nums.take (cN k m)) = _
      rw [a, b, take_getD 0 hlt]
    · obtain ⟨a, b⟩ := s2 hp
      rw [a] at h1
      rw [b] at h2
      rw [rd_ent hk hs hi hn m h1 (by omega)]
      show rdW k (0 + m) [wW k ids nums m] (ids.take (cI k m), nums.take (cN k m)) = _
      have hlt : cN k m < nums.length := by omega
      have hx := hn _ (List.getElem_mem hlt)
      unfold rdW wW
      rw [Nat.zero_add, if_neg hp, if_neg hp, sgn_itoa (by
        rw [List.getD_eq_getElem?_getD, List.getElem?_eq_getElem hlt]
        exact hx.1) (by
        rw [List.getD_eq_getElem?_getD, List.getElem?_eq_getElem hlt]
        exact hx.2)]
      show some (ids.take (cI k m), nums.take (cN k m) ++ [nums.getD (cN k m) 0]) = _
      rw [a, b, take_getD 0 hlt]
theorem c_le {k : Nat} (hk : k < 16) (hs : 0 < ki k + kn k) {i : Nat} : ∀ d, cI k i ≤ cI k (i + d) ∧ cN k i ≤ cN k (i + d)
  | 0 => ⟨Nat.le_refl _, Nat.le_refl _⟩
  | d + 1 => by
    have ih := c_le hk hs (i := i) d
    obtain ⟨s1, s2⟩ := c_step (i := i + d) hk hs
    rw [← Nat.add_assoc]
    by_cases hp : (i + d) % (ki k + kn k) < ki k
    · obtain ⟨a, b⟩ := s1 hp; omega
    · obtain ⟨a, b⟩ := s2 hp; omega
theorem c_lt {k : Nat} (hk : k < 16) (hs : 0 < ki k + kn k) {i n : Nat} (h : i < n) : (i % (ki k + kn k) < ki k → cI k i < cI k n) ∧ (¬ i % (ki k + kn k) < ki k → cN k i < cN k n) := by
  obtain ⟨s1, s2⟩ := c_step (i := i) hk hs
  have hm := c_le hk hs (i := i + 1) (n - (i + 1))
  rw [show i + 1 + (n - (i + 1)) = n by omega] at hm
  exact ⟨fun hp => by have := (s1 hp).1; omega, fun hp => by have := (s2 hp).2; omega⟩
theorem getD_app {α : Type} (d : α) {l a : List α} {i : Nat} (h : i < l.length) : (l ++ a).getD i d = l.getD i d := by
  rw [List.getD_eq_getElem?_getD, List.getD_eq_getElem?_getD, List.getElem?_append_left h]
theorem getD_end {α : Type} (d x : α) (l : List α) : (l ++ [x]).getD l.length d = x := by
  rw [List.getD_eq_getElem?_getD, List.getElem?_append_right (Nat.le_refl _), Nat.sub_self]; rfl
/-- What is read is written. -/
theorem ent_rd {k : Nat} (hk : k < 16) (hs : 0 < ki k + kn k) : ∀ (n : Nat) (ws : List Str) (ids : List Nat) (nums : List Int), ws.length = n → rdW k 0 ws ([], []) = some (ids, nums) → ids.length = cI k n ∧ nums.length = cN k n ∧ entW k ids nums n = ws
  | 0, ws, ids, nums, hl, h => by
    obtain rfl := List.eq_nil_of_length_eq_zero hl
    change some (([] : List Nat), ([] : List Int)) = some (ids, nums) at h
    cases h
    simp [entW, cI, cN]
  | n + 1, ws, ids, nums, hl, h => by
    have hne : ws ≠ [] := by intro e; rw [e] at hl; simp at hl
    have he := List.dropLast_concat_getLast hne
    have hdl : ws.dropLast.length = n := by simp [hl]
    rw [← he, rdW_app, hdl, Nat.zero_add] at h
    cases hd : rdW k 0 ws.dropLast ([], []) with
    | none => rw [hd] at h; cases h
    | some q =>
      obtain ⟨i0, n0⟩ := q
      rw [hd] at h
      obtain ⟨k1, k2, k3⟩ := ent_rd hk hs n ws.dropLast i0 n0 hdl hd
      obtain ⟨s1, s2⟩ := c_step (i := n) hk hs
      generalize ws.getLast hne = w at *
      change (if n % (ki k + kn k) < ki k then (uns w).bind fun x => some (i0 ++ [x], n0) else (sgn w).bind fun x => some (i0, n0 ++ [x])) = some (ids, nums) at h
      have e : ∀ a b, entW k a b (n + 1) = entW k a b n ++ [wW k a b n] := fun a b => by unfold entW; rw [List.range_succ]; simp
      have hsame : ∀ (a : List Nat) (b : List Int), entW k (i0 ++ a) (n0 ++ b) n = entW k i0 n0 n := fun a b => by
        unfold entW
        refine List.map_congr_left (fun i hi => ?_)
        have hin := List.mem_range.1 hi
        obtain ⟨l1, l2⟩ := c_lt hk hs hin
        unfold wW
        split
        · rename_i hp; rw [getD_app 0 (by rw [k1]; exact l1 hp)]
        · rename_i hp; rw [getD_app 0 (by rw [k2]; exact l2 hp)]
      by_cases hp : n % (ki k + kn k) < ki k
      · rw [if_pos hp] at h
        obtain ⟨a, b⟩ := s1 hp
        cases hu : uns w with
        | none => rw [hu] at h; cases h
        | some x =>
          rw [hu] at h
          change some (i0 ++ [x], n0) = some (ids, nums) at h
          cases h
          refine ⟨by rw [List.length_append, k1, a]; rfl, by rw [k2, b], ?_⟩
          have h0 := hsame [x] []
          rw [List.append_nil] at h0
          rw [e, h0, k3]
          unfold wW
          rw [if_pos hp, ← k1, getD_end, ← (uns_iff.1 hu).1]
          exact he
      · rw [if_neg hp] at h
        obtain ⟨a, b⟩ := s2 hp
        cases hu : sgn w with
        | none => rw [hu] at h; cases h
        | some x =>
          rw [hu] at h
          change some (i0, n0 ++ [x]) = some (ids, nums) at h
          cases h
          refine ⟨by rw [k1, a], by rw [List.length_append, k2, b]; rfl, ?_⟩
          have h0 := hsame [] [x]
          rw [List.append_nil] at h0
          rw [e, h0, k3]
          unfold wW
          rw [if_neg hp, ← k2, getD_end, ← sgn_some hu]
          exact he
end Go.Proofs.YtlmdkcpiimpniaaDoor
/- Chapter 41, plain: the words of a line, written and read. -/
namespace Go.Proofs.YtlmdkcpiimpniaaDoor
open Go
set_option linter.unusedVariables false
set_option linter.unusedSimpArgs false

/-- The words of the kinds. -/
def kwS : Nat → Str
  | 0 => [45]
  | 1 => [97, 100, 100]
  | 2 => [116, 105, 99, 107]
  | 3 => [99, 111, 110, 110, 101, 99, 116, 101, 100]
  | 4 => [115, 105, 122, 101]
  | 5 => [99, 111, 117, 110, 116]
  | 6 => [99, 108, 117, 115, 116, 101, 114]
  | 7 => [99, 108, 117, 115, 116, 101, 114, 115]
  | 8 => [109, 105, 110, 105, 109, 97, 120]
  | 9 => [109, 101, 114, 103, 101, 115]
  | 10 => [115, 119, 101, 101, 112]
  | 11 => [114, 97, 110, 100, 111, 109]
  | 12 => [104, 105, 115, 116, 111]
  | 13 => [98, 114, 105, 100, 103, 101, 115]
  | 14 => [99, 111, 114, 101, 115]
  | _ => [115, 116, 97, 116, 115]
def errW : Str := [101, 114, 114, 111, 114]
def okW : Str := [111, 107]
def yesW : Str := [121, 101, 115]
def noW : Str := [110, 111]
def findW (w : Str) : Option Nat := (List.range 16).find? fun k => kwS k == w
theorem findW_kw : ∀ k : Fin 16, findW (kwS k.val) = some k.val := by decide +kernel
theorem findW_some {w : Str} {k : Nat} (h : findW w = some k) : k < 16 ∧ kwS k = w := by
  unfold findW at h
  have h1 := List.find?_some h
  have h2 := List.mem_of_find?_eq_some h
  exact ⟨List.mem_range.1 h2, by simpa using h1⟩
def asksK (k : Nat) : Bool := k == 3 || k == 8
def ents (k : Nat) (ws : List Str) : Option (List Nat × List Int) :=
  if ki k + kn k = 0 then (if ws = [] then some ([], []) else none) else if ws.length % (ki k + kn k) ≠ 0 then none else rdW k 0 ws ([], [])
def readOk (k : Nat) : List Str → Option Rp
  | rest => if asksK k = true then
      match rest with
      | [] => none
      | y :: r => if y = yesW ∨ y = noW then (ents k r).map fun q => ⟨k, 0, decide (y = yesW), q.1, q.2⟩ else none
    else (ents k rest).map fun q => ⟨k, 0, false, q.1, q.2⟩
def readErr (k : Nat) : List Str → Option Rp
  | [x] => (sgn x).bind fun v => if 1 ≤ v ∧ v ≤ 18 then some ⟨k, v, false, [], []⟩ else none
  | _ => none
def readWords : List Str → Option Rp
  | w0 :: w1 :: rest => (findW w0).bind fun k => if w1 = errW then readErr k rest else if w1 = okW then readOk k rest else none
  | _ => none
def entsOf (r : Rp) : List Str := entW r.op.toNat r.ids r.nums (count r.op.toNat r.yes r.ids.length r.nums.length * (ki r.op.toNat + kn r.op.toNat))
def lineWords (r : Rp) : List Str :=
  kwS r.op.toNat :: (if r.er ≠ 0 then [errW, Lib.itoa r.er] else okW :: ((if asksK r.op.toNat = true then [if r.yes = true then yesW else noW] else []) ++ entsOf r))
structure RpIn (r : Rp) : Prop where
  ids : ∀ x ∈ r.ids, x ≤ 18446744073709551615
  nums : ∀ x ∈ r.nums, -9223372036854775808 ≤ x ∧ x ≤ 9223372036854775807
theorem ents_of {r : Rp} (h : fits r) (he : r.er = 0) (hI : RpIn r) : ents r.op.toNat (entsOf r) = some (r.ids, r.nums) := by
  obtain ⟨op, er, yes, ids, nums⟩ := r
  obtain ⟨h1, h2, h3⟩ := h
  simp only at h1 h2 h3 he
  rw [if_neg (by omega)] at h3
  obtain ⟨_, h4, h5⟩ := h3
  unfold ents entsOf
  simp only
  have hk : op.toNat < 16 := by omega
  generalize count op.toNat yes ids.length nums.length = n at *
  by_cases hs : ki op.toNat + kn op.toNat = 0
  · rw [if_pos hs]
    have hk0 : ki op.toNat = 0 := by omega
    have hn0 : kn op.toNat = 0 := by omega
    rw [hk0, Nat.mul_zero] at h4
    rw [hn0, Nat.mul_zero] at h5
    rw [List.eq_nil_of_length_eq_zero h4, List.eq_nil_of_length_eq_zero h5, hs, Nat.mul_zero]
    rfl
  · rw [if_neg hs]
    obtain ⟨c1, c2⟩ := c_all (n := n) (k := op.toNat) (by omega)
    have hl : (entW op.toNat ids nums (n * (ki op.toNat + kn op.toNat))).length = n * (ki op.toNat + kn op.toNat) := by simp [entW]
    rw [hl, Nat.mul_mod_left, if_neg (by simp), rd_ent hk (by omega) hI.ids hI.nums _ (by rw [c1]; exact Nat.le_of_eq h4.symm) (by rw [c2]; exact Nat.le_of_eq h5.symm), c1, c2, ← h4, ← h5, List.take_length, List.take_length]
theorem asks_eq {op : Int} (h : ¬ (op < 0 ∨ 16 ≤ op)) : asksO op = asksK op.toNat := by
  have hc : op = 0 ∨ op = 1 ∨ op = 2 ∨ op = 3 ∨ op = 4 ∨ op = 5 ∨ op = 6 ∨ op = 7 ∨ op = 8 ∨ op = 9 ∨ op = 10 ∨ op = 11 ∨ op = 12 ∨ op = 13 ∨ op = 14 ∨ op = 15 := by omega
  rcases hc with rfl | rfl | rfl | rfl | rfl | rfl | rfl | rfl | rfl | rfl | rfl | rfl | rfl | rfl | rfl | rfl <;> rfl
/-- What is written is read. -/
theorem read_line {r : Rp} (h : fits r) (hI : RpIn r) : readWords (lineWords r) = some r := by
  have hk : r.op.toNat < 16 := by have := h.1; omega
  have hop : ((r.op.toNat : Nat) : Int) = r.op := by have := h.1; omega
  have hf := findW_kw ⟨r.op.toNat, hk⟩
  simp only at hf
  unfold lineWords
  by_cases he : r.er ≠ 0
  · rw [if_pos he]
    show (findW (kwS r.op.toNat)).bind _ = _
    rw [hf]
    show (if errW = errW then readErr r.op.toNat [Lib.itoa r.er] else if errW = okW then readOk r.op.toNat [Lib.itoa r.er] else none) = _
    rw [if_pos rfl]
    have h3 := h.2.2
    rw [if_pos he] at h3
    obtain ⟨⟨e1, e2⟩, n1, n2, n3⟩ := h3
    show (sgn (Lib.itoa r.er)).bind (fun v => if 1 ≤ v ∧ v ≤ 18 then some (⟨r.op.toNat, v, false, [], []⟩ : Rp) else none) = _
    rw [sgn_itoa (by omega) (by omega)]
    show (if 1 ≤ r.er ∧ r.er ≤ 18 then some (⟨r.op.toNat, r.er, false, [], []⟩ : Rp) else none) = _
    rw [if_pos ⟨e1, e2⟩, hop]
    obtain ⟨op, er, yes, ids, nums⟩ := r
    simp only at n1 n2 n3 ⊢
    rw [n1, List.eq_nil_of_length_eq_zero n2, List.eq_nil_of_length_eq_zero n3]
  · have he0 : r.er = 0 := by simpa using he
    rw [if_neg he]
    show (findW (kwS r.op.toNat)).bind _ = _
    rw [hf]
    show (if okW = errW then readErr r.op.toNat ((if asksK r.op.toNat = true then [if r.yes = true then yesW else noW] else []) ++ entsOf r) else if okW = okW then readOk r.op.toNat ((if asksK r.op.toNat = true then [if r.yes = true then yesW else noW] else []) ++ entsOf r) else none) = _
    rw [if_neg (by decide), if_pos rfl]
    have hen := ents_of h he0 hI
    have hy := h.2.2
    rw [if_neg he] at hy
    have ha := asks_eq h.1
    unfold readOk
    by_cases hask : asksK r.op.toNat = true
    · rw [if_pos hask, if_pos hask]
      show (if (if r.yes = true then yesW else noW) = yesW ∨ (if r.yes = true then yesW else noW) = noW then (ents r.op.toNat (entsOf r)).map _ else none) = _
      rw [if_pos (by cases r.yes <;> simp), hen]
      obtain ⟨op, er, yes, ids, nums⟩ := r
      simp only at hop he0 ⊢
      subst he0
      cases yes <;> simp [hop] <;> decide
    · rw [if_neg hask, if_neg hask]
      show (ents r.op.toNat ([] ++ entsOf r)).map _ = _
      rw [List.nil_append, hen]
      obtain ⟨op, er, yes, ids, nums⟩ := r
      simp only at hop he0 ⊢ hy ha hask
      subst he0
      have hyf : yes = false := by
        cases yes with
        | false => rfl
        | true => exact absurd ⟨rfl, by rw [ha]; simpa using hask⟩ hy.1
      subst hyf
      simp [hop]
end Go.Proofs.YtlmdkcpiimpniaaDoor
/- Chapter 41, plain: what was read has the line that was read. -/
namespace Go.Proofs.YtlmdkcpiimpniaaDoor
open Go
set_option linter.unusedVariables false
set_option linter.unusedSimpArgs false

/-- The entries' words, out of what they are read as. -/
theorem ents_inv {k : Nat} (hk : k < 16) {ws : List Str} {ids : List Nat} {nums : List Int} (h : ents k ws = some (ids, nums)) :
    ∃ n, ids.length = n * ki k ∧ nums.length = n * kn k ∧ entW k ids nums (n * (ki k + kn k)) = ws := by
  unfold ents at h
  by_cases hs : ki k + kn k = 0
  · rw [if_pos hs] at h
    split at h
    · rename_i hw
      cases h
      refine ⟨0, by simp, by simp, ?_⟩
      rw [hw, Nat.zero_mul]; rfl
    · cases h
  · rw [if_neg hs] at h
    split at h
    · cases h
    · rename_i hm
      have hm0 : ws.length % (ki k + kn k) = 0 := by omega
      obtain ⟨n, hn⟩ : ∃ n, ws.length = n * (ki k + kn k) := ⟨ws.length / (ki k + kn k), by
        have := Nat.div_add_mod ws.length (ki k + kn k)
        rw [hm0, Nat.add_zero, Nat.mul_comm] at this
        exact this.symm⟩
      obtain ⟨h1, h2, h3⟩ := ent_rd hk (by omega) (n * (ki k + kn k)) ws ids nums hn h
      obtain ⟨c1, c2⟩ := c_all (n := n) (k := k) (by omega)
      exact ⟨n, by rw [h1, c1], by rw [h2, c2], h3⟩
theorem count_of {r : Rp} (h : fits r) (he : r.er = 0) {n : Nat} (h1 : r.ids.length = n * ki r.op.toNat) (h2 : r.nums.length = n * kn r.op.toNat) : entsOf r = entW r.op.toNat r.ids r.nums (n * (ki r.op.toNat + kn r.op.toNat)) := by
  obtain ⟨_, _, h3⟩ := h
  rw [if_neg (by omega)] at h3
  obtain ⟨_, h4, h5⟩ := h3
  unfold entsOf
  generalize count r.op.toNat r.yes r.ids.length r.nums.length = m at *
  have e : m * (ki r.op.toNat + kn r.op.toNat) = n * (ki r.op.toNat + kn r.op.toNat) := by
    rw [Nat.mul_add, Nat.mul_add, ← h4, ← h5, ← h1, ← h2]
  rw [e]
theorem line_read {ws : List Str} {r : Rp} (h : readWords ws = some r) (hf : fits r) : lineWords r = ws := by
  match ws, h with
  | w0 :: w1 :: rest, h =>
    change (findW w0).bind (fun k => if w1 = errW then readErr k rest else if w1 = okW then readOk k rest else none) = some r at h
    cases hw : findW w0 with
    | none => rw [hw] at h; cases h
    | some k =>
      rw [hw] at h
      obtain ⟨hk, hkw⟩ := findW_some hw
      change (if w1 = errW then readErr k rest else if w1 = okW then readOk k rest else none) = some r at h
      by_cases h1 : w1 = errW
      · rw [if_pos h1] at h
        match rest, h with
        | [x], h =>
          change (sgn x).bind (fun v => if 1 ≤ v ∧ v ≤ 18 then some (⟨k, v, false, [], []⟩ : Rp) else none) = some r at h
          cases hx : sgn x with
          | none => rw [hx] at h; cases h
          | some v =>
            rw [hx] at h
            change (if 1 ≤ v ∧ v ≤ 18 then some (⟨k, v, false, [], []⟩ : Rp) else none) = some r at h
            split at h
            · rename_i hv
              cases h
              unfold lineWords
              simp only [Int.toNat_natCast]
              rw [if_pos (by omega), hkw, h1, ← sgn_some hx]
            · cases h
      · rw [if_neg h1] at h
        split at h
        · rename_i h2
          have key : ∀ (y : Bool) (ws' : List Str) (q : List Nat × List Int), ents k ws' = some q → r = ⟨k, 0, y, q.1, q.2⟩ → entsOf r = ws' := fun y ws' q hq hr => by
            obtain ⟨n, e1, e2, e3⟩ := ents_inv hk (ids := q.1) (nums := q.2) hq
            subst hr
            rw [count_of hf rfl (n := n) (by simpa using e1) (by simpa using e2)]
            simpa using e3
          unfold readOk at h
          by_cases ha : asksK k = true
          · rw [if_pos ha] at h
            match rest, h with
            | y :: rs, h =>
              change (if y = yesW ∨ y = noW then (ents k rs).map (fun q => (⟨k, 0, decide (y = yesW), q.1, q.2⟩ : Rp)) else none) = some r at h
              split at h
              · rename_i hy
                cases he : ents k rs with
                | none => rw [he] at h; cases h
                | some q =>
                  rw [he] at h
                  have hr : r = ⟨k, 0, decide (y = yesW), q.1, q.2⟩ := (Option.some.inj h).symm
                  have hen := key _ rs q he hr
                  have hop : r.op.toNat = k := by rw [hr]; simp
                  have her : r.er = 0 := by rw [hr]
                  have hyy : r.yes = decide (y = yesW) := by rw [hr]
                  unfold lineWords
                  rw [hop, her, if_neg (by simp), hen, if_pos ha, hyy, hkw, h2]
                  rcases hy with rfl | rfl
                  · simp
                  · simp [show ¬ noW = yesW by decide]
              · cases h
          · rw [if_neg ha] at h
            cases he : ents k rest with
            | none => rw [he] at h; cases h
            | some q =>
              rw [he] at h
              have hr : r = ⟨k, 0, false, q.1, q.2⟩ := (Option.some.inj h).symm
              have hen := key _ rest q he hr
              have hop : r.op.toNat = k := by rw [hr]; simp
              have her : r.er = 0 := by rw [hr]
              unfold lineWords
              rw [hop, her, if_neg (by simp), hen, if_neg ha, hkw, h2]
              rfl
        · cases h
end Go.Proofs.YtlmdkcpiimpniaaDoor
/- Chapter 41, plain: the document's loose reading of a line. -/
namespace Go.Proofs.YtlmdkcpiimpniaaDoor
open Go
set_option linter.unusedVariables false
set_option linter.unusedSimpArgs false

/-- value of the document: in 64 bits, each byte less '0' in 8 bits. -/
def val (a : Nat) : Str → Nat
  | [] => a
  | c :: l => val ((10 * a + (c.toNat + 208) % 256) % 18446744073709551616) l
theorem val_vl : ∀ (s : Str) (a : Nat), (∀ c ∈ s, isD c = true) → vl a s ≤ 18446744073709551615 → val a s = vl a s
  | [], a, _, _ => rfl
  | c :: l, a, hd, h => by
    have hc := isD_iff.1 (hd c (by simp))
    have hge := vl_ge l (a * 10 + (c.toNat - 48))
    have hv : vl (a * 10 + (c.toNat - 48)) l ≤ 18446744073709551615 := h
    show val ((10 * a + (c.toNat + 208) % 256) % 18446744073709551616) l = vl (a * 10 + (c.toNat - 48)) l
    have e : (10 * a + (c.toNat + 208) % 256) % 18446744073709551616 = a * 10 + (c.toNat - 48) := by omega
    rw [e]
    exact val_vl l _ (fun x hx => hd x (List.mem_cons_of_mem _ hx)) hv
theorem val_dec {u : Nat} (h : u ≤ 18446744073709551615) : val 0 (Lib.decDigits u) = u := by
  rw [val_vl _ 0 (dec_dig u) (by rw [vl_dec]; exact h), vl_dec]
def w64 (n : Int) : Int := (n + 9223372036854775808) % 18446744073709551616 - 9223372036854775808
/-- A signed number, read loosely. -/
def sval : Str → Int
  | [] => 0
  | c :: l => if c = 45 then w64 (-(w64 (val 0 l))) else w64 (val 0 (c :: l))
theorem sval_itoa {x : Int} (h0 : -9223372036854775808 ≤ x) (h1 : x ≤ 9223372036854775807) : sval (Lib.itoa x) = x := by
  rcases Int.lt_or_le x 0 with hx | hx
  · obtain ⟨n, hn⟩ : ∃ n : Nat, x = -(n : Int) := ⟨x.natAbs, by omega⟩
    subst hn
    rw [itoa_neg (by omega)]
    show (if (45 : UInt8) = 45 then w64 (-(w64 (val 0 (Lib.decDigits n)))) else w64 (val 0 (45 :: Lib.decDigits n))) = _
    rw [if_pos rfl, val_dec (by omega)]
    unfold w64
    omega
  · obtain ⟨n, hn⟩ := Int.eq_ofNat_of_zero_le hx
    subst hn
    rw [itoa_nn]
    have hd := dec_dig n
    have hv := val_dec (u := n) (by omega)
    have hne := dec_ne n
    generalize Lib.decDigits n = s at *
    match s, hne with
    | c :: l, _ =>
      have hc := isD_iff.1 (hd c (by simp))
      show (if c = 45 then w64 (-(w64 (val 0 l))) else w64 (val 0 (c :: l))) = _
      rw [if_neg (fun e => by rw [e] at hc; revert hc; decide), hv]
      unfold w64
      omega
/-- The words, read loosely. -/
def lsW (k : Nat) : Nat → List Str → List Nat × List Int → List Nat × List Int
  | _, [], acc => acc
  | i, w :: ws, acc => if i % (ki k + kn k) < ki k then lsW k (i + 1) ws (acc.1 ++ [val 0 w], acc.2) else lsW k (i + 1) ws (acc.1, acc.2 ++ [sval w])
theorem ls_of_rd {k : Nat} : ∀ (ws : List Str) (i : Nat) (acc q : List Nat × List Int), (∀ w x, sgn w = some x → -9223372036854775808 ≤ x ∧ x ≤ 9223372036854775807) → rdW k i ws acc = some q → lsW k i ws acc = q
  | [], i, acc, q, _, h => by cases h; rfl
  | w :: ws, i, acc, q, hr, h => by
    change (if i % (ki k + kn k) < ki k then (uns w).bind fun x => rdW k (i + 1) ws (acc.1 ++ [x], acc.2) else (sgn w).bind fun x => rdW k (i + 1) ws (acc.1, acc.2 ++ [x])) = some q at h
    show (if i % (ki k + kn k) < ki k then lsW k (i + 1) ws (acc.1 ++ [val 0 w], acc.2) else lsW k (i + 1) ws (acc.1, acc.2 ++ [sval w])) = q
    by_cases hp : i % (ki k + kn k) < ki k
    · rw [if_pos hp] at h ⊢
      cases hu : uns w with
      | none => rw [hu] at h; cases h
      | some x =>
        rw [hu] at h
        obtain ⟨e1, e2⟩ := uns_iff.1 hu
        rw [e1, val_dec e2]
        exact ls_of_rd ws (i + 1) _ q hr h
    · rw [if_neg hp] at h ⊢
      cases hu : sgn w with
      | none => rw [hu] at h; cases h
      | some x =>
        rw [hu] at h
        obtain ⟨b0, b1⟩ := hr w x hu
        rw [sgn_some hu, sval_itoa b0 b1]
        exact ls_of_rd ws (i + 1) _ q hr h
theorem sgC {N : Nat} {o : Lib.NumEnd Nat} {v : Int} (hN : N = 9223372036854775808) (h : Lib.signedC N o = .ok v) : -9223372036854775808 ≤ v ∧ v ≤ 9223372036854775807 := by
  subst hN
  unfold Lib.signedC at h
  split at h
  · cases h
  · cases h
  · split at h
    · cases h
    · injection h with h
      omega
theorem slC {N : Nat} {o : Lib.NumEnd Nat} {v : Int} (hN : N = 9223372036854775808) (h : Lib.signlessC N o = .ok v) : -9223372036854775808 ≤ v ∧ v ≤ 9223372036854775807 := by
  subst hN
  unfold Lib.signlessC at h
  split at h
  · cases h
  · cases h
  · split at h
    · cases h
    · injection h with h
      omega
theorem sgn_in {w : Str} {x : Int} (h : sgn w = some x) : -9223372036854775808 ≤ x ∧ x ≤ 9223372036854775807 := by
  unfold sgn at h
  split at h
  · rename_i v hv
    split at h
    · obtain rfl := Option.some.inj h
      cases w with
      | nil => cases hv
      | cons c r =>
        by_cases h45 : c = 45
        · subst h45
          rw [Lib.parseIntB_minus] at hv
          exact sgC (by decide) hv
        · by_cases h43 : c = 43
          · subst h43
            rw [Lib.parseIntB_plus] at hv
            exact slC (by decide) hv
          · rw [Lib.parseIntB_plain 64 c r (fun e => h43 (UInt8.toNat_inj.1 e)) (fun e => h45 (UInt8.toNat_inj.1 e))] at hv
            exact slC (by decide) hv
    · cases h
  · cases h
end Go.Proofs.YtlmdkcpiimpniaaDoor
/- Chapter 41, plain: both readings of a line agree. -/
namespace Go.Proofs.YtlmdkcpiimpniaaDoor
open Go
set_option linter.unusedVariables false
set_option linter.unusedSimpArgs false

def lsE (k : Nat) (ws : List Str) : List Nat × List Int := if ki k + kn k = 0 then ([], []) else lsW k 0 ws ([], [])
def looseOk (k : Nat) (rest : List Str) : Rp := if asksK k = true then
    match rest with
    | [] => ⟨k, 0, false, (lsE k []).1, (lsE k []).2⟩
    | y :: r => ⟨k, 0, decide (y = yesW), (lsE k r).1, (lsE k r).2⟩
  else ⟨k, 0, false, (lsE k rest).1, (lsE k rest).2⟩
def looseErr (k : Nat) : List Str → Rp
  | [x] => ⟨k, ((val 0 x % 100 : Nat) : Int), false, [], []⟩
  | _ => ⟨k, 0, false, [], []⟩
def looseWords : List Str → Option Rp
  | w0 :: w1 :: rest => (findW w0).map fun k => if w1 = errW then looseErr k rest else if w1 = okW then looseOk k rest else ⟨k, 0, false, [], []⟩
  | _ => none
theorem ls_of_ents {k : Nat} {ws : List Str} {q : List Nat × List Int} (h : ents k ws = some q) : lsE k ws = q := by
  unfold ents at h
  unfold lsE
  by_cases hs : ki k + kn k = 0
  · rw [if_pos hs] at h ⊢
    split at h
    · cases h; rfl
    · cases h
  · rw [if_neg hs] at h ⊢
    split at h
    · cases h
    · exact ls_of_rd ws 0 _ q (fun w x => sgn_in) h
theorem loose_of_read {ws : List Str} {r : Rp} (h : readWords ws = some r) : looseWords ws = some r := by
  match ws, h with
  | w0 :: w1 :: rest, h =>
    change (findW w0).bind (fun k => if w1 = errW then readErr k rest else if w1 = okW then readOk k rest else none) = some r at h
    show (findW w0).map (fun k => if w1 = errW then looseErr k rest else if w1 = okW then looseOk k rest else ⟨k, 0, false, [], []⟩) = some r
    cases hw : findW w0 with
    | none => rw [hw] at h; cases h
    | some k =>
      rw [hw] at h
      change (if w1 = errW then readErr k rest else if w1 = okW then readOk k rest else none) = some r at h
      show some (if w1 = errW then looseErr k rest else if w1 = okW then looseOk k rest else ⟨k, 0, false, [], []⟩) = some r
      by_cases h1 : w1 = errW
      · rw [if_pos h1] at h ⊢
        match rest, h with
        | [x], h =>
          change (sgn x).bind (fun v => if 1 ≤ v ∧ v ≤ 18 then some (⟨k, v, false, [], []⟩ : Rp) else none) = some r at h
          cases hx : sgn x with
          | none => rw [hx] at h; cases h
          | some v =>
            rw [hx] at h
            change (if 1 ≤ v ∧ v ≤ 18 then some (⟨k, v, false, [], []⟩ : Rp) else none) = some r at h
            split at h
            · rename_i hv
              rw [← h]
              have e := sgn_some hx
              obtain ⟨n, hn⟩ := Int.eq_ofNat_of_zero_le (show 0 ≤ v by omega)
              subst hn
              rw [itoa_nn] at e
              show some (⟨k, ((val 0 x % 100 : Nat) : Int), false, [], []⟩ : Rp) = _
              rw [e, val_dec (by omega), Nat.mod_eq_of_lt (by omega)]
            · cases h
      · rw [if_neg h1] at h ⊢
        split at h
        · rename_i h2
          rw [if_pos h2]
          unfold readOk at h
          unfold looseOk
          by_cases ha : asksK k = true
          · rw [if_pos ha] at h ⊢
            match rest, h with
            | y :: rs, h =>
              change (if y = yesW ∨ y = noW then (ents k rs).map (fun q => (⟨k, 0, decide (y = yesW), q.1, q.2⟩ : Rp)) else none) = some r at h
              split at h
              · cases he : ents k rs with
                | none => rw [he] at h; cases h
                | some q =>
                  rw [he] at h
                  rw [← h]
                  show some (⟨k, 0, decide (y = yesW), (lsE k rs).1, (lsE k rs).2⟩ : Rp) = _
                  rw [ls_of_ents he]; rfl
              · cases h
          · rw [if_neg ha] at h ⊢
            cases he : ents k rest with
            | none => rw [he] at h; cases h
            | some q =>
              rw [he] at h
              rw [← h, ls_of_ents he]; rfl
        · cases h
/-- What the program's Parse and the document's make of the words: they agree. -/
theorem readings {ws : List Str} {r : Rp} (hI : looseWords ws = some r → RpIn r) : (readWords ws = some r ∧ fits r) ↔ (looseWords ws = some r ∧ fits r ∧ lineWords r = ws) := by
  constructor
  · rintro ⟨h, hf⟩
    exact ⟨loose_of_read h, hf, line_read h hf⟩
  · rintro ⟨h, hf, hl⟩
    have := read_line hf (hI h)
    rw [hl] at this
    exact ⟨this, hf⟩
end Go.Proofs.YtlmdkcpiimpniaaDoor
/- Chapter 41, plain: lines as strings; the program's Parse and the document's are the same. -/
namespace Go.Proofs.YtlmdkcpiimpniaaDoor
open Go
set_option linter.unusedVariables false
set_option linter.unusedSimpArgs false

theorem jn_sp : ∀ s : Str, jn (sp s) = s
  | [] => rfl
  | b :: l => by
    have ih := jn_sp l
    have hne := sp_ne l
    show jn (if b = 32 then [] :: sp l else (b :: (sp l).headD []) :: (sp l).tail) = b :: l
    cases hs : sp l with
    | nil => exact absurd hs hne
    | cons a r =>
      rw [hs] at ih
      by_cases h : b = 32
      · rw [if_pos h, h]
        show ([] : Str) ++ 32 :: jn (a :: r) = 32 :: l
        rw [ih]; rfl
      · rw [if_neg h]
        cases r with
        | nil => show b :: a = b :: l; rw [show a = l from ih]
        | cons c r => show (b :: a) ++ 32 :: jn (c :: r) = b :: l; rw [← ih]; rfl
theorem itoa32 (x : Int) : (32 : UInt8) ∉ Lib.itoa x := by
  intro h
  unfold Lib.itoa at h
  split at h
  · rcases List.mem_cons.1 h with h | h
    · revert h; decide
    · have := dec_dig _ _ h; revert this; decide
  · have := dec_dig _ _ h; revert this; decide
theorem dec32 (n : Nat) : (32 : UInt8) ∉ Lib.decDigits n := fun h => by have := dec_dig _ _ h; revert this; decide
theorem kw32 (k : Nat) : (32 : UInt8) ∉ kwS k := by unfold kwS; split <;> decide
theorem words32 (r : Rp) : ∀ a ∈ lineWords r, (32 : UInt8) ∉ a := fun a ha => by
  unfold lineWords at ha
  rcases List.mem_cons.1 ha with rfl | ha
  · exact kw32 _
  · split at ha
    · simp only [List.mem_cons, List.not_mem_nil, or_false] at ha
      rcases ha with rfl | rfl
      · decide
      · exact itoa32 _
    · rcases List.mem_cons.1 ha with rfl | ha
      · decide
      · rcases List.mem_append.1 ha with ha | ha
        · split at ha
          · rw [List.mem_singleton.1 ha]; split <;> decide
          · cases ha
        · unfold entsOf entW at ha
          obtain ⟨i, _, rfl⟩ := List.mem_map.1 ha
          unfold wW
          split
          · exact dec32 _
          · exact itoa32 _
def lineS (r : Rp) : Str := jn (lineWords r)
theorem sp_line (r : Rp) : sp (lineS r) = lineWords r := sp_jn (by unfold lineWords; simp) (words32 r)
/-- A string is read as r exactly if the document's Parse makes r of it. -/
theorem parse_agree {s : Str} {r : Rp} (hI : looseWords (sp s) = some r → RpIn r) : (readWords (sp s) = some r ∧ fits r) ↔ (looseWords (sp s) = some r ∧ fits r ∧ lineS r = s) := by
  rw [readings hI]
  constructor
  · rintro ⟨h1, h2, h3⟩
    exact ⟨h1, h2, by unfold lineS; rw [h3, jn_sp]⟩
  · rintro ⟨h1, h2, h3⟩
    exact ⟨h1, h2, by rw [← h3, sp_line]⟩
theorem parse_line {r : Rp} (h : fits r) (hI : RpIn r) : readWords (sp (lineS r)) = some r := by rw [sp_line]; exact read_line h hI
theorem line_parse {s : Str} {r : Rp} (h : readWords (sp s) = some r) (hf : fits r) : lineS r = s := by unfold lineS; rw [line_read h hf, jn_sp]
/-- What is read loosely is in range. -/
theorem val_lt : ∀ (s : Str) (a : Nat), a ≤ 18446744073709551615 → val a s ≤ 18446744073709551615
  | [], a, h => h
  | c :: l, a, _ => val_lt l _ (by omega)
theorem w64_rng (n : Int) : -9223372036854775808 ≤ w64 n ∧ w64 n ≤ 9223372036854775807 := by unfold w64; omega
theorem sval_rng (s : Str) : -9223372036854775808 ≤ sval s ∧ sval s ≤ 9223372036854775807 := by
  cases s with
  | nil => exact ⟨by decide, by decide⟩
  | cons c l =>
    have e : sval (c :: l) = if c = 45 then w64 (-(w64 (val 0 l))) else w64 (val 0 (c :: l)) := rfl
    rw [e]
    split
    · exact w64_rng (-(w64 (val 0 l)))
    · exact w64_rng (val 0 (c :: l))
theorem lsW_rng (k : Nat) : ∀ (ws : List Str) (i : Nat) (acc : List Nat × List Int), (∀ x ∈ acc.1, x ≤ 18446744073709551615) → (∀ x ∈ acc.2, -9223372036854775808 ≤ x ∧ x ≤ 9223372036854775807) →
    (∀ x ∈ (lsW k i ws acc).1, x ≤ 18446744073709551615) ∧ (∀ x ∈ (lsW k i ws acc).2, -9223372036854775808 ≤ x ∧ x ≤ 9223372036854775807)
  | [], i, acc, h1, h2 => ⟨h1, h2⟩
  | w :: ws, i, acc, h1, h2 => by
    unfold lsW
    split
    · refine lsW_rng k ws (i + 1) _ (fun x hx => ?_) h2
      rcases List.mem_append.1 hx with hx | hx
      · exact h1 x hx
      · rw [List.mem_singleton.1 hx]; exact val_lt _ _ (by decide)
    · refine lsW_rng k ws (i + 1) _ h1 (fun x hx => ?_)
      rcases List.mem_append.1 hx with hx | hx
      · exact h2 x hx
      · rw [List.mem_singleton.1 hx]; exact sval_rng w
theorem lsE_rng (k : Nat) (ws : List Str) : (∀ x ∈ (lsE k ws).1, x ≤ 18446744073709551615) ∧ (∀ x ∈ (lsE k ws).2, -9223372036854775808 ≤ x ∧ x ≤ 9223372036854775807) := by
  unfold lsE
  split
  · exact ⟨fun x hx => (by cases hx), fun x hx => (by cases hx)⟩
  · exact lsW_rng k ws 0 _ (fun x hx => (by cases hx)) (fun x hx => (by cases hx))
theorem in_nil {k : Nat} {er : Int} {y : Bool} : RpIn ⟨k, er, y, [], []⟩ := ⟨fun x hx => (by cases hx), fun x hx => (by cases hx)⟩
theorem in_lsE {k : Nat} {er : Int} {y : Bool} (ws : List Str) : RpIn ⟨k, er, y, (lsE k ws).1, (lsE k ws).2⟩ := ⟨(lsE_rng k ws).1, (lsE_rng k ws).2⟩
theorem loose_in {ws : List Str} {r : Rp} (h : looseWords ws = some r) : RpIn r := by
  match ws, h with
  | w0 :: w1 :: rest, h =>
    change (findW w0).map (fun k => if w1 = errW then looseErr k rest else if w1 = okW then looseOk k rest else ⟨k, 0, false, [], []⟩) = some r at h
    cases hw : findW w0 with
    | none => rw [hw] at h; cases h
    | some k =>
      rw [hw] at h
      have hr : (if w1 = errW then looseErr k rest else if w1 = okW then looseOk k rest else ⟨k, 0, false, [], []⟩) = r := Option.some.inj h
      rw [← hr]
      split
      · unfold looseErr
        split
        · exact in_nil
        · exact in_nil
      · split
        · unfold looseOk
          split
          · split
            · exact in_lsE []
            · exact in_lsE _
          · exact in_lsE rest
        · exact in_nil
/-- The program's Parse and the document's: the same. -/
theorem parse_same (s : Str) (r : Rp) : (readWords (sp s) = some r ∧ fits r) ↔ (looseWords (sp s) = some r ∧ fits r ∧ lineS r = s) := parse_agree loose_in
end Go.Proofs.YtlmdkcpiimpniaaDoor
/- Chapter 41, plain: lists of numbers as bytes. (Imports chapter 40's plain text A for now; to be turned to the seat.) -/
namespace Go.Proofs.YtlmdkcpiimpniaaDoor
set_option linter.unusedVariables false
set_option linter.unusedSimpArgs false

def rdL : Nat → List Nat → Option (List Nat × Nat)
  | 0, _ => some ([], 0)
  | n + 1, b => (gu b).bind fun p => (rdL n (b.drop p.2)).map fun q => (p.1 :: q.1, p.2 + q.2)
def lst (b : List Nat) : Option (List Nat × Nat) := (gu b).bind fun p => if p.1 ≤ 65536 then (rdL p.1 (b.drop p.2)).map fun q => (q.1, p.2 + q.2) else none
def putL (l : List Nat) : List Nat := vi l.length ++ l.flatMap vi
theorem rdL_put : ∀ (l more : List Nat), (∀ x ∈ l, x < 18446744073709551616) → rdL l.length (l.flatMap vi ++ more) = some (l, (l.flatMap vi).length)
  | [], more, _ => rfl
  | x :: l, more, h => by
    have e : (x :: l).flatMap vi ++ more = vi x ++ (l.flatMap vi ++ more) := by simp
    have ih := rdL_put l more (fun y hy => h y (List.mem_cons_of_mem _ hy))
    show (gu ((x :: l).flatMap vi ++ more)).bind (fun p => (rdL l.length (((x :: l).flatMap vi ++ more).drop p.2)).map fun q => (p.1 :: q.1, p.2 + q.2)) = _
    rw [e, gu_vi (h x (by simp))]
    show (rdL l.length ((vi x ++ (l.flatMap vi ++ more)).drop (vi x).length)).map (fun q => (x :: q.1, (vi x).length + q.2)) = _
    rw [List.drop_left, ih]
    simp
theorem lst_put {l : List Nat} (hl : l.length ≤ 65536) (h : ∀ x ∈ l, x < 18446744073709551616) (more : List Nat) : lst (putL l ++ more) = some (l, (putL l).length) := by
  unfold lst putL
  rw [List.append_assoc, gu_vi (by omega)]
  show (if l.length ≤ 65536 then (rdL l.length ((vi l.length ++ (l.flatMap vi ++ more)).drop (vi l.length).length)).map (fun q => (q.1, (vi l.length).length + q.2)) else none) = _
  rw [if_pos hl, List.drop_left, rdL_put l more h]
  simp
theorem rdL_inv : ∀ (n : Nat) (b : List Nat), (∀ c ∈ b, c < 256) → ∀ {l : List Nat} {t : Nat}, rdL n b = some (l, t) → l.length = n ∧ (∀ x ∈ l, x < 18446744073709551616) ∧ t = (l.flatMap vi).length ∧ b = l.flatMap vi ++ b.drop t
  | 0, b, hb, l, t, h => by
    cases h
    exact ⟨rfl, fun x hx => (by cases hx), rfl, rfl⟩
  | n + 1, b, hb, l, t, h => by
    change (gu b).bind (fun p => (rdL n (b.drop p.2)).map fun q => (p.1 :: q.1, p.2 + q.2)) = some (l, t) at h
    cases hg : gu b with
    | none => rw [hg] at h; cases h
    | some p =>
      obtain ⟨x, m⟩ := p
      rw [hg] at h
      obtain ⟨h1, h2, h3⟩ := gu_some hb hg
      change (rdL n (b.drop m)).map (fun q => (x :: q.1, m + q.2)) = some (l, t) at h
      cases hr : rdL n (b.drop m) with
      | none => rw [hr] at h; cases h
      | some q =>
        obtain ⟨l', t'⟩ := q
        rw [hr] at h
        cases h
        obtain ⟨k1, k2, k3, k4⟩ := rdL_inv n (b.drop m) (fun c hc => hb c (List.mem_of_mem_drop hc)) hr
        refine ⟨by simp [k1], fun y hy => ?_, ?_, ?_⟩
        · rcases List.mem_cons.1 hy with rfl | hy
          · exact h1
          · exact k2 y hy
        · simp [k3, h2]
        · rw [List.flatMap_cons, List.append_assoc, ← List.drop_drop, ← k4]
          exact h3
theorem lst_inv {b l : List Nat} {t : Nat} (hb : ∀ c ∈ b, c < 256) (h : lst b = some (l, t)) : l.length ≤ 65536 ∧ (∀ x ∈ l, x < 18446744073709551616) ∧ t = (putL l).length ∧ b = putL l ++ b.drop t := by
  unfold lst at h
  cases hg : gu b with
  | none => rw [hg] at h; cases h
  | some p =>
    obtain ⟨x, m⟩ := p
    rw [hg] at h
    obtain ⟨h1, h2, h3⟩ := gu_some hb hg
    change (if x ≤ 65536 then (rdL x (b.drop m)).map (fun q => (q.1, m + q.2)) else none) = some (l, t) at h
    split at h
    · rename_i hx
      cases hr : rdL x (b.drop m) with
      | none => rw [hr] at h; cases h
      | some q =>
        obtain ⟨l', t'⟩ := q
        rw [hr] at h
        cases h
        obtain ⟨k1, k2, k3, k4⟩ := rdL_inv x (b.drop m) (fun c hc => hb c (List.mem_of_mem_drop hc)) hr
        refine ⟨by show l'.length ≤ 65536; omega, k2, ?_, ?_⟩
        · unfold putL; rw [List.length_append, k1, k3, h2]
        · unfold putL
          rw [k1, List.append_assoc, ← List.drop_drop, ← k4]
          exact h3
    · cases h
end Go.Proofs.YtlmdkcpiimpniaaDoor
/- Chapter 41, plain: replies as bytes; lists of replies; lines. -/
namespace Go.Proofs.YtlmdkcpiimpniaaDoor
open Go
set_option linter.unusedVariables false
set_option linter.unusedSimpArgs false

instance decNone (r : Rp) : Decidable (noneR r) := by unfold noneR; exact inferInstance
instance decFits (r : Rp) : Decidable (fits r) := by unfold fits; exact inferInstance
/-- What Check returns. -/
def chk (r : Rp) : Int := if fits r then (if 65536 < r.ids.length ∨ 65536 < r.nums.length then 16 else 0) else 2
theorem chk_fits {r : Rp} (h : chk r = 0) : fits r ∧ r.ids.length ≤ 65536 ∧ r.nums.length ≤ 65536 := by
  unfold chk at h
  split at h
  · rename_i hf
    split at h
    · cases h
    · exact ⟨hf, by omega, by omega⟩
  · cases h
theorem chk_vals (r : Rp) : chk r = 0 ∨ chk r = 2 ∨ chk r = 16 := by
  unfold chk
  split
  · split
    · exact Or.inr (Or.inr rfl)
    · exact Or.inl rfl
  · exact Or.inr (Or.inl rfl)
theorem chk_few {r : Rp} (h1 : r.ids.length ≤ 65536) (h2 : r.nums.length ≤ 65536) : chk r = if fits r then 0 else 2 := by
  unfold chk
  split
  · rw [if_neg (by omega)]
  · rfl
theorem op_er {r : Rp} (h : fits r) : 0 ≤ r.op ∧ r.op < 16 ∧ 0 ≤ r.er ∧ r.er ≤ 18 := by
  obtain ⟨h1, h2, h3⟩ := h
  refine ⟨by omega, by omega, ?_⟩
  by_cases he : r.er ≠ 0
  · rw [if_pos he] at h3; obtain ⟨⟨a, b⟩, _⟩ := h3; omega
  · simp at he; omega
/-- The bytes of a reply. -/
def putR (r : Rp) : List Nat := r.op.toNat :: r.er.toNat :: (if r.yes = true then 1 else 0) :: (putL r.ids ++ putL (r.nums.map fold))
def getR : List Nat → Option (Rp × Nat)
  | o :: e :: y :: rest => if 1 < y then none else (lst rest).bind fun p => (lst (rest.drop p.2)).bind fun q =>
      if chk ⟨o, e, y == 1, p.1, q.1.map unf⟩ = 0 then some (⟨o, e, y == 1, p.1, q.1.map unf⟩, 3 + p.2 + q.2) else none
  | _ => none
theorem map_unf (l : List Int) : (l.map fold).map unf = l := by
  rw [List.map_map]
  conv => rhs; rw [← List.map_id l]
  exact List.map_congr_left (fun x _ => unf_fold x)
theorem map_fold (l : List Nat) : (l.map unf).map fold = l := by
  rw [List.map_map]
  conv => rhs; rw [← List.map_id l]
  exact List.map_congr_left (fun x _ => fold_unf x)
theorem get_put {r : Rp} (h : chk r = 0) (hI : RpIn r) (more : List Nat) : getR (putR r ++ more) = some (r, (putR r).length) := by
  obtain ⟨hf, h1, h2⟩ := chk_fits h
  obtain ⟨o0, o1, e0, e1⟩ := op_er hf
  obtain ⟨op, er, yes, ids, nums⟩ := r
  have hi := hI.ids
  have hn := hI.nums
  simp only at o0 o1 e0 e1 h1 h2 hi hn
  obtain ⟨o, rfl⟩ := Int.eq_ofNat_of_zero_le o0
  obtain ⟨e, rfl⟩ := Int.eq_ofNat_of_zero_le e0
  have hy : ((if yes = true then 1 else 0 : Nat) == 1) = yes := by cases yes <;> rfl
  have hy1 : ¬ 1 < (if yes = true then 1 else 0 : Nat) := by cases yes <;> decide
  have ee : putR ⟨o, e, yes, ids, nums⟩ ++ more = o :: e :: (if yes = true then 1 else 0) :: (putL ids ++ (putL (nums.map fold) ++ more)) := by simp [putR]
  rw [ee]
  show (if 1 < (if yes = true then 1 else 0 : Nat) then none else (lst (putL ids ++ (putL (nums.map fold) ++ more))).bind fun p => (lst ((putL ids ++ (putL (nums.map fold) ++ more)).drop p.2)).bind fun q =>
      if chk ⟨o, e, (if yes = true then 1 else 0 : Nat) == 1, p.1, q.1.map unf⟩ = 0 then some ((⟨o, e, (if yes = true then 1 else 0 : Nat) == 1, p.1, q.1.map unf⟩ : Rp), 3 + p.2 + q.2) else none) = _
  rw [if_neg hy1, hy, lst_put h1 (fun x hx => by have := hi x hx; omega)]
  show ((lst ((putL ids ++ (putL (nums.map fold) ++ more)).drop (putL ids).length)).bind fun q => if chk ⟨o, e, yes, ids, q.1.map unf⟩ = 0 then some ((⟨o, e, yes, ids, q.1.map unf⟩ : Rp), 3 + (putL ids).length + q.2) else none) = _
  rw [List.drop_left, lst_put (by simpa using h2) (fun x hx => by
    obtain ⟨y, hy, rfl⟩ := List.mem_map.1 hx
    exact fold_lt (hn y hy))]
  show (if chk ⟨o, e, yes, ids, (nums.map fold).map unf⟩ = 0 then some ((⟨o, e, yes, ids, (nums.map fold).map unf⟩ : Rp), 3 + (putL ids).length + (putL (nums.map fold)).length) else none) = _
  rw [map_unf, if_pos h]
  simp only [putR, List.length_cons, List.length_append]
  congr 2
  omega
theorem putL_byte (l : List Nat) : ∀ c ∈ putL l, c < 256 := fun c hc => by
  unfold putL at hc
  rcases List.mem_append.1 hc with hc | hc
  · exact vi_byte _ c hc
  · obtain ⟨x, _, hx⟩ := List.mem_flatMap.1 hc
    exact vi_byte _ c hx
theorem put_byte {r : Rp} (h : chk r = 0) : ∀ c ∈ putR r, c < 256 := fun c hc => by
  obtain ⟨hf, h1, h2⟩ := chk_fits h
  obtain ⟨o0, o1, e0, e1⟩ := op_er hf
  unfold putR at hc
  rcases List.mem_cons.1 hc with rfl | hc
  · omega
  · rcases List.mem_cons.1 hc with rfl | hc
    · omega
    · rcases List.mem_cons.1 hc with rfl | hc
      · split <;> omega
      · rcases List.mem_append.1 hc with hc | hc
        · exact putL_byte _ c hc
        · exact putL_byte _ c hc
theorem put_len (r : Rp) : 5 ≤ (putR r).length := by
  unfold putR putL
  have := vi_pos r.ids.length
  have := vi_pos (r.nums.map fold).length
  simp only [List.length_cons, List.length_append]
  omega
theorem get_inv {b : List Nat} {r : Rp} {n : Nat} (hb : ∀ c ∈ b, c < 256) (h : getR b = some (r, n)) : chk r = 0 ∧ RpIn r ∧ n = (putR r).length ∧ b = putR r ++ b.drop n ∧ 5 ≤ n ∧ n ≤ b.length := by
  have key : chk r = 0 ∧ RpIn r ∧ n = (putR r).length ∧ b = putR r ++ b.drop n := by
    match b, hb, h with
    | o :: e :: y :: rest, hb, h =>
      change (if 1 < y then none else (lst rest).bind fun p => (lst (rest.drop p.2)).bind fun q =>
        if chk ⟨o, e, y == 1, p.1, q.1.map unf⟩ = 0 then some ((⟨o, e, y == 1, p.1, q.1.map unf⟩ : Rp), 3 + p.2 + q.2) else none) = some (r, n) at h
      have hbr : ∀ c ∈ rest, c < 256 := fun c hc => hb c (by simp [hc])
      split at h
      · cases h
      · rename_i hy
        cases hp : lst rest with
        | none => rw [hp] at h; cases h
        | some p =>
          obtain ⟨ids, k⟩ := p
          rw [hp] at h
          change ((lst (rest.drop k)).bind fun q => if chk ⟨o, e, y == 1, ids, q.1.map unf⟩ = 0 then some ((⟨o, e, y == 1, ids, q.1.map unf⟩ : Rp), 3 + k + q.2) else none) = some (r, n) at h
          obtain ⟨i1, i2, i3, i4⟩ := lst_inv hbr hp
          cases hq : lst (rest.drop k) with
          | none => rw [hq] at h; cases h
          | some q =>
            obtain ⟨us, m⟩ := q
            rw [hq] at h
            change (if chk ⟨o, e, y == 1, ids, us.map unf⟩ = 0 then some ((⟨o, e, y == 1, ids, us.map unf⟩ : Rp), 3 + k + m) else none) = some (r, n) at h
            obtain ⟨j1, j2, j3, j4⟩ := lst_inv (fun c hc => hbr c (List.mem_of_mem_drop hc)) hq
            split at h
            · rename_i hc
              cases h
              refine ⟨hc, ⟨fun x hx => ?_, fun x hx => ?_⟩, ?_, ?_⟩
              · have := i2 x hx; omega
              · obtain ⟨u, hu, rfl⟩ := List.mem_map.1 hx
                exact unf_lt (j2 u hu)
              · simp only [putR, map_fold, List.length_cons, List.length_append]
                omega
              · simp only [putR, map_fold, Int.toNat_natCast]
                have hyy : (if (y == 1) = true then 1 else 0) = y := by
                  have : y = 0 ∨ y = 1 := by omega
                  rcases this with rfl | rfl <;> rfl
                rw [hyy]
                have hd : (o :: e :: y :: rest).drop (3 + k + m) = (rest.drop k).drop m := by
                  rw [show 3 + k + m = (k + m) + 3 by omega, List.drop_drop]; rfl
                rw [hd]
                simp only [List.cons_append, List.append_assoc]
                rw [← j4, ← i4]
            · cases h
  obtain ⟨h1, h2, h3, h4⟩ := key
  refine ⟨h1, h2, h3, h4, by rw [h3]; exact put_len r, ?_⟩
  have := congrArg List.length h4
  rw [List.length_append, ← h3] at this
  omega
/-- No proper beginning of a reply's bytes is a reply. -/
theorem get_part {r : Rp} (h : chk r = 0) (hI : RpIn r) {n : Nat} (hn : n < (putR r).length) : getR ((putR r).take n) = none := by
  cases hg : getR ((putR r).take n) with
  | none => rfl
  | some q =>
    obtain ⟨r1, m⟩ := q
    exfalso
    obtain ⟨h1, h2, h3, h4, h5, h6⟩ := get_inv (fun c hc => put_byte h c (List.mem_of_mem_take hc)) hg
    have e1 : putR r = putR r1 ++ (((putR r).take n).drop m ++ (putR r).drop n) := by
      rw [← List.append_assoc, ← h4, List.take_append_drop]
    have e2 := get_put h1 h2 (((putR r).take n).drop m ++ (putR r).drop n)
    rw [← e1] at e2
    have e3 := get_put h hI []
    rw [List.append_nil] at e3
    rw [e3] at e2
    cases e2
    rw [List.length_take] at h6
    omega
/-- All replies of some bytes. -/
def allF : Nat → List Nat → List Rp → Option (List Rp)
  | 0, b, acc => if b = [] then some acc else none
  | f + 1, b, acc => if b = [] then some acc else (getR b).bind fun p => allF f (b.drop p.2) (acc ++ [p.1])
def getAllR (b : List Nat) : Option (List Rp) := allF b.length b []
theorem allF_nil (f : Nat) (acc : List Rp) : allF f [] acc = some acc := by cases f <;> rfl
theorem allF_none {f : Nat} {b : List Nat} {acc : List Rp} (hne : b ≠ []) (h : getR b = none) : allF f b acc = none := by
  cases f with
  | zero => unfold allF; rw [if_neg hne]
  | succ f => unfold allF; rw [if_neg hne, h]; rfl
theorem allF_some {f : Nat} {b : List Nat} {acc : List Rp} {r : Rp} {n : Nat} (hne : b ≠ []) (h : getR b = some (r, n)) : allF (f + 1) b acc = allF f (b.drop n) (acc ++ [r]) := by
  rw [allF, if_neg hne, h]; rfl
theorem allF_put : ∀ (rs : List Rp) (f : Nat) (acc : List Rp) (more : List Nat), (∀ r ∈ rs, chk r = 0 ∧ RpIn r) → (rs.flatMap putR ++ more).length ≤ f →
    ∃ f', more.length ≤ f' ∧ allF f (rs.flatMap putR ++ more) acc = allF f' more (acc ++ rs)
  | [], f, acc, more, _, h => ⟨f, h, by simp⟩
  | r :: rs, f, acc, more, hr, h => by
    obtain ⟨h1, h2⟩ := hr r (by simp)
    have e : (r :: rs).flatMap putR ++ more = putR r ++ (rs.flatMap putR ++ more) := by simp
    rw [e] at h ⊢
    have hl := put_len r
    rw [List.length_append] at h
    cases f with
    | zero => omega
    | succ f =>
      have hne : putR r ++ (rs.flatMap putR ++ more) ≠ [] := by
        intro h0; have := congrArg List.length h0; rw [List.length_append, List.length_nil] at this; omega
      rw [allF_some hne (get_put h1 h2 _), List.drop_left]
      obtain ⟨f', h3, h4⟩ := allF_put rs f (acc ++ [r]) more (fun x hx => hr x (List.mem_cons_of_mem _ hx)) (by omega)
      exact ⟨f', h3, by rw [h4]; simp⟩
theorem all_put {rs : List Rp} (h : ∀ r ∈ rs, chk r = 0 ∧ RpIn r) : getAllR (rs.flatMap putR) = some rs := by
  obtain ⟨f', _, h2⟩ := allF_put rs (rs.flatMap putR).length [] [] h (by simp)
  unfold getAllR
  rw [List.append_nil] at h2
  rw [h2, allF_nil, List.nil_append]
/-- Without the last byte they are refused. -/
theorem all_short {rs : List Rp} (h : ∀ r ∈ rs, chk r = 0 ∧ RpIn r) (hne : rs ≠ []) : getAllR ((rs.flatMap putR).take ((rs.flatMap putR).length - 1)) = none := by
  have e := List.dropLast_concat_getLast hne
  obtain ⟨h1, h2⟩ := h _ (List.getLast_mem hne)
  generalize rs.getLast hne = r at *
  have hd : ∀ x ∈ rs.dropLast, chk x = 0 ∧ RpIn x := fun x hx => h x ((List.dropLast_sublist _).subset hx)
  generalize rs.dropLast = ds at *
  subst e
  have hl := put_len r
  have ef : (ds ++ [r]).flatMap putR = ds.flatMap putR ++ putR r := by simp
  rw [ef]
  have et : (ds.flatMap putR ++ putR r).take ((ds.flatMap putR ++ putR r).length - 1) = ds.flatMap putR ++ (putR r).take ((putR r).length - 1) := by
    rw [List.length_append, show (ds.flatMap putR).length + (putR r).length - 1 = (ds.flatMap putR).length + ((putR r).length - 1) by omega, List.take_length_add_append]
  rw [et]
  unfold getAllR
  obtain ⟨f', _, h4⟩ := allF_put ds (ds.flatMap putR ++ (putR r).take ((putR r).length - 1)).length [] ((putR r).take ((putR r).length - 1)) hd (Nat.le_refl _)
  rw [h4]
  refine allF_none ?_ (get_part h1 h2 (by omega))
  intro h0
  have := congrArg List.length h0
  rw [List.length_take, List.length_nil] at this
  omega
/-- The reply of a line. -/
def parseR (s : Str) : Option Rp := (readWords (sp s)).bind fun r => if chk r = 0 then some r else none
def docParse (s : Str) : Option Rp := (looseWords (sp s)).bind fun r => if chk r = 0 ∧ lineS r = s then some r else none
theorem parseR_iff {s : Str} {r : Rp} : parseR s = some r ↔ readWords (sp s) = some r ∧ chk r = 0 := by
  unfold parseR
  cases readWords (sp s) with
  | none => simp
  | some q =>
    show (if chk q = 0 then some q else none) = some r ↔ _
    constructor
    · intro h
      split at h
      · cases h; exact ⟨rfl, by assumption⟩
      · cases h
    · rintro ⟨h1, h2⟩
      cases h1
      rw [if_pos h2]
theorem docParse_iff {s : Str} {r : Rp} : docParse s = some r ↔ looseWords (sp s) = some r ∧ chk r = 0 ∧ lineS r = s := by
  unfold docParse
  cases looseWords (sp s) with
  | none => simp
  | some q =>
    show (if chk q = 0 ∧ lineS q = s then some q else none) = some r ↔ _
    constructor
    · intro h
      split at h
      · rename_i hh
        cases h; exact ⟨rfl, hh.1, hh.2⟩
      · cases h
    · rintro ⟨h1, h2, h3⟩
      cases h1
      rw [if_pos ⟨h2, h3⟩]
theorem parse_doc (s : Str) : parseR s = docParse s := by
  have key : ∀ r, parseR s = some r ↔ docParse s = some r := fun r => by
    rw [parseR_iff, docParse_iff]
    constructor
    · rintro ⟨h1, h2⟩
      obtain ⟨g1, g2, g3⟩ := (parse_same s r).1 ⟨h1, (chk_fits h2).1⟩
      exact ⟨g1, h2, g3⟩
    · rintro ⟨h1, h2, h3⟩
      exact ⟨((parse_same s r).2 ⟨h1, (chk_fits h2).1, h3⟩).1, h2⟩
  cases hp : parseR s with
  | some r => exact ((key r).1 hp).symm
  | none =>
    cases hd : docParse s with
    | none => rfl
    | some r => rw [(key r).2 hd] at hp; cases hp
theorem parseR_in {s : Str} {r : Rp} (h : parseR s = some r) : RpIn r := by
  rw [parse_doc, docParse_iff] at h
  exact loose_in h.1
theorem parseR_line {r : Rp} (h : chk r = 0) (hI : RpIn r) : parseR (lineS r) = some r := parseR_iff.2 ⟨parse_line (chk_fits h).1 hI, h⟩
theorem lineS_parse {s : Str} {r : Rp} (h : parseR s = some r) : lineS r = s := by
  rw [parse_doc, docParse_iff] at h
  exact h.2.2
end Go.Proofs.YtlmdkcpiimpniaaDoor

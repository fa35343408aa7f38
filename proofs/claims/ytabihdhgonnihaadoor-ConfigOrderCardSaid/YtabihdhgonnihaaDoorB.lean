/- Plain: parts of a text; settings; what a text reads as. -/
import Derived.Test.YtabihdhgonnihaaDoorA
namespace Go.Proofs.YtabihdhgonnihaaDoor
open Go
set_option linter.unusedVariables false
set_option linter.unusedSimpArgs false

/-- Cut at the first c. -/
def cutc (c : UInt8) : Str → Str × Str × Bool
  | [] => ([], [], false)
  | b :: l => if b = c then ([], l, true) else (b :: (cutc c l).1, (cutc c l).2.1, (cutc c l).2.2)
theorem index_one (c : UInt8) : ∀ s : Str, Lib.index s [c] = if (cutc c s).2.2 then ((cutc c s).1.length : Int) else -1
  | [] => rfl
  | b :: l => by
    have ih := index_one c l
    unfold Lib.index cutc
    by_cases h : b = c
    · subst h
      rw [if_pos (by simp), if_pos rfl]; rfl
    · have h2 : ([c] : Str).isPrefixOf (b :: l) = false := by simp [List.isPrefixOf]; exact fun e => h e.symm
      rw [if_neg (by rw [h2]; decide), if_neg h, ih]
      dsimp only
      cases hc : (cutc c l).2.2
      · simp
      · rw [if_pos rfl, if_pos rfl]
        have h3 : (((cutc c l).1.length : Int) == -1) = false := by simp
        rw [h3]
        simp
theorem cutc_miss (c : UInt8) : ∀ s : Str, (cutc c s).2.2 = false → cutc c s = (s, [], false)
  | [], _ => rfl
  | b :: l, h => by
    unfold cutc at h ⊢
    split at h
    · cases h
    · rename_i hb
      rw [if_neg hb, cutc_miss c l h]
theorem cutc_hit (c : UInt8) : ∀ s : Str, (cutc c s).2.2 = true → s = (cutc c s).1 ++ c :: (cutc c s).2.1
  | [], h => by cases h
  | b :: l, h => by
    unfold cutc at h ⊢
    split at h
    · rename_i hb; subst hb; rw [if_pos rfl]; rfl
    · rename_i hb
      rw [if_neg hb]
      have := cutc_hit c l h
      show b :: l = (b :: (cutc c l).1) ++ c :: (cutc c l).2.1
      rw [List.cons_append, ← this]
theorem cutc_free (c : UInt8) : ∀ s : Str, c ∉ (cutc c s).1
  | [] => by simp [cutc]
  | b :: l => by
    unfold cutc
    split
    · simp
    · rename_i hb
      show c ∉ b :: (cutc c l).1
      rw [List.mem_cons]; rintro (h | h)
      · exact hb h.symm
      · exact cutc_free c l h
theorem cut_one (c : UInt8) (s : Str) : Lib.cut s [c] = cutc c s := by
  unfold Lib.cut
  rw [index_one]
  cases h : (cutc c s).2.2
  · rw [if_neg (by simp)]; exact (cutc_miss c s h).symm
  · have e := cutc_hit c s h
    have h2 : (cutc c s).2.2 = true := h
    rw [if_pos rfl, if_pos (by omega), Int.toNat_natCast]
    generalize cutc c s = q at *
    obtain ⟨a, r, m⟩ := q
    simp only at e h2
    subst e h2
    simp
theorem cutc_app {c : UInt8} : ∀ {a : Str} (r : Str), c ∉ a → cutc c (a ++ c :: r) = (a, r, true)
  | [], r, _ => by simp [cutc]
  | b :: a, r, h => by
    rw [List.cons_append]
    unfold cutc
    rw [if_neg (fun e => h (by rw [e]; simp)), cutc_app r (fun e => h (List.mem_cons_of_mem _ e))]
theorem cutc_no {c : UInt8} : ∀ {a : Str}, c ∉ a → cutc c a = (a, [], false)
  | [], _ => rfl
  | b :: a, h => by
    unfold cutc
    rw [if_neg (fun e => h (by rw [e]; simp)), cutc_no (fun e => h (List.mem_cons_of_mem _ e))]
/-- The parts between spaces. -/
def sp : Str → List Str
  | [] => [[]]
  | b :: l => if b = 32 then [] :: sp l else (b :: (sp l).headD []) :: (sp l).tail
theorem sp_ne : ∀ s : Str, sp s ≠ []
  | [] => by simp [sp]
  | b :: l => by unfold sp; split <;> simp
theorem sp_cut (s : Str) : sp s = (cutc 32 s).1 :: (if (cutc 32 s).2.2 then sp (cutc 32 s).2.1 else []) := by
  induction s with
  | nil => rfl
  | cons b l ih =>
    have e : sp (b :: l) = if b = 32 then [] :: sp l else (b :: (sp l).headD []) :: (sp l).tail := rfl
    have e2 : cutc 32 (b :: l) = if b = 32 then ([], l, true) else (b :: (cutc 32 l).1, (cutc 32 l).2.1, (cutc 32 l).2.2) := rfl
    rw [e, e2]
    by_cases h : b = 32
    · rw [if_pos h, if_pos h]; rfl
    · rw [if_neg h, if_neg h, ih]; rfl
theorem sp_snoc : ∀ (s : Str) (b : UInt8), sp (s ++ [b]) = if b = 32 then sp s ++ [[]] else (sp s).dropLast ++ [(sp s).getLastD [] ++ [b]]
  | [], b => by
    show sp [b] = _
    unfold sp
    by_cases h : b = 32
    · rw [if_pos h, if_pos h]; rfl
    · rw [if_neg h, if_neg h]; rfl
  | x :: s, b => by
    have ih := sp_snoc s b
    rw [List.cons_append]
    unfold sp
    rw [ih]
    have hne := sp_ne s
    by_cases hx : x = 32
    · rw [if_pos hx, if_pos hx]
      by_cases h : b = 32
      · rw [if_pos h, if_pos h]; rfl
      · rw [if_neg h, if_neg h]
        cases hs : sp s with
        | nil => exact absurd hs hne
        | cons a r => simp [List.dropLast, List.getLastD]
    · rw [if_neg hx, if_neg hx]
      by_cases h : b = 32
      · rw [if_pos h, if_pos h]
        cases hs : sp s with
        | nil => exact absurd hs hne
        | cons a r => simp
      · rw [if_neg h, if_neg h]
        cases hs : sp s with
        | nil => exact absurd hs hne
        | cons a r =>
          cases r with
          | nil => simp
          | cons a2 r2 => simp [List.dropLast, List.getLastD]
def parts (s : Str) : List Str := if s = [] then [] else sp s
/-- The fields' names, and their valid numbers. -/
def nm : Nat → Str
  | 0 => [119, 105, 110, 100, 111, 119]
  | 1 => [101, 100, 103, 101, 115]
  | 2 => [118, 101, 114, 116, 115]
  | _ => [100, 114, 97, 119, 115]
def lo : Nat → Int
  | 0 => 1
  | 1 => 1
  | 2 => 2
  | _ => 0
def hi : Nat → Int
  | 0 => 9223372036854775807
  | 1 => 16384
  | 2 => 4096
  | _ => 16384
structure Cf where
  a : Int
  b : Int
  c : Int
  d : Int
  deriving DecidableEq
def Cf.at (f : Cf) : Nat → Int
  | 0 => f.a
  | 1 => f.b
  | 2 => f.c
  | _ => f.d
def Cf.put (f : Cf) (i : Nat) (x : Int) : Cf := match i with
  | 0 => { f with a := x }
  | 1 => { f with b := x }
  | 2 => { f with c := x }
  | _ => { f with d := x }
structure Cf.ok (f : Cf) : Prop where
  a0 : -9223372036854775808 ≤ f.a
  a1 : f.a ≤ 9223372036854775807
  b0 : -9223372036854775808 ≤ f.b
  b1 : f.b ≤ 9223372036854775807
  c0 : -9223372036854775808 ≤ f.c
  c1 : f.c ≤ 9223372036854775807
  d0 : -9223372036854775808 ≤ f.d
  d1 : f.d ≤ 9223372036854775807
def dflt : Cf := ⟨60, 1024, 1024, 1024⟩
def zero : Cf := ⟨0, 0, 0, 0⟩
def okf (f : Cf) (i : Nat) : Bool := decide (lo i ≤ f.at i) && decide (f.at i ≤ hi i)
/-- The first field that is not valid. -/
def wrong (f : Cf) : Int := if okf f 0 = false then 0 else if okf f 1 = false then 1 else if okf f 2 = false then 2 else if okf f 3 = false then 3 else -1
def chk (f : Cf) : Int := if wrong f < 0 then 0 else 2
def field (f : Cf) : Str := if wrong f < 0 then [] else nm (wrong f).toNat
def clampf (f : Cf) (i : Nat) : Int := min (max (f.at i) (lo i)) (hi i)
def clamp (f : Cf) : Cf := ⟨clampf f 0, clampf f 1, clampf f 2, clampf f 3⟩
/-- The first k settings of a text. -/
def txt (f : Cf) : Nat → Str
  | 0 => []
  | k + 1 => txt f k ++ (if 0 < k then [32] else []) ++ nm k ++ [61] ++ Lib.itoa (f.at k)
def text (f : Cf) : Str := if wrong f < 0 then txt f 4 else []
def find (n : Str) : Option Nat := if nm 0 = n then some 0 else if nm 1 = n then some 1 else if nm 2 = n then some 2 else if nm 3 = n then some 3 else none
theorem find_some {n : Str} {i : Nat} (h : find n = some i) : i < 4 ∧ n = nm i := by
  unfold find at h
  split at h
  · rename_i e; cases h; exact ⟨by decide, e.symm⟩
  split at h
  · rename_i e; cases h; exact ⟨by decide, e.symm⟩
  split at h
  · rename_i e; cases h; exact ⟨by decide, e.symm⟩
  split at h
  · rename_i e; cases h; exact ⟨by decide, e.symm⟩
  · cases h
theorem find_nm {i : Nat} (h : i < 4) : find (nm i) = some i := by
  have : i = 0 ∨ i = 1 ∨ i = 2 ∨ i = 3 := by omega
  rcases this with rfl | rfl | rfl | rfl <;> decide
/-- A setting: which field, and its number. -/
def setting (p : Str) : Option (Nat × Nat) := (find (cutc 61 p).1).bind fun i => (num (cutc 61 p).2.1).map fun u => (i, u)
structure Hv where
  a : Bool
  b : Bool
  c : Bool
  d : Bool
  deriving DecidableEq
def Hv.at (f : Hv) : Nat → Bool
  | 0 => f.a
  | 1 => f.b
  | 2 => f.c
  | _ => f.d
def Hv.put (f : Hv) (i : Nat) : Hv := match i with
  | 0 => { f with a := true }
  | 1 => { f with b := true }
  | 2 => { f with c := true }
  | _ => { f with d := true }
def hv0 : Hv := ⟨false, false, false, false⟩
def step (st : Cf × Hv) (p : Str) : Option (Cf × Hv) := (setting p).bind fun q => if st.2.at q.1 = true then none else some (st.1.put q.1 q.2, st.2.put q.1)
def rd : List Str → Cf × Hv → Option (Cf × Hv)
  | [], st => some st
  | p :: l, st => (step st p).bind (rd l)
def read (s : Str) : Option Cf := (rd (parts s) (dflt, hv0)).map (·.1)
def parseR : Option Cf → Cf × Int
  | none => (zero, 15)
  | some f => if wrong f < 0 then (f, 0) else (zero, 2)
def parse (s : Str) : Cf × Int := parseR (read s)
theorem step_bad {st : Cf × Hv} {p : Str} (h : setting p = none) : step st p = none := by unfold step; rw [h]; rfl
theorem ok_put {f : Cf} (h : f.ok) (i : Nat) {u : Nat} (hu : u ≤ 9223372036854775807) : (f.put i u).ok := by
  obtain ⟨h1, h2, h3, h4, h5, h6, h7, h8⟩ := h
  unfold Cf.put
  split <;> constructor <;> simp only <;> omega
theorem setting_some {p : Str} {i u : Nat} (h : setting p = some (i, u)) : i < 4 ∧ u ≤ 9223372036854775807 ∧ p = nm i ++ 61 :: Lib.decDigits u := by
  unfold setting at h
  cases hf : find (cutc 61 p).1 with
  | none => rw [hf] at h; cases h
  | some j =>
    rw [hf] at h
    cases hn : num (cutc 61 p).2.1 with
    | none => rw [hn] at h; cases h
    | some x =>
      rw [hn] at h
      cases h
      obtain ⟨h1, h2⟩ := find_some hf
      obtain ⟨h3, h4⟩ := num_iff.1 hn
      refine ⟨h1, h4, ?_⟩
      have hm : (cutc 61 p).2.2 = true := by
        cases hc : (cutc 61 p).2.2 with
        | true => rfl
        | false =>
          rw [cutc_miss 61 p hc] at h3
          exact absurd h3.symm (dec_ne u)
      have := cutc_hit 61 p hm
      rw [h2, h3] at this
      exact this
theorem nm61 {i : Nat} : (61 : UInt8) ∉ nm i := by
  unfold nm; split <;> decide
theorem setting_of {i u : Nat} (hi : i < 4) (hu : u ≤ 9223372036854775807) : setting (nm i ++ 61 :: Lib.decDigits u) = some (i, u) := by
  unfold setting
  rw [cutc_app _ nm61]
  show (find (nm i)).bind _ = _
  rw [find_nm hi]
  show (num (Lib.decDigits u)).map _ = _
  rw [num_dec hu]; rfl
theorem rd_ok : ∀ (l : List Str) (st : Cf × Hv) {st' : Cf × Hv}, st.1.ok → rd l st = some st' → st'.1.ok
  | [], st, st', h, he => by cases he; exact h
  | p :: l, st, st', h, he => by
    unfold rd at he
    cases hs : step st p with
    | none => rw [hs] at he; cases he
    | some x =>
      rw [hs] at he
      refine rd_ok l x ?_ he
      unfold step at hs
      cases hq : setting p with
      | none => rw [hq] at hs; cases hs
      | some q =>
        rw [hq] at hs
        obtain ⟨i, u⟩ := q
        change (if st.2.at i = true then none else some (st.1.put i (u : Int), st.2.put i)) = some x at hs
        split at hs
        · cases hs
        · cases hs; exact ok_put h i (setting_some hq).2.1
theorem dflt_ok : dflt.ok := by constructor <;> decide
theorem zero_ok : zero.ok := by constructor <;> decide
theorem read_ok {s : Str} {f : Cf} (h : read s = some f) : f.ok := by
  unfold read at h
  cases hr : rd (parts s) (dflt, hv0) with
  | none => rw [hr] at h; cases h
  | some st => rw [hr] at h; cases h; exact rd_ok _ _ dflt_ok hr
theorem parseR_ok {s : Str} : (parse s).1.ok := by
  unfold parse parseR
  split
  · exact zero_ok
  · rename_i f hf
    split
    · exact read_ok hf
    · exact zero_ok
end Go.Proofs.YtabihdhgonnihaaDoor

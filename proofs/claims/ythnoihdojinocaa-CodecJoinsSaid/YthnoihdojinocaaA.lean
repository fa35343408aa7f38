/- Plain: numbers as bytes. -/
namespace Go.Proofs.Ythnoihdojinocaa
set_option linter.unusedVariables false
set_option linter.unusedSimpArgs false

/-- An unsigned number as bytes. -/
def vi (x : Nat) : List Nat := if x < 128 then [x] else (x % 128 + 128) :: vi (x / 128)
termination_by x
theorem vi_lt {x : Nat} (h : x < 128) : vi x = [x] := by rw [vi, if_pos h]
theorem vi_ge {x : Nat} (h : 128 ≤ x) : vi x = (x % 128 + 128) :: vi (x / 128) := by rw [vi, if_neg (by omega)]
theorem vi_pos (x : Nat) : 0 < (vi x).length := by rw [vi]; split <;> simp
theorem vi_byte : ∀ (x : Nat), ∀ c ∈ vi x, c < 256
  | x => by
    intro c hc
    rcases Nat.lt_or_ge x 128 with h | h
    · rw [vi_lt h] at hc; simp at hc; omega
    · rw [vi_ge h] at hc
      rcases List.mem_cons.1 hc with rfl | hc
      · omega
      · exact vi_byte (x / 128) c hc
termination_by x => x
/-- Reading one; from index i on, with what has been read. -/
def guF : Nat → Nat → List Nat → Option (Nat × Nat)
  | _, _, [] => none
  | i, x, c :: r => if 10 ≤ i ∨ (i = 9 ∧ 1 < c) then none else if 128 ≤ c then guF (i + 1) (x + c % 128 * 128 ^ i) r else if c = 0 ∧ 0 < i then none else some (x + c % 128 * 128 ^ i, i + 1)
def gu (b : List Nat) : Option (Nat × Nat) := guF 0 0 b
theorem p128 {i : Nat} (h : 10 ≤ i) : 1180591620717411303424 ≤ 128 ^ i := by
  have h1 : 128 ^ 10 ≤ 128 ^ i := Nat.pow_le_pow_right (by decide) h
  have h2 : (128 : Nat) ^ 10 = 1180591620717411303424 := by decide
  omega
theorem p128_9 {i : Nat} (h : i ≤ 8) : 128 ^ i ≤ 72057594037927936 := by
  have h1 : 128 ^ i ≤ 128 ^ 8 := Nat.pow_le_pow_right (by decide) h
  have h2 : (128 : Nat) ^ 8 = 72057594037927936 := by decide
  omega
theorem q128 : (128 : Nat) ^ 9 = 9223372036854775808 := by decide
theorem guF_vi : ∀ (x i y : Nat) (more : List Nat), x * 128 ^ i < 18446744073709551616 → (i = 0 ∨ 0 < x) → guF i y (vi x ++ more) = some (y + x * 128 ^ i, i + (vi x).length)
  | x, i, y, more => by
    intro hx hi
    have hi9 : i ≤ 9 := by
      rcases Nat.lt_or_ge 9 i with h | h
      · have h1 := p128 (i := i) (by omega)
        have h2 : 1 * 128 ^ i ≤ x * 128 ^ i := Nat.mul_le_mul_right _ (by omega)
        omega
      · exact h
    have h9 : i = 9 → x ≤ 1 := fun e => by subst e; rw [q128] at hx; omega
    rcases Nat.lt_or_ge x 128 with h | h
    · rw [vi_lt h]
      show guF i y (x :: more) = _
      rw [guF, if_neg (by omega), if_neg (by omega), if_neg (by omega), Nat.mod_eq_of_lt h]; rfl
    · rw [vi_ge h]
      show guF i y ((x % 128 + 128) :: (vi (x / 128) ++ more)) = _
      have e1 : (x % 128 + 128) % 128 = x % 128 := by omega
      have e2 : x / 128 * 128 ^ (i + 1) + x % 128 * 128 ^ i = x * 128 ^ i := by
        rw [Nat.pow_succ, Nat.mul_comm (128 ^ i) 128, ← Nat.mul_assoc, ← Nat.add_mul]
        congr 1; omega
      rw [guF, if_neg (by omega), if_pos (by omega), e1, guF_vi (x / 128) (i + 1) _ more (by omega) (by omega)]
      rw [Nat.add_assoc, Nat.add_comm (x % 128 * 128 ^ i), e2, List.length_cons]
      congr 2; omega
termination_by x => x
theorem gu_vi {x : Nat} (hx : x < 18446744073709551616) (more : List Nat) : gu (vi x ++ more) = some (x, (vi x).length) := by
  have := guF_vi x 0 0 more (by simpa using hx) (Or.inl rfl)
  simpa [gu] using this
theorem guF_some : ∀ (b : List Nat) (i y x n : Nat), (∀ c ∈ b, c < 256) → guF i y b = some (x, n) →
    ∃ z, x = y + z * 128 ^ i ∧ n = i + (vi z).length ∧ b = vi z ++ b.drop (vi z).length ∧ (0 < i → 0 < z) ∧ (y < 128 ^ i → x < 18446744073709551616)
  | [], _, _, _, _ => by intro _ h; simp [guF] at h
  | c :: r, i, y, x, n => by
    intro hb h
    rw [guF] at h
    split at h
    · cases h
    · rename_i h1
      split at h
      · rename_i h2
        obtain ⟨z, e1, e2, e3, e4, e5⟩ := guF_some r (i + 1) _ x n (fun d hd => hb d (List.mem_cons_of_mem _ hd)) h
        have hz := e4 (by omega)
        have hc := hb c (by simp)
        have e6 : c % 128 + 128 * z < 128 → False := fun h => by omega
        have e7 : vi (c % 128 + 128 * z) = c :: vi z := by
          rw [vi_ge (by omega)]
          congr 1
          · omega
          · congr 1; omega
        refine ⟨c % 128 + 128 * z, ?_, ?_, ?_, fun _ => by omega, fun hy => e5 ?_⟩
        · rw [e1, Nat.pow_succ, Nat.mul_comm (128 ^ i) 128, ← Nat.mul_assoc, Nat.add_assoc, ← Nat.add_mul, Nat.mul_comm z 128]
        · rw [e2, e7, List.length_cons]; omega
        · rw [e7, List.length_cons, List.drop_succ_cons, List.cons_append, ← e3]
        · have h3 : c % 128 * 128 ^ i ≤ 127 * 128 ^ i := Nat.mul_le_mul_right _ (by omega)
          rw [Nat.pow_succ]; omega
      · rename_i h2
        split at h
        · cases h
        · rename_i h3
          cases h
          have hc : c < 128 := by omega
          rw [Nat.mod_eq_of_lt hc]
          refine ⟨c, rfl, by rw [vi_lt hc]; rfl, by rw [vi_lt hc]; rfl, fun h => by omega, fun hy => ?_⟩
          rcases Nat.lt_or_ge i 9 with h9 | h9
          · have h4 : c * 128 ^ i ≤ 127 * 128 ^ i := Nat.mul_le_mul_right _ (by omega)
            have h5 := p128_9 (i := i) (by omega)
            omega
          · obtain rfl : i = 9 := by omega
            rw [q128] at hy ⊢
            have : c ≤ 1 := by omega
            omega
theorem gu_some {b : List Nat} {x n : Nat} (hb : ∀ c ∈ b, c < 256) (h : gu b = some (x, n)) : x < 18446744073709551616 ∧ n = (vi x).length ∧ b = vi x ++ b.drop n := by
  obtain ⟨z, e1, e2, e3, _, e5⟩ := guF_some b 0 0 x n hb h
  simp only [Nat.pow_zero, Nat.mul_one, Nat.zero_add] at e1 e2
  subst e1 e2
  exact ⟨e5 (by simp), rfl, e3⟩
theorem gu_more {l more : List Nat} {x n : Nat} (hb : ∀ c ∈ l, c < 256) (h : gu l = some (x, n)) : gu (l ++ more) = some (x, n) := by
  obtain ⟨h1, h2, h3⟩ := gu_some hb h
  have e : l ++ more = vi x ++ (l.drop n ++ more) := by rw [← List.append_assoc, ← h3]
  rw [e, gu_vi h1, h2]
theorem gu_le {b : List Nat} {x n : Nat} (hb : ∀ c ∈ b, c < 256) (h : gu b = some (x, n)) : 0 < n ∧ n ≤ b.length ∧ n ≤ 10 := by
  obtain ⟨h1, h2, h3⟩ := gu_some hb h
  have h4 := vi_pos x
  refine ⟨by omega, ?_, ?_⟩
  · have := congrArg List.length h3
    rw [List.length_append] at this; omega
  · have key : ∀ (b : List Nat) (i y x n : Nat), i ≤ 10 → guF i y b = some (x, n) → n ≤ 10 := by
      intro b
      induction b with
      | nil => intro i y x n _ h; simp [guF] at h
      | cons c r ih =>
        intro i y x n hi h
        rw [guF] at h
        split at h
        · cases h
        · split at h
          · exact ih _ _ _ _ (by omega) h
          · split at h
            · cases h
            · cases h; omega
    exact key b 0 0 x n (by omega) h
/-- A signed number as an unsigned one, and back. -/
def fold (x : Int) : Nat := if x < 0 then 2 * (-(x + 1)).toNat + 1 else 2 * x.toNat
def unf (y : Nat) : Int := if y % 2 = 1 then -((y / 2 : Nat) : Int) - 1 else ((y / 2 : Nat) : Int)
theorem unf_fold (x : Int) : unf (fold x) = x := by
  unfold unf fold
  split <;> split <;> omega
theorem fold_unf (y : Nat) : fold (unf y) = y := by
  unfold unf fold
  split <;> split <;> omega
theorem fold_lt {x : Int} (h : -9223372036854775808 ≤ x ∧ x ≤ 9223372036854775807) : fold x < 18446744073709551616 := by
  unfold fold; split <;> omega
theorem unf_lt {y : Nat} (h : y < 18446744073709551616) : -9223372036854775808 ≤ unf y ∧ unf y ≤ 9223372036854775807 := by
  unfold unf; split <;> omega
end Go.Proofs.Ythnoihdojinocaa

/- Plain laws on magnitudes of six limbs in base 2^32. They speak of no program. -/
import Derived.Lib.Hide
namespace Go.Proofs.Ytbmlkanonmooeaa

/-- The number of the first n limbs, the lowest one first; pw k = 2^(32 k). -/
def pw : Nat → Int
  | 0 => 1
  | n + 1 => pw n * 4294967296
def vl (A : Nat → Int) : Nat → Int
  | 0 => 0
  | n + 1 => vl A n + A n * pw n
theorem pw_pos (n : Nat) : 0 < pw n := by induction n with
  | zero => decide
  | succ n ih => unfold pw; omega
def Limbs (A : Nat → Int) : Prop := ∀ i, 0 ≤ A i ∧ A i < 4294967296
theorem vl_lt {A : Nat → Int} (h : Limbs A) (n : Nat) : 0 ≤ vl A n ∧ vl A n < pw n := by
  induction n with
  | zero => simp [vl, pw]
  | succ n ih =>
    have hA := h n
    have hp := pw_pos n
    have h1 : 0 ≤ A n * pw n := Int.mul_nonneg hA.1 (by omega)
    have h2 : A n * pw n ≤ 4294967295 * pw n := Int.mul_le_mul_of_nonneg_right (by omega) (by omega)
    simp only [vl, pw]
    omega
/-- Carries of a sum, and its digits. -/
def cy (A B : Nat → Int) : Nat → Int
  | 0 => 0
  | n + 1 => (A n + B n + cy A B n) / 4294967296
def dg (A B : Nat → Int) (n : Nat) : Int := (A n + B n + cy A B n) % 4294967296
theorem cy_01 {A B : Nat → Int} (hA : Limbs A) (hB : Limbs B) (n : Nat) : 0 ≤ cy A B n ∧ cy A B n ≤ 1 := by
  induction n with
  | zero => simp [cy]
  | succ n ih => have := hA n; have := hB n; simp only [cy]; omega
theorem dg_limbs (A B : Nat → Int) : Limbs (dg A B) := fun i => by unfold dg; omega
theorem sum_eq (A B : Nat → Int) (n : Nat) : vl (dg A B) n + cy A B n * pw n = vl A n + vl B n := by
  induction n with
  | zero => simp [vl, cy]
  | succ n ih =>
    have h : A n + B n + cy A B n = dg A B n + 4294967296 * cy A B (n + 1) := by unfold dg; simp only [cy]; omega
    simp only [vl, pw]
    grind
/-- Borrows of a difference, and its digits. -/
def bw (A B : Nat → Int) : Nat → Int
  | 0 => 0
  | n + 1 => 1 - (A n + 4294967296 - B n - bw A B n) / 4294967296
def df (A B : Nat → Int) (n : Nat) : Int := (A n + 4294967296 - B n - bw A B n) % 4294967296
theorem bw_01 {A B : Nat → Int} (hA : Limbs A) (hB : Limbs B) (n : Nat) : 0 ≤ bw A B n ∧ bw A B n ≤ 1 := by
  induction n with
  | zero => simp [bw]
  | succ n ih => have := hA n; have := hB n; simp only [bw]; omega
theorem df_limbs (A B : Nat → Int) : Limbs (df A B) := fun i => by unfold df; omega
theorem diff_eq (A B : Nat → Int) (n : Nat) : vl (df A B) n - bw A B n * pw n = vl A n - vl B n := by
  induction n with
  | zero => simp [vl, bw]
  | succ n ih =>
    have h : A n + 4294967296 - B n - bw A B n = df A B n + 4294967296 * (1 - bw A B (n + 1)) := by unfold df; simp only [bw]; omega
    simp only [vl, pw]
    grind
theorem diff_ge {A B : Nat → Int} (hA : Limbs A) (hB : Limbs B) (n : Nat) (h : vl B n ≤ vl A n) : vl (df A B) n = vl A n - vl B n := by
  have h1 := diff_eq A B n
  have h2 := bw_01 hA hB n
  have h3 := vl_lt (df_limbs A B) n
  rcases (show bw A B n = 0 ∨ bw A B n = 1 by omega) with e | e
  · rw [e] at h1; omega
  · rw [e] at h1; omega
/-- Where two magnitudes agree above n, the limb n decides. -/
theorem vl_split {A B : Nat → Int} (hA : Limbs A) (hB : Limbs B) (m n : Nat) (hn : n < m) (he : ∀ j, n < j → j < m → A j = B j) (h : A n < B n) : vl A m < vl B m := by
  induction m with
  | zero => omega
  | succ m ih =>
    simp only [vl]
    by_cases e : n = m
    · subst e
      have h1 := vl_lt hA n
      have h2 := vl_lt hB n
      have hp := pw_pos n
      have h3 : (A n + 1) * pw n ≤ B n * pw n := Int.mul_le_mul_of_nonneg_right (by omega) (by omega)
      grind
    · have h1 := ih (by omega) (fun j a b => he j a (by omega))
      have h2 := he m (by omega) (by omega)
      rw [h2]; omega
theorem vl_same {A B : Nat → Int} (m : Nat) (he : ∀ j, j < m → A j = B j) : vl A m = vl B m := by
  induction m with
  | zero => rfl
  | succ m ih => simp only [vl]; rw [ih (fun j h => he j (by omega)), he m (by omega)]
theorem vl_zero {A : Nat → Int} (h : Limbs A) (n : Nat) : vl A n = 0 ↔ ∀ j, j < n → A j = 0 := by
  induction n with
  | zero => simp [vl]
  | succ n ih =>
    have h1 := vl_lt h n
    have h2 := h n
    have hp := pw_pos n
    have h3 : 0 ≤ A n * pw n := Int.mul_nonneg h2.1 (by omega)
    simp only [vl]
    constructor
    · intro e j hj
      have e1 : vl A n = 0 := by omega
      have e2 : A n * pw n = 0 := by omega
      rcases Int.mul_eq_zero.1 e2 with e3 | e3
      · by_cases hjn : j = n
        · rw [hjn]; exact e3
        · exact ih.1 e1 j (by omega)
      · omega
    · intro e
      rw [ih.2 (fun j hj => e j (by omega)), e n (by omega)]; simp
end Go.Proofs.Ytbmlkanonmooeaa

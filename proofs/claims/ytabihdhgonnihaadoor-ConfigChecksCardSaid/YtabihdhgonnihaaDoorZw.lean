/- digits of the document. -/
import Derived.Test.YtabihdhgonnihaaDoorZu
namespace Go.Proofs.YtabihdhgonnihaaDoor
open Go.ChangeShapes Go.WideShapes Go.ChangeAt Go.RowKit
set_option linter.unusedVariables false
set_option linter.unusedSimpArgs false

def strM : Value → Nat
  | .string b => if b.size = 0 then 1 else 0
  | _ => 0
def DgRel (w : World) (u : Nat) (v0 v3 : Value) (wr : World) : Prop := ∃ (m : Nat) (o : Str), v0 = .int .i64 (m : Int) ∧ v3 = .string ⟨o.toArray⟩ ∧ m ≤ 9223372036854775807 ∧ ((o = [] ∧ m = u) ∨ (o ≠ [] ∧ (if m = 0 then o else Lib.decDigits m ++ o) = Lib.decDigits u)) ∧ Below w.heap.size w wr
theorem dg_next {u m : Nat} {o : Str} (h : (o = [] ∧ m = u) ∨ (o ≠ [] ∧ (if m = 0 then o else Lib.decDigits m ++ o) = Lib.decDigits u)) (hg : o = [] ∨ 0 < m) :
    (if m / 10 = 0 then UInt8.ofNat (48 + m % 10) :: o else Lib.decDigits (m / 10) ++ UInt8.ofNat (48 + m % 10) :: o) = Lib.decDigits u := by
  have hd : Lib.decDigits m ++ o = if m / 10 = 0 then UInt8.ofNat (48 + m % 10) :: o else Lib.decDigits (m / 10) ++ UInt8.ofNat (48 + m % 10) :: o := by
    by_cases h10 : m < 10
    · rw [dec_one h10, if_pos (by omega), show m % 10 = m by omega]; rfl
    · rw [dec_big h10, if_neg (by omega)]; simp
  rw [← hd]
  rcases h with ⟨rfl, rfl⟩ | ⟨h1, h2⟩
  · simp
  · have hm : ¬ m = 0 := by rcases hg with h | h; · exact absurd h h1
                            · omega
    rwa [if_neg hm] at h2
theorem dg_len {u m : Nat} {o : Str} (hu : u ≤ 9223372036854775807) (h : (o = [] ∧ m = u) ∨ (o ≠ [] ∧ (if m = 0 then o else Lib.decDigits m ++ o) = Lib.decDigits u)) : o.length ≤ 19 := by
  rcases h with ⟨rfl, _⟩ | ⟨_, h2⟩
  · simp
  · have := dec_len19 hu
    rw [← h2] at this
    split at this
    · exact this
    · rw [List.length_append] at this; omega
theorem one_stringI (w : World) {x : Int} {M : Nat} (hM : M < 256) (hx : x = M) : (convert 41 9 (.slice (some ⟨w.heap.size, 0, none⟩) 1 1)).run Tryd.prog (w.alloc (.cells #[.int .u8 x] 5)) = .ok (.string ⟨#[UInt8.ofNat M]⟩) (w.alloc (.cells #[.int .u8 x] 5)) := by
  subst hx; exact one_string w hM
set_option maxRecDepth 100000 in
set_option maxHeartbeats 4000000 in
theorem rdigits (u : Nat) (hu : u ≤ 9223372036854775807) (w : World) : Calls Tryd.prog 56 #[.int .i64 (u : Int)] w fun e w' => e = .returned (.string ⟨(Lib.decDigits u).toArray⟩) ∧ Below w.heap.size w w' := by
  have HU := Lib.hid hu
  clear hu
  go_enter Tryd.func56, Tryd.ntmps56
  go_wp2_with fail
  go_loopw [0, 3] (fun v0 v3 wr => DgRel w u v0 v3 wr) (fun v0 v3 _ => (intOf v0).toNat + strM v3)
  case atStart => exact ⟨u, [], rfl, rfl, HU.out, Or.inl ⟨rfl, rfl⟩, Below.refl _ _⟩
  case round =>
    obtain ⟨m, o, rfl, rfl, hm, hinv, hb⟩ := hrel
    have HI := Lib.hid hinv
    have HM := Lib.hid hm
    have HB := Lib.hid hb
    have HL := Lib.hid (dg_len HU.out hinv)
    have hq : wrap64 ((m : Int) / 10) = ((m / 10 : Nat) : Int) := by unfold wrap64; omega
    by_cases hgo : o = [] ∨ 0 < m
    · have HN := Lib.hid (dg_next hinv hgo)
      have hadd := add_str (a := [UInt8.ofNat (48 + m % 10)]) (b := o) (by have := HL.out; simp; omega)
      have hcv := one_stringI wr (x := 48 + (m : Int) % 10) (M := 48 + m % 10) (by omega) (by omega)
      generalize UInt8.ofNat (48 + m % 10) = c at *
      have HX : Hid ((⟨#[c]⟩ : ByteArray) ++ ⟨o.toArray⟩ = ⟨(c :: o).toArray⟩) := Lib.hid (by apply ByteArray.ext; simp)
      have HNX : Hid (∀ wr', Below w.heap.size w wr' → DgRel w u (.int .i64 ((m / 10 : Nat) : Int)) (.string ⟨(c :: o).toArray⟩) wr') := Lib.hid (fun wr' hb' => ⟨m / 10, c :: o, rfl, rfl, by have := HM.out; omega, Or.inr ⟨by simp, HN.out⟩, hb'⟩)
      have HBN := Lib.hid (HB.out.alloc HB.out.size (.cells #[.int .u8 (48 + (m : Int) % 10)] 5))
      clear hinv hb hm HN HI
      by_cases ho : o = []
      · have he : o.isEmpty = true := by simpa using ho
        have HO := Lib.hid ho
        clear hgo ho
        go_wp2_with fail
        go_roundw
        case rel => rw [hq]; exact HNX.out _ HBN.out
        case measure => rw [hq, HO.out]; simp only [intOf, strM, ByteArray.size, Int.toNat_natCast]; simp; omega
      · have he : o.isEmpty = false := by simpa using ho
        have hm0 : 0 < m := by rcases hgo with h | h; · exact absurd h ho
                               · exact h
        have e1 : decide (0 < m) = true := by simpa using hm0
        have e2 : decide ((0 : Int) < (m : Int)) = true := by simp; omega
        have HM0 := Lib.hid hm0
        clear hgo ho hm0
        go_wp2_with fail
        go_roundw
        case rel => rw [hq]; exact HNX.out _ HBN.out
        case measure => have := HM0.out; rw [hq]; simp only [intOf, strM, ByteArray.size, Int.toNat_natCast]; simp; omega
    · have ho : o ≠ [] := fun e => hgo (Or.inl e)
      have hm0 : m = 0 := by have : ¬ 0 < m := fun e => hgo (Or.inr e); omega
      have he : o.isEmpty = false := by simpa using ho
      have hod : o = Lib.decDigits u := by
        rcases hinv with ⟨h, _⟩ | ⟨_, h⟩
        · exact absurd h ho
        · rwa [if_pos hm0] at h
      have HOD := Lib.hid hod
      clear hod hgo hinv hb ho hm hq
      subst hm0
      go_wp2_with fail
      go_ret
      exact ⟨by rw [HOD.out]; rfl, HB.out⟩
end Go.Proofs.YtabihdhgonnihaaDoor

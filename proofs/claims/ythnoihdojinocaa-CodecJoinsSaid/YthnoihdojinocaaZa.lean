/- The document's Uses and has. -/
import Derived.Test.YthnoihdojinocaaI
namespace Go.Proofs.Ythnoihdojinocaa
open Go.ChangeShapes Go.WideShapes Go.ChangeAt Go.RowKit
set_option linter.unusedVariables false
set_option linter.unusedSimpArgs false

/-- The letter of a field. -/
def lt : Fd → Nat
  | .u => 117 | .v => 118 | .w => 119 | .t => 116 | .d => 100 | .b => 98
/-- A string is the letters of fields. -/
structure Str (s : ByteArray) (fs : List Fd) : Prop where
  size : s.size = fs.length
  at_ : ∀ i, i < fs.length → ∀ w, (Instr.index 9 (.string s) (.int .i64 (i : Int))).run Try.prog w = .ok (.int .u8 (lt (fs.getD i .u) : Nat)) w
theorem str_of {s : ByteArray} {fs : List Fd} (h : s.data.toList.map UInt8.toNat = fs.map lt) : Str s fs := by
  have hs : s.size = fs.length := by
    have := congrArg List.length h
    simpa using this
  refine ⟨hs, fun i hi w => ?_⟩
  rw [run_index_string w 9 s .i64 i Try.underlying9, dif_pos ⟨by omega, by omega⟩]
  have h1 : (s.data.toList.map UInt8.toNat)[i]? = (fs.map lt)[i]? := by rw [h]
  have h2 : i < s.data.size := by have : s.data.size = s.size := rfl; omega
  rw [List.getElem?_map, List.getElem?_map] at h1
  simp [hi] at h1
  obtain ⟨a, h3, h4⟩ := h1
  have h5 : s.data[i] = a := by rw [Array.getElem?_eq_getElem h2] at h3; exact Option.some.inj h3
  simp only [Int.toNat_natCast]
  congr 3
  simp [hi]
  rw [← h4]
  exact congrArg UInt8.toNat h5
def UseR (o : Option (List Fd)) (e : Ending) : Prop := match o with
  | none => ∃ s, e = .returned (.tuple #[.string s, .bool false]) ∧ Str s []
  | some fs => ∃ s, e = .returned (.tuple #[.string s, .bool true]) ∧ Str s fs
set_option maxRecDepth 100000 in
set_option maxHeartbeats 4000000 in
theorem ruses (op : Int) (w : World) : Calls Try.prog 40 #[.int .i64 op] w fun e w' => UseR (uses op) e ∧ w = w' := by
  by_cases h1 : op = 1
  · subst h1
    rw [show uses 1 = some [Fd.u, Fd.v, Fd.w, Fd.t] by decide]
    go_enter Try.func40, Try.ntmps40
    go_wp2_with fail
    go_ret2
    exact ⟨⟨_, rfl, str_of rfl⟩, rfl⟩
  by_cases h2 : op = 2
  · subst h2
    rw [show uses 2 = some [Fd.t] by decide]
    go_enter Try.func40, Try.ntmps40
    go_wp2_with fail
    go_ret2
    exact ⟨⟨_, rfl, str_of rfl⟩, rfl⟩
  by_cases h3 : op = 3
  · subst h3
    rw [show uses 3 = some [Fd.u, Fd.v] by decide]
    go_enter Try.func40, Try.ntmps40
    go_wp2_with fail
    go_ret2
    exact ⟨⟨_, rfl, str_of rfl⟩, rfl⟩
  by_cases h4 : op = 4
  · subst h4
    rw [show uses 4 = some [Fd.u] by decide]
    go_enter Try.func40, Try.ntmps40
    go_wp2_with fail
    go_ret2
    exact ⟨⟨_, rfl, str_of rfl⟩, rfl⟩
  by_cases h5 : op = 5
  · subst h5
    rw [show uses 5 = some [] by decide]
    go_enter Try.func40, Try.ntmps40
    go_wp2_with fail
    go_ret2
    exact ⟨⟨_, rfl, str_of rfl⟩, rfl⟩
  by_cases h6 : op = 6
  · subst h6
    rw [show uses 6 = some [Fd.u, Fd.w] by decide]
    go_enter Try.func40, Try.ntmps40
    go_wp2_with fail
    go_ret2
    exact ⟨⟨_, rfl, str_of rfl⟩, rfl⟩
  by_cases h7 : op = 7
  · subst h7
    rw [show uses 7 = some [Fd.w] by decide]
    go_enter Try.func40, Try.ntmps40
    go_wp2_with fail
    go_ret2
    exact ⟨⟨_, rfl, str_of rfl⟩, rfl⟩
  by_cases h8 : op = 8
  · subst h8
    rw [show uses 8 = some [Fd.u, Fd.v] by decide]
    go_enter Try.func40, Try.ntmps40
    go_wp2_with fail
    go_ret2
    exact ⟨⟨_, rfl, str_of rfl⟩, rfl⟩
  by_cases h9 : op = 9
  · subst h9
    rw [show uses 9 = some [] by decide]
    go_enter Try.func40, Try.ntmps40
    go_wp2_with fail
    go_ret2
    exact ⟨⟨_, rfl, str_of rfl⟩, rfl⟩
  by_cases h10 : op = 10
  · subst h10
    rw [show uses 10 = some [] by decide]
    go_enter Try.func40, Try.ntmps40
    go_wp2_with fail
    go_ret2
    exact ⟨⟨_, rfl, str_of rfl⟩, rfl⟩
  by_cases h11 : op = 11
  · subst h11
    rw [show uses 11 = some [Fd.d] by decide]
    go_enter Try.func40, Try.ntmps40
    go_wp2_with fail
    go_ret2
    exact ⟨⟨_, rfl, str_of rfl⟩, rfl⟩
  by_cases h12 : op = 12
  · subst h12
    rw [show uses 12 = some [Fd.w, Fd.b] by decide]
    go_enter Try.func40, Try.ntmps40
    go_wp2_with fail
    go_ret2
    exact ⟨⟨_, rfl, str_of rfl⟩, rfl⟩
  by_cases h13 : op = 13
  · subst h13
    rw [show uses 13 = some [] by decide]
    go_enter Try.func40, Try.ntmps40
    go_wp2_with fail
    go_ret2
    exact ⟨⟨_, rfl, str_of rfl⟩, rfl⟩
  by_cases h14 : op = 14
  · subst h14
    rw [show uses 14 = some [] by decide]
    go_enter Try.func40, Try.ntmps40
    go_wp2_with fail
    go_ret2
    exact ⟨⟨_, rfl, str_of rfl⟩, rfl⟩
  by_cases h15 : op = 15
  · subst h15
    rw [show uses 15 = some [] by decide]
    go_enter Try.func40, Try.ntmps40
    go_wp2_with fail
    go_ret2
    exact ⟨⟨_, rfl, str_of rfl⟩, rfl⟩
  have hu : uses op = none := by unfold uses; simp [*]
  rw [hu]
  have b1 : (op == 1) = false := by simpa using h1
  have b2 : (op == 2) = false := by simpa using h2
  have b3 : (op == 3) = false := by simpa using h3
  have b4 : (op == 4) = false := by simpa using h4
  have b5 : (op == 5) = false := by simpa using h5
  have b6 : (op == 6) = false := by simpa using h6
  have b7 : (op == 7) = false := by simpa using h7
  have b8 : (op == 8) = false := by simpa using h8
  have b9 : (op == 9) = false := by simpa using h9
  have b10 : (op == 10) = false := by simpa using h10
  have b11 : (op == 11) = false := by simpa using h11
  have b12 : (op == 12) = false := by simpa using h12
  have b13 : (op == 13) = false := by simpa using h13
  have b14 : (op == 14) = false := by simpa using h14
  have b15 : (op == 15) = false := by simpa using h15
  clear hu h1 h2 h3 h4 h5 h6 h7 h8 h9 h10 h11 h12 h13 h14 h15
  go_enter Try.func40, Try.ntmps40
  go_wp2_with fail
  go_ret2
  exact ⟨⟨_, rfl, str_of rfl⟩, rfl⟩
theorem lt_inj {p q : Fd} (h : lt p = lt q) : p = q := by cases p <;> cases q <;> first | rfl | (simp [lt] at h)
def HaRel (fs : List Fd) (f : Fd) (w : World) (vi : Value) (wr : World) : Prop := ∃ i : Nat, i ≤ fs.length ∧ vi = .int .i64 i ∧ (∀ j, j < i → fs.getD j .u ≠ f) ∧ w = wr
set_option maxRecDepth 100000 in
set_option maxHeartbeats 2000000 in
theorem rhas {s : ByteArray} {fs : List Fd} (h : Str s fs) (hl : fs.length ≤ 1000) (f : Fd) (w : World) : Calls Try.prog 41 #[.string s, .int .u8 (lt f : Nat)] w fun e w' => e = .returned (.bool (decide (f ∈ fs))) ∧ w = w' := by
  have H := Lib.hid h
  have hs := h.size
  obtain ⟨n, hn⟩ : ∃ n, n = fs.length := ⟨_, rfl⟩
  rw [← hn] at hs
  have HN := Lib.hid hn
  have hl2 : n ≤ 1000 := by omega
  obtain ⟨R, hR⟩ : ∃ R, R = decide (f ∈ fs) := ⟨_, rfl⟩
  rw [← hR]
  have HR := Lib.hid hR
  have HLT : Hid (∀ g, lt g = lt f → g = f) := Lib.hid (fun g h => lt_inj h)
  clear h hn hl hR
  generalize hL : lt f = L at *
  have HL := Lib.hid hL
  clear hL
  go_enter Try.func41, Try.ntmps41
  go_wp2_with fail
  go_loopw [5] (fun vi wr => HaRel fs f w vi wr) (fun vi _ => n - (intOf vi).toNat)
  case atStart => exact ⟨0, Nat.zero_le _, rfl, fun j hj => absurd hj (by omega), rfl⟩
  case round =>
    obtain ⟨i, hi, rfl, hno, rfl⟩ := hrel
    have NO := Lib.hid hno
    rw [← HN.out] at hi
    clear hno
    by_cases hlt : i < n
    · have hx := H.out.at_ i (by have := HN.out; omega)
      have HG : Hid (lt (fs.getD i .u) = L → R = true) := Lib.hid (fun h => by
        have h1 := HLT.out _ h
        have h2 : i < fs.length := by have := HN.out; omega
        rw [HR.out, ← h1]
        simp [h2])
      have HNE : Hid (lt (fs.getD i .u) ≠ L → fs.getD i .u ≠ f) := Lib.hid (fun h e => by
        rw [e] at h; exact h HL.out)
      generalize lt (fs.getD i .u) = X at *
      by_cases he : X = L
      · have hr := HG.out he
        subst he
        subst hr
        clear HR HG HNE
        go_wp2_with fail
        go_ret
        exact ⟨rfl, rfl⟩
      · have hxy : ((X : Int) == (L : Int)) = false := by simp; omega
        have hxy2 : (X == L) = false := by simp; omega
        have NE := Lib.hid (HNE.out he)
        clear he HG HNE
        go_wp2_with fail
        go_roundw
        case rel => exact ⟨i + 1, by have := HN.out; omega, by go_num, fun j hj => by
          rcases Nat.lt_or_ge j i with h | h
          · exact NO.out j h
          · obtain rfl : j = i := by omega
            exact NE.out, rfl⟩
        case measure => simp [intOf]; omega
    · have hr : R = false := by
        rw [HR.out]
        simp only [decide_eq_false_iff_not]
        intro hm
        obtain ⟨j, hj, e⟩ := List.getElem_of_mem hm
        exact NO.out j (by have := HN.out; omega) (by simp [hj, e])
      subst hr
      go_wp2_with fail
      go_ret
      exact ⟨rfl, rfl⟩
end Go.Proofs.Ythnoihdojinocaa

/- The document's setting. -/
import Derived.Test.YtabihdhgonnihaaDoorW
namespace Go.Proofs.YtabihdhgonnihaaDoor
open Go.ChangeShapes Go.WideShapes Go.ChangeAt Go.RowKit
set_option linter.unusedVariables false
set_option linter.unusedSimpArgs false

def nq (i : Nat) : Str := nm i ++ [61]
theorem nq_len (i : Nat) : (nq i).length = (nm i).length + 1 := by simp [nq]
theorem set_hit {p : Str} {i : Nat} (hi : i < 4) (h : p.take (nq i).length = nq i) : setting p = (num (p.drop (nq i).length)).map fun u => (i, u) := by
  have e : p = nm i ++ 61 :: p.drop (nq i).length := by
    conv => lhs; rw [← List.take_append_drop (nq i).length p, h]
    simp [nq]
  unfold setting
  generalize p.drop (nq i).length = r at *
  subst e
  rw [cutc_app _ nm61]
  show (find (nm i)).bind _ = _
  rw [find_nm hi]; rfl
theorem set_none {p : Str} (h : ∀ i, i < 4 → p.take (nq i).length ≠ nq i) : setting p = none := by
  cases hs : setting p with
  | none => rfl
  | some q =>
    obtain ⟨i, u⟩ := q
    obtain ⟨hi, _, rfl⟩ := setting_some hs
    refine absurd ?_ (h i hi)
    rw [show nm i ++ 61 :: Lib.decDigits u = nq i ++ Lib.decDigits u by simp [nq]]
    exact List.take_left
theorem nq_inj {p : Str} {i j : Nat} (hi : i < 4) (hj : j < 4) (h : p.take (nq i).length = nq i) (k : p.take (nq j).length = nq j) : i = j := by
  have h1 := set_hit hi h
  have e : ∀ {i : Nat}, p.take (nq i).length = nq i → (cutc 61 p).1 = nm i := fun {i} h => by
    have e : p = nm i ++ 61 :: p.drop (nq i).length := by
      conv => lhs; rw [← List.take_append_drop (nq i).length p, h]
      simp [nq]
    rw [e, cutc_app _ nm61]
  have e2 := (e h).symm.trans (e k)
  have f1 := find_nm hi
  rw [e2, find_nm hj] at f1
  exact (Option.some.inj f1).symm
def SeR (o : Option (Nat × Nat)) (e : Ending) : Prop := match o with
  | none => e = .returned (.tuple #[.int .i64 (-1), .int .i64 0])
  | some (i, u) => e = .returned (.tuple #[.int .i64 (i : Nat), .int .i64 (u : Nat)])
/-- No setting of the first i fields. -/
def SeRel (w : World) (k : Nat) (p : Str) (vi : Value) (wr : World) : Prop := ∃ i : Nat, i ≤ 4 ∧ vi = .int .i64 (i : Int) ∧ (∀ j, j < i → p.take (nq j).length = nq j → setting p = none) ∧
  wr.heap[k]? = some (.cells #[.string ⟨#[119, 105, 110, 100, 111, 119]⟩, .int .i64 1, .int .i64 9223372036854775807, .string ⟨#[101, 100, 103, 101, 115]⟩, .int .i64 1, .int .i64 16384, .string ⟨#[118, 101, 114, 116, 115]⟩, .int .i64 2, .int .i64 4096, .string ⟨#[100, 114, 97, 119, 115]⟩, .int .i64 0, .int .i64 16384] 91 (0, 0)) ∧ Below w.heap.size w wr
theorem se_end {p : Str} (h : ∀ j, j < 4 → p.take (nq j).length = nq j → setting p = none) : setting p = none := by
  by_cases hx : ∃ i, i < 4 ∧ p.take (nq i).length = nq i
  · obtain ⟨i, hi, hp⟩ := hx; exact h i hi hp
  · exact set_none (fun i hi hp => hx ⟨i, hi, hp⟩)
set_option maxRecDepth 100000 in
set_option maxHeartbeats 4000000 in
theorem rsetting (p : Str) (hp : p.length ≤ 1000000) (w : World) : Calls Tryd.prog 53 #[.string ⟨p.toArray⟩] w fun e w' => SeR (setting p) e ∧ Below w.heap.size w w' := by
  have P1 := Lib.hid (rrows w)
  have RN := Lib.hid (fun s hs w => rnumber s hs w)
  have HP := Lib.hid hp
  go_enter Tryd.func53, Tryd.ntmps53
  go_wp2_with fail
  refine (P1.out).mono ?_; rintro e w1 ⟨rfl, hw1⟩
  have X1 : Hid (w1.heap[w.heap.size]? = some (.cells #[.string ⟨#[119, 105, 110, 100, 111, 119]⟩, .int .i64 1, .int .i64 9223372036854775807, .string ⟨#[101, 100, 103, 101, 115]⟩, .int .i64 1, .int .i64 16384, .string ⟨#[118, 101, 114, 116, 115]⟩, .int .i64 2, .int .i64 4096, .string ⟨#[100, 114, 97, 119, 115]⟩, .int .i64 0, .int .i64 16384] 91 (0, 0))) := Lib.hid (by rw [hw1]; exact block_new _ _)
  have B1 : Hid (Below w.heap.size w w1) := Lib.hid (by rw [hw1]; exact Below.alloc (Below.refl _ _) (Nat.le_refl _) _)
  clear hw1 P1
  go_wp2_with fail
  go_loopw [5] (fun v5 wr => SeRel w w.heap.size p v5 wr) (fun v5 _ => 4 - (intOf v5).toNat)
  case atStart => exact ⟨0, by omega, rfl, fun j hj => absurd hj (by omega), X1.out, B1.out⟩
  case round =>
    obtain ⟨i, hi4, rfl, hno, hx, hb⟩ := hrel
    have HX := Lib.hid hx
    have BB := Lib.hid hb
    have NO := Lib.hid hno
    have y0 : wr.cell? ⟨w.heap.size, 0, none⟩ = some (.string ⟨#[119, 105, 110, 100, 111, 119]⟩) := cell_of hx 0
    have y3 : wr.cell? ⟨w.heap.size, 3, none⟩ = some (.string ⟨#[101, 100, 103, 101, 115]⟩) := cell_of hx 3
    have y6 : wr.cell? ⟨w.heap.size, 6, none⟩ = some (.string ⟨#[118, 101, 114, 116, 115]⟩) := cell_of hx 6
    have y9 : wr.cell? ⟨w.heap.size, 9, none⟩ = some (.string ⟨#[100, 114, 97, 119, 115]⟩) := cell_of hx 9
    clear hx hb hno
    have h5 : i = 0 ∨ i = 1 ∨ i = 2 ∨ i = 3 ∨ i = 4 := by omega
    rcases h5 with rfl | rfl | rfl | rfl | rfl
    · have hcat : (({ data := #[119, 105, 110, 100, 111, 119] } : ByteArray) ++ { data := #[61] }) = { data := #[119, 105, 110, 100, 111, 119, 61] } := by kernel_rfl
      have NX : Hid ((p.take (nq 0).length = nq 0 → setting p = none) → ∀ j, j < 0 + 1 → p.take (nq j).length = nq j → setting p = none) := Lib.hid (fun h j hj hq => by
        rcases Nat.lt_or_ge j 0 with h' | h'
        · exact NO.out j h' hq
        · obtain rfl : j = 0 := by omega
          exact h hq)
      by_cases h1 : p.length < 7
      · have e1 : decide ((p.length : Int) < 7) = true := by simp; omega
        have e2 : decide (p.length < 7) = true := by simpa using h1
        have NX2 := Lib.hid (NX.out (fun h => by
          have := congrArg List.length h
          rw [List.length_take] at this
          have h7 : (nq 0).length = 7 := rfl
          omega))
        clear h1
        go_wp2_with fail
        go_roundw
        case rel => exact ⟨0 + 1, by omega, by go_num, NX2.out, HX.out, BB.out⟩
        case measure => simp [intOf]
      have e1 : decide ((p.length : Int) < 7) = false := by simp; omega
      have e2 : decide (p.length < 7) = false := by simpa using h1
      have hge : ((7 : Int) ≤ (p.length : Int)) := by omega
      have hge2 : 7 ≤ p.length := by omega
      have hto : (⟨p.toArray⟩ : ByteArray).extract 0 7 = ⟨(p.take 7).toArray⟩ := by rw [ByteArray.extract_mk]; simp
      have hfrom : (⟨p.toArray⟩ : ByteArray).extract 7 p.length = ⟨(p.drop 7).toArray⟩ := by rw [ByteArray.extract_mk, List.take_of_length_le (by rw [List.length_drop]; exact Nat.le_refl _)]
      by_cases h2 : p.take 7 = [119, 105, 110, 100, 111, 119, 61]
      · have HS := Lib.hid (set_hit (p := p) (i := 0) (by omega) h2)
        have e3 : (List.take 7 p == [119, 105, 110, 100, 111, 119, 61]) = true := by rw [h2]; rfl
        have PN_ := Lib.hid (RN.out (p.drop 7) (by rw [List.length_drop]; have := HP.out; omega) wr)
        clear h1 h2
        cases hn : num (p.drop 7) with
        | none =>
          have NX2 := Lib.hid (NX.out (fun _ => by rw [HS.out, show (nq 0).length = 7 from rfl, hn]; rfl))
          rw [hn] at PN_
          clear hn
          go_wp2_with fail
          refine (PN_.out).mono ?_; rintro e w2 ⟨rfl, rfl⟩
          go_wp2_with fail
          go_roundw
          case rel => exact ⟨0 + 1, by omega, by go_num, NX2.out, HX.out, BB.out⟩
          case measure => simp [intOf]
        | some u =>
          have HS2 : Hid (setting p = some (0, u)) := Lib.hid (by rw [HS.out, show (nq 0).length = 7 from rfl, hn]; rfl)
          rw [hn] at PN_
          clear hn
          go_wp2_with fail
          refine (PN_.out).mono ?_; rintro e w2 ⟨rfl, rfl⟩
          go_wp2_with fail
          go_ret2
          exact ⟨by rw [HS2.out]; rfl, BB.out⟩
      · have e3 : (List.take 7 p == [119, 105, 110, 100, 111, 119, 61]) = false := by simpa using h2
        have NX2 := Lib.hid (NX.out (fun h => absurd h h2))
        clear h1 h2
        go_wp2_with fail
        go_roundw
        case rel => exact ⟨0 + 1, by omega, by go_num, NX2.out, HX.out, BB.out⟩
        case measure => simp [intOf]
    · have hcat : (({ data := #[101, 100, 103, 101, 115] } : ByteArray) ++ { data := #[61] }) = { data := #[101, 100, 103, 101, 115, 61] } := by kernel_rfl
      have NX : Hid ((p.take (nq 1).length = nq 1 → setting p = none) → ∀ j, j < 1 + 1 → p.take (nq j).length = nq j → setting p = none) := Lib.hid (fun h j hj hq => by
        rcases Nat.lt_or_ge j 1 with h' | h'
        · exact NO.out j h' hq
        · obtain rfl : j = 1 := by omega
          exact h hq)
      by_cases h1 : p.length < 6
      · have e1 : decide ((p.length : Int) < 6) = true := by simp; omega
        have e2 : decide (p.length < 6) = true := by simpa using h1
        have NX2 := Lib.hid (NX.out (fun h => by
          have := congrArg List.length h
          rw [List.length_take] at this
          have h7 : (nq 1).length = 6 := rfl
          omega))
        clear h1
        go_wp2_with fail
        go_roundw
        case rel => exact ⟨1 + 1, by omega, by go_num, NX2.out, HX.out, BB.out⟩
        case measure => simp [intOf]
      have e1 : decide ((p.length : Int) < 6) = false := by simp; omega
      have e2 : decide (p.length < 6) = false := by simpa using h1
      have hge : ((6 : Int) ≤ (p.length : Int)) := by omega
      have hge2 : 6 ≤ p.length := by omega
      have hto : (⟨p.toArray⟩ : ByteArray).extract 0 6 = ⟨(p.take 6).toArray⟩ := by rw [ByteArray.extract_mk]; simp
      have hfrom : (⟨p.toArray⟩ : ByteArray).extract 6 p.length = ⟨(p.drop 6).toArray⟩ := by rw [ByteArray.extract_mk, List.take_of_length_le (by rw [List.length_drop]; exact Nat.le_refl _)]
      by_cases h2 : p.take 6 = [101, 100, 103, 101, 115, 61]
      · have HS := Lib.hid (set_hit (p := p) (i := 1) (by omega) h2)
        have e3 : (List.take 6 p == [101, 100, 103, 101, 115, 61]) = true := by rw [h2]; rfl
        have PN_ := Lib.hid (RN.out (p.drop 6) (by rw [List.length_drop]; have := HP.out; omega) wr)
        clear h1 h2
        cases hn : num (p.drop 6) with
        | none =>
          have NX2 := Lib.hid (NX.out (fun _ => by rw [HS.out, show (nq 1).length = 6 from rfl, hn]; rfl))
          rw [hn] at PN_
          clear hn
          go_wp2_with fail
          refine (PN_.out).mono ?_; rintro e w2 ⟨rfl, rfl⟩
          go_wp2_with fail
          go_roundw
          case rel => exact ⟨1 + 1, by omega, by go_num, NX2.out, HX.out, BB.out⟩
          case measure => simp [intOf]
        | some u =>
          have HS2 : Hid (setting p = some (1, u)) := Lib.hid (by rw [HS.out, show (nq 1).length = 6 from rfl, hn]; rfl)
          rw [hn] at PN_
          clear hn
          go_wp2_with fail
          refine (PN_.out).mono ?_; rintro e w2 ⟨rfl, rfl⟩
          go_wp2_with fail
          go_ret2
          exact ⟨by rw [HS2.out]; rfl, BB.out⟩
      · have e3 : (List.take 6 p == [101, 100, 103, 101, 115, 61]) = false := by simpa using h2
        have NX2 := Lib.hid (NX.out (fun h => absurd h h2))
        clear h1 h2
        go_wp2_with fail
        go_roundw
        case rel => exact ⟨1 + 1, by omega, by go_num, NX2.out, HX.out, BB.out⟩
        case measure => simp [intOf]
    · have hcat : (({ data := #[118, 101, 114, 116, 115] } : ByteArray) ++ { data := #[61] }) = { data := #[118, 101, 114, 116, 115, 61] } := by kernel_rfl
      have NX : Hid ((p.take (nq 2).length = nq 2 → setting p = none) → ∀ j, j < 2 + 1 → p.take (nq j).length = nq j → setting p = none) := Lib.hid (fun h j hj hq => by
        rcases Nat.lt_or_ge j 2 with h' | h'
        · exact NO.out j h' hq
        · obtain rfl : j = 2 := by omega
          exact h hq)
      by_cases h1 : p.length < 6
      · have e1 : decide ((p.length : Int) < 6) = true := by simp; omega
        have e2 : decide (p.length < 6) = true := by simpa using h1
        have NX2 := Lib.hid (NX.out (fun h => by
          have := congrArg List.length h
          rw [List.length_take] at this
          have h7 : (nq 2).length = 6 := rfl
          omega))
        clear h1
        go_wp2_with fail
        go_roundw
        case rel => exact ⟨2 + 1, by omega, by go_num, NX2.out, HX.out, BB.out⟩
        case measure => simp [intOf]
      have e1 : decide ((p.length : Int) < 6) = false := by simp; omega
      have e2 : decide (p.length < 6) = false := by simpa using h1
      have hge : ((6 : Int) ≤ (p.length : Int)) := by omega
      have hge2 : 6 ≤ p.length := by omega
      have hto : (⟨p.toArray⟩ : ByteArray).extract 0 6 = ⟨(p.take 6).toArray⟩ := by rw [ByteArray.extract_mk]; simp
      have hfrom : (⟨p.toArray⟩ : ByteArray).extract 6 p.length = ⟨(p.drop 6).toArray⟩ := by rw [ByteArray.extract_mk, List.take_of_length_le (by rw [List.length_drop]; exact Nat.le_refl _)]
      by_cases h2 : p.take 6 = [118, 101, 114, 116, 115, 61]
      · have HS := Lib.hid (set_hit (p := p) (i := 2) (by omega) h2)
        have e3 : (List.take 6 p == [118, 101, 114, 116, 115, 61]) = true := by rw [h2]; rfl
        have PN_ := Lib.hid (RN.out (p.drop 6) (by rw [List.length_drop]; have := HP.out; omega) wr)
        clear h1 h2
        cases hn : num (p.drop 6) with
        | none =>
          have NX2 := Lib.hid (NX.out (fun _ => by rw [HS.out, show (nq 2).length = 6 from rfl, hn]; rfl))
          rw [hn] at PN_
          clear hn
          go_wp2_with fail
          refine (PN_.out).mono ?_; rintro e w2 ⟨rfl, rfl⟩
          go_wp2_with fail
          go_roundw
          case rel => exact ⟨2 + 1, by omega, by go_num, NX2.out, HX.out, BB.out⟩
          case measure => simp [intOf]
        | some u =>
          have HS2 : Hid (setting p = some (2, u)) := Lib.hid (by rw [HS.out, show (nq 2).length = 6 from rfl, hn]; rfl)
          rw [hn] at PN_
          clear hn
          go_wp2_with fail
          refine (PN_.out).mono ?_; rintro e w2 ⟨rfl, rfl⟩
          go_wp2_with fail
          go_ret2
          exact ⟨by rw [HS2.out]; rfl, BB.out⟩
      · have e3 : (List.take 6 p == [118, 101, 114, 116, 115, 61]) = false := by simpa using h2
        have NX2 := Lib.hid (NX.out (fun h => absurd h h2))
        clear h1 h2
        go_wp2_with fail
        go_roundw
        case rel => exact ⟨2 + 1, by omega, by go_num, NX2.out, HX.out, BB.out⟩
        case measure => simp [intOf]
    · have hcat : (({ data := #[100, 114, 97, 119, 115] } : ByteArray) ++ { data := #[61] }) = { data := #[100, 114, 97, 119, 115, 61] } := by kernel_rfl
      have NX : Hid ((p.take (nq 3).length = nq 3 → setting p = none) → ∀ j, j < 3 + 1 → p.take (nq j).length = nq j → setting p = none) := Lib.hid (fun h j hj hq => by
        rcases Nat.lt_or_ge j 3 with h' | h'
        · exact NO.out j h' hq
        · obtain rfl : j = 3 := by omega
          exact h hq)
      by_cases h1 : p.length < 6
      · have e1 : decide ((p.length : Int) < 6) = true := by simp; omega
        have e2 : decide (p.length < 6) = true := by simpa using h1
        have NX2 := Lib.hid (NX.out (fun h => by
          have := congrArg List.length h
          rw [List.length_take] at this
          have h7 : (nq 3).length = 6 := rfl
          omega))
        clear h1
        go_wp2_with fail
        go_roundw
        case rel => exact ⟨3 + 1, by omega, by go_num, NX2.out, HX.out, BB.out⟩
        case measure => simp [intOf]
      have e1 : decide ((p.length : Int) < 6) = false := by simp; omega
      have e2 : decide (p.length < 6) = false := by simpa using h1
      have hge : ((6 : Int) ≤ (p.length : Int)) := by omega
      have hge2 : 6 ≤ p.length := by omega
      have hto : (⟨p.toArray⟩ : ByteArray).extract 0 6 = ⟨(p.take 6).toArray⟩ := by rw [ByteArray.extract_mk]; simp
      have hfrom : (⟨p.toArray⟩ : ByteArray).extract 6 p.length = ⟨(p.drop 6).toArray⟩ := by rw [ByteArray.extract_mk, List.take_of_length_le (by rw [List.length_drop]; exact Nat.le_refl _)]
      by_cases h2 : p.take 6 = [100, 114, 97, 119, 115, 61]
      · have HS := Lib.hid (set_hit (p := p) (i := 3) (by omega) h2)
        have e3 : (List.take 6 p == [100, 114, 97, 119, 115, 61]) = true := by rw [h2]; rfl
        have PN_ := Lib.hid (RN.out (p.drop 6) (by rw [List.length_drop]; have := HP.out; omega) wr)
        clear h1 h2
        cases hn : num (p.drop 6) with
        | none =>
          have NX2 := Lib.hid (NX.out (fun _ => by rw [HS.out, show (nq 3).length = 6 from rfl, hn]; rfl))
          rw [hn] at PN_
          clear hn
          go_wp2_with fail
          refine (PN_.out).mono ?_; rintro e w2 ⟨rfl, rfl⟩
          go_wp2_with fail
          go_roundw
          case rel => exact ⟨3 + 1, by omega, by go_num, NX2.out, HX.out, BB.out⟩
          case measure => simp [intOf]
        | some u =>
          have HS2 : Hid (setting p = some (3, u)) := Lib.hid (by rw [HS.out, show (nq 3).length = 6 from rfl, hn]; rfl)
          rw [hn] at PN_
          clear hn
          go_wp2_with fail
          refine (PN_.out).mono ?_; rintro e w2 ⟨rfl, rfl⟩
          go_wp2_with fail
          go_ret2
          exact ⟨by rw [HS2.out]; rfl, BB.out⟩
      · have e3 : (List.take 6 p == [100, 114, 97, 119, 115, 61]) = false := by simpa using h2
        have NX2 := Lib.hid (NX.out (fun h => absurd h h2))
        clear h1 h2
        go_wp2_with fail
        go_roundw
        case rel => exact ⟨3 + 1, by omega, by go_num, NX2.out, HX.out, BB.out⟩
        case measure => simp [intOf]
    · have HS := Lib.hid (se_end NO.out)
      go_wp2_with fail
      go_ret2
      exact ⟨by rw [HS.out]; rfl, BB.out⟩
end Go.Proofs.YtabihdhgonnihaaDoor

/- The walk of the law MsortMerges. -/
import Derived.Test.YtmholiddejgccaaS
namespace Go.Proofs.Ytmholiddejgccaa
open Go.ChangeShapes Go.WideShapes Go.ChangeAt Go.RowKit

/-- A slice that lies below the heap's end. -/
def Lies (w : World) (a : Option Addr) : Prop := ∀ x, a = some x → x.block < w.heap.size
theorem Lies.below {w w' : World} {a : Option Addr} {n : Nat} (h : Lies w a) (hb : Below n w w') : Lies w' a := fun x hx => Nat.lt_of_lt_of_le (h x hx) hb.size
theorem srtL_len (k : Int) (zs : List Rc) : (srtL k zs).length ≤ zs.length := by
  unfold srtL; split
  · rw [arr_length]; exact Nat.le_refl _
  · simp
theorem copied_lies {w : World} {aa : Option Addr} {la ca : Nat} {zs : List Rc} (h : IsSl 4 encR w aa la ca zs) (hl : la ≤ 100000) : Calls Try.prog 15 #[.slice aa la ca] w fun e w' => ∃ a c, e = .returned (.slice a la c) ∧ IsSl 4 encR w' a la c zs ∧ Lies w' a ∧ Below w.heap.size w w' :=
  (copied_any h hl).mono fun e w' ⟨a, c, he, ho, hs, hb⟩ => ⟨a, c, he, hs, fun x hx => by subst hx; exact own_lt ho.row (g := x.block) rfl, hb⟩
theorem err_dec (er : Int) : (er = 0) ∨ (er ≠ 0 ∧ (er == 0) = false ∧ (er != 0) = true) := by
  by_cases h : er = 0
  · exact Or.inl h
  · exact Or.inr ⟨h, by simpa using h, by simpa using h⟩

set_option maxRecDepth 100000 in
set_option maxHeartbeats 4000000 in
theorem merges_law (aa : Option Addr) (la ca : Nat) (xs : List Rc) (ab : Option Addr) (lb cb : Nat) (ys : List Rc) (k : Int) (s : Bool) (w : World) (ha : IsSl 4 encR w aa la ca xs) (hb : IsSl 4 encR w ab lb cb ys) (_hk : (Lit.int .i64 k).wf = true) :
    Calls Try.prog 7 #[.slice aa la ca, .slice ab lb cb, .int .i64 k, .bool s] w fun e w' => e = .returned (.bool true) ∧ Below w.heap.size w w' := by
  have hac := ha.hle; have ham := ha.hmax; have hbc := hb.hle; have hbm := hb.hmax
  unfold maxLen at ham hbm
  have HA := Lib.hid ha; have HB := Lib.hid hb
  have hal := ha.hlen; have hbl := hb.hlen
  clear ha hb
  by_cases h1 : 100 < la
  · go_enter Try.func7, Try.ntmps7
    go_wp2_with fail
    go_ret
    exact ⟨rfl, Below.refl _ _⟩
  by_cases h2 : 100 < lb
  · go_enter Try.func7, Try.ntmps7
    go_wp2_with fail
    go_ret
    exact ⟨rfl, Below.refl _ _⟩
  have hla : la ≤ 100000 := by omega
  have hlb : lb ≤ 100000 := by omega
  have hsa : (srtL k xs).length ≤ 100000 := by have := srtL_len k xs; omega
  have hsb : (srtL k ys).length ≤ 100000 := by have := srtL_len k ys; omega
  have P1 := Lib.hid (fun w aa ca (h : IsSl 4 encR w aa la ca xs) => rsort (k := k) h)
  have P2 := Lib.hid (fun w aa ca (h : IsSl 4 encR w aa lb ca ys) => rsort (k := k) h)
  clear hal hbl
  generalize errK k la = e1 at *
  generalize errK k lb = e2 at *
  generalize srtL k xs = ss at *
  generalize srtL k ys = ts at *
  cases s
  case' false =>
    go_enter Try.func7, Try.ntmps7
    go_wp2_with fail
    refine (copied_lies HA.out hla).mono ?_; rintro e w1 ⟨a1, c1, rfl, hs, hl, hb⟩
    have HB1 := Lib.hid (HB.out.below hb); have X1 := Lib.hid hs; have XX1 := Lib.hid hl; have B1 := Lib.hid hb
    clear hs hl hb
    go_wp2_with fail
    refine (copied_lies HB1.out hlb).mono ?_; rintro e w2 ⟨a2, c2, rfl, hs, hl, hb⟩
    have X := Lib.hid (X1.out.below hb); have XX := Lib.hid (XX1.out.below hb); have Y := Lib.hid hs; have YY := Lib.hid hl; have B := Lib.hid (B1.out.trans (hb.mono B1.out.size))
    have XL := hla; have YL := hlb
    clear hs hl hb
    clear P1 P2 HA HB HB1 X1 XX1 B1
  case' true =>
    go_enter Try.func7, Try.ntmps7
    go_wp2_with fail
    refine (copied_lies HA.out hla).mono ?_; rintro e w1 ⟨a1, c1, rfl, hs, hl, hb⟩
    have HA1 := Lib.hid (HA.out.below hb); have HB1 := Lib.hid (HB.out.below hb); have X1 := Lib.hid hs; have XX1 := Lib.hid hl; have B1 := Lib.hid hb
    clear hs hl hb
    go_wp2_with fail
    refine (copied_lies HB1.out hlb).mono ?_; rintro e w2 ⟨a2, c2, rfl, hs, hl, hb⟩
    have HA2 := Lib.hid (HA1.out.below hb); have HB2 := Lib.hid (HB1.out.below hb); have X2 := Lib.hid (X1.out.below hb); have XX2 := Lib.hid (XX1.out.below hb); have Y2 := Lib.hid hs; have YY2 := Lib.hid hl; have B2 := Lib.hid (B1.out.trans (hb.mono B1.out.size))
    clear hs hl hb
    go_wp2_with fail
    refine (P1.out _ _ _ HA2.out).mono ?_; rintro e w3 ⟨a3, c3, rfl, hs, hl, hb⟩
    have HB3 := Lib.hid (HB2.out.below hb); have X3 := Lib.hid (X2.out.below hb); have XX3 := Lib.hid (XX2.out.below hb); have Y3 := Lib.hid (Y2.out.below hb); have YY3 := Lib.hid (YY2.out.below hb); have S3 := Lib.hid hs; have SS3 : Hid (Lies w3 a3) := Lib.hid fun x hx => (hl x hx).2
    have B3 := Lib.hid (B2.out.trans (hb.mono B2.out.size))
    clear hs hl hb
    go_wp2_with fail
    refine (P2.out _ _ _ HB3.out).mono ?_; rintro e w4 ⟨a4, c4, rfl, hs, hl, hb⟩
    have X4 := Lib.hid (X3.out.below hb); have XX4 := Lib.hid (XX3.out.below hb); have Y4 := Lib.hid (Y3.out.below hb); have YY4 := Lib.hid (YY3.out.below hb); have S4 := Lib.hid (S3.out.below hb); have SS4 := Lib.hid (SS3.out.below hb); have T4 := Lib.hid hs; have TT4 : Hid (Lies w4 a4) := Lib.hid fun x hx => (hl x hx).2
    have B := Lib.hid (B3.out.trans (hb.mono B3.out.size))
    clear hs hl hb
    clear P1 P2 HA HB HB1 X1 XX1 B1 HA1 HA2 HB2 X2 XX2 Y2 YY2 B2 HB3 X3 XX3 Y3 YY3 S3 SS3 B3
    rcases err_dec e1 with rfl | ⟨-, ee1, -⟩
    case' inr =>
      have X := X4; have XX := XX4; have Y := Y4; have YY := YY4; have XL := hla; have YL := hlb
      clear X4 XX4 Y4 YY4 S4 SS4 T4 TT4
    case' inl =>
      rcases err_dec e2 with rfl | ⟨-, ee2, -⟩
      case' inr =>
        have X := X4; have XX := XX4; have Y := Y4; have YY := YY4; have XL := hla; have YL := hlb
        clear X4 XX4 Y4 YY4 S4 SS4 T4 TT4
      case' inl =>
        have X := S4; have XX := SS4; have Y := T4; have YY := TT4; have XL := hsa; have YL := hsb
        clear X4 XX4 Y4 YY4 S4 SS4 T4 TT4
  all_goals (
    go_wp2_with fail
    refine (copied_lies X.out XL).mono ?_; rintro e w9 ⟨a9, c9, rfl, hs, -, hb⟩
    have X1 := Lib.hid (X.out.below hb); have Y1 := Lib.hid (Y.out.below hb); have XX1 := Lib.hid (XX.out.below hb); have YY1 := Lib.hid (YY.out.below hb); have U1 := Lib.hid hs; have B1 := Lib.hid (B.out.trans (hb.mono B.out.size))
    clear hs hb
    go_wp2_with fail
    refine (copied_lies Y1.out YL).mono ?_; rintro e w10 ⟨a10, c10, rfl, hs, -, hb⟩
    have X2 := Lib.hid (X1.out.below hb); have Y2 := Lib.hid (Y1.out.below hb); have XX2 := Lib.hid (XX1.out.below hb); have YY2 := Lib.hid (YY1.out.below hb); have U2 := Lib.hid (U1.out.below hb); have V2 := Lib.hid hs; have B2 := Lib.hid (B1.out.trans (hb.mono B1.out.size))
    clear hs hb
    go_wp2_with fail
    refine (pmerge X2.out Y2.out XL YL XX2.out YY2.out).mono ?_; rintro e w11 ⟨a11, c11, rfl, hs, -, hb⟩
    have X3 := Lib.hid (X2.out.below hb); have Y3 := Lib.hid (Y2.out.below hb); have U3 := Lib.hid (U2.out.below hb); have V3 := Lib.hid (V2.out.below hb); have R3 := Lib.hid hs; have B3 := Lib.hid (B2.out.trans (hb.mono B2.out.size))
    clear hs hb
    go_wp2_with fail
    refine (rmerge U3.out V3.out XL YL).mono ?_; rintro e w12 ⟨a12, c12, rfl, hs, -, hb⟩
    have X4 := Lib.hid (X3.out.below hb); have Y4 := Lib.hid (Y3.out.below hb); have U4 := Lib.hid (U3.out.below hb); have V4 := Lib.hid (V3.out.below hb); have R4 := Lib.hid (R3.out.below hb); have S4 := Lib.hid hs; have B4 := Lib.hid (B3.out.trans (hb.mono B3.out.size))
    clear hs hb
    go_wp2_with fail
    refine (same_yes R4.out S4.out).mono ?_; rintro e w13 ⟨rfl, hb⟩
    have X5 := Lib.hid (X4.out.below hb); have Y5 := Lib.hid (Y4.out.below hb); have U5 := Lib.hid (U4.out.below hb); have V5 := Lib.hid (V4.out.below hb); have B5 := Lib.hid (B4.out.trans (hb.mono B4.out.size))
    clear hb
    go_wp2_with fail
    refine (same_yes X5.out U5.out).mono ?_; rintro e w14 ⟨rfl, hb⟩
    have Y6 := Lib.hid (Y5.out.below hb); have V6 := Lib.hid (V5.out.below hb); have B6 := Lib.hid (B5.out.trans (hb.mono B5.out.size))
    clear hb
    go_wp2_with fail
    refine (same_yes Y6.out V6.out).mono ?_; rintro e w15 ⟨rfl, hb⟩
    have B7 := Lib.hid (B6.out.trans (hb.mono B6.out.size))
    clear hb
    go_wp2_with fail
    refine (works_any _).mono ?_; rintro e w16 ⟨rfl, hb⟩
    have B8 := Lib.hid (B7.out.trans (hb.mono B7.out.size))
    clear hb
    go_wp2_with fail
    go_ret
    exact ⟨rfl, B8.out⟩)
end Go.Proofs.Ytmholiddejgccaa

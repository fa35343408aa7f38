/- ConfigGets: the walk. -/
import Derived.Test.YtabihdhgonnihaaDoorZo
import Derived.Test.YtabihdhgonnihaaDoorZi
import Derived.Test.YtabihdhgonnihaaDoorU
namespace Go.Proofs.YtabihdhgonnihaaDoor
open Go.ChangeShapes Go.WideShapes Go.ChangeAt Go.RowKit
set_option linter.unusedVariables false
set_option linter.unusedSimpArgs false

theorem own_empty (w : World) (e : TypeId) : OutR 1 (encK .u8) e (w.alloc (.cells #[] e)) w.heap.size (.slice (some ⟨w.heap.size, 0, none⟩) 0 0) [] :=
  ⟨⟨rfl, Or.inr ⟨w.heap.size, 0, #[], rfl, Nat.zero_le _, block_new _ _, Nat.le_refl _, Nat.zero_le _, rfl, rfl⟩⟩, fun g hg => by cases hg; exact Nat.le_refl _⟩
theorem isB_of {w : World} {a : Option Addr} {n c : Nat} {zs : List Int} (h : IsInts .u8 w a n c zs) : IsB zs := fun x hx => by
  have := h.wf x hx
  simp only [Lit.wf, Bool.and_eq_true, decide_eq_true_eq] at this
  rw [show IntKind.u8.min = 0 from rfl, show IntKind.u8.max = 255 from rfl] at this
  omega
set_option maxRecDepth 100000 in
set_option maxHeartbeats 8000000 in
theorem gets_walk (aa : Option Addr) (n ca : Nat) (zs : List Int) (w : World) (hE : Env w) (h : IsInts .u8 w aa n ca zs) :
    Calls Tryd.prog 6 #[.slice aa n ca] w fun e w' => e = .returned (.bool true) ∧ Below w.heap.size w w' := by
  obtain ⟨i5, hi, hz0, hz1, hz2⟩ := info_parts info5
  have hS := h.sl
  have hB := isB_of h
  have hn := hS.hlen; have hnc := hS.hle; have hmx := hS.hmax
  unfold maxLen at hmx
  by_cases hl : 200 < n
  · have W := Lib.hid (works_any hE)
    have e1 : decide ((200 : Int) < (n : Int)) = true := by simp; omega
    have e2 : decide (200 < n) = true := by simp; omega
    clear h hE hS hB hn hl hnc hmx
    go_enter Tryd.func6, Tryd.ntmps6
    go_wp2_with fail
    refine (W.out).mono ?_; rintro e w1 ⟨rfl, hb⟩
    have B := Lib.hid hb
    clear hb
    go_wp2_with fail
    go_ret
    exact ⟨rfl, B.out⟩
  · have e1 : decide ((200 : Int) < (n : Int)) = false := by simp; omega
    have e2 : decide (200 < n) = false := by simp; omega
    have HN : Hid (n ≤ 200) := Lib.hid (by omega)
    have HE := Lib.hid hE
    have HS := Lib.hid hS
    have HB := Lib.hid hB
    have HL : Hid (zs.length = n) := Lib.hid hn.symm
    have A1 := Lib.hid (Below.alloc (Below.refl w.heap.size w) (Nat.le_refl _) (.cells #[] 5))
    have E1 := Lib.hid (own_empty w 5)
    have S1 := Lib.hid (hS.below A1.out)
    clear h hE hS hB hn hl hnc hmx
    go_enter Tryd.func6, Tryd.ntmps6
    go_wp2_with (at_builtin; refine wpList_appS rfl (.tmp 14) (.tmp 15) 41 rfl 5 i5 .u8 1 Tryd.underlying41 hi hz0 hz1 hz2 (by decide) rfl E1.out A1.out.size S1.out rfl (by have := HN.out; simp; omega) ?_)
    intro v2 w2 h1 h2 h3 h4
    have O2 : Hid (OutR 1 (encK .u8) 5 w2 w.heap.size v2 zs) := Lib.hid (by simpa using h1)
    have B2 := Lib.hid (A1.out.trans h3)
    obtain ⟨a2, c2, rfl, hS2⟩ := O2.out.sl
    have S2 := Lib.hid hS2
    have P1 := Lib.hid (pget (HE.out.below B2.out) hS2 HB.out)
    have PR := Lib.hid (fun w' (hb : Below w.heap.size w w') => rget (HS.out.below hb) HB.out)
    rw [HL.out] at P1 S2 ⊢
    generalize get zs = R at *
    obtain ⟨f, m, er⟩ := R
    unfold GetR at P1 PR
    dsimp only at P1 PR
    clear h1 h2 h3 h4 hS2 E1 A1 S1 O2
    go_wp2_with fail
    refine (P1.out).mono ?_; rintro e w3 ⟨rfl, hb3⟩
    have hb3' := hb3.alloc hb3.size (.cells #[.int .i64 f.a, .int .i64 f.b, .int .i64 f.c, .int .i64 f.d] 25)
    have B3 := Lib.hid (B2.out.trans (hb3'.mono B2.out.size))
    have S3 := Lib.hid (S2.out.below hb3')
    have X3 := Lib.hid (block_new w3 (.cells #[.int .i64 f.a, .int .i64 f.b, .int .i64 f.c, .int .i64 f.d] 25))
    have P2 := Lib.hid (PR.out _ B3.out)
    clear hb3 hb3' P1 PR S2
    go_wp2_with fail
    refine (P2.out).mono ?_; rintro e w4 ⟨rfl, hb4⟩
    have hb4' := hb4.alloc hb4.size (.cells #[.int .i64 f.a, .int .i64 f.b, .int .i64 f.c, .int .i64 f.d] 25)
    have B4 := Lib.hid (B3.out.trans (hb4'.mono B3.out.size))
    have S4 := Lib.hid (S3.out.below hb4')
    have X4 := Lib.hid ((hb4.block _ (lt_of_block X3.out)).trans X3.out)
    have hx4 := X4.out
    have hlx := lt_of_block hx4
    have x0 : w4.cell? ⟨w3.heap.size, 0, none⟩ = some (.int .i64 f.a) := cell_of hx4 0
    have x1 : w4.cell? ⟨w3.heap.size, 1, none⟩ = some (.int .i64 f.b) := cell_of hx4 1
    have x2 : w4.cell? ⟨w3.heap.size, 2, none⟩ = some (.int .i64 f.c) := cell_of hx4 2
    have x3 : w4.cell? ⟨w3.heap.size, 3, none⟩ = some (.int .i64 f.d) := cell_of hx4 3
    have Q := Lib.hid (psame S4.out (HS.out.below B4.out))
    simp only [decide_true] at Q
    have W := Lib.hid (fun w' (hb : Below w.heap.size w w') => works_any (HE.out.below hb))
    clear hb4 hb4' P2 S3 X3 X4 hx4
    go_wp2_with fail
    refine (Q.out).mono ?_; rintro e w5 ⟨rfl, hb5⟩
    have B5 := Lib.hid (B4.out.trans (hb5.mono B4.out.size))
    have W5 := Lib.hid (W.out _ B5.out)
    clear hb5 Q W
    go_wp2_with fail
    refine (W5.out).mono ?_; rintro e w6 ⟨rfl, hb6⟩
    have B6 := Lib.hid (B5.out.trans (hb6.mono B5.out.size))
    clear hb6 W5
    go_wp2_with fail
    go_ret
    exact ⟨rfl, B6.out⟩
end Go.Proofs.YtabihdhgonnihaaDoor

/- CodecOne: the walk. -/
import Derived.Test.YthnoihdojinocaaZn
namespace Go.Proofs.Ythnoihdojinocaa
open Go.ChangeShapes Go.WideShapes Go.ChangeAt Go.RowKit
set_option linter.unusedVariables false
set_option linter.unusedSimpArgs false

set_option maxRecDepth 100000 in
set_option maxHeartbeats 8000000 in
theorem one_law (a : Option Addr) (n c : Nat) (zs : List Int) (w : World) (h : IsInts .u8 w a n c zs) :
    Calls Try.prog 7 #[.slice a n c] w fun e w' => e = .returned (.bool true) ∧ Below w.heap.size w w' := by
  obtain ⟨b, hS, hb⟩ := ints_by h
  have hn := hS.u8; have hnc := hS.hle; have hmx := hS.hmax
  unfold maxLen at hmx
  by_cases hl : 5000 < n
  · have W := Lib.hid (works_any w)
    have e1 : decide ((5000 : Int) < (n : Int)) = true := by simp; omega
    have e2 : decide (5000 < n) = true := by simp; omega
    clear h hS hb hn
    go_enter Try.func7, Try.ntmps7
    go_wp2_with fail
    refine (W.out).mono ?_; rintro e w1 ⟨rfl, hb⟩
    have B := Lib.hid hb
    clear hb
    go_wp2_with fail
    go_ret
    exact ⟨rfl, B.out⟩
  · have e1 : decide ((5000 : Int) < (n : Int)) = false := by simp; omega
    have e2 : decide (5000 < n) = false := by simp; omega
    have P1 := Lib.hid (pget hS hb)
    cases hg : get b with
    | none =>
      rw [hg] at P1
      clear h hS hb hn hl hg
      go_enter Try.func7, Try.ntmps7
      go_wp2_with fail
      refine (P1.out).mono ?_; rintro e w1 ⟨ad, cd, ab, cb, rfl, hls, hb1⟩
      have LS := Lib.hid hls
      have B1 := Lib.hid hb1
      have A2 := Lib.hid (Below.alloc (Below.refl w1.heap.size w1) (Nat.le_refl _) (.cells #[.int .i64 0, .int .u64 0, .int .u64 0, .int .i64 0, .int .i64 0, .slice ad 0 cd, .slice ab 0 cb] 27))
      have B2 := Lib.hid (hb1.trans (A2.out.mono hb1.size))
      have C : Hid (Calls Try.prog 23 #[.agg #[.int .i64 0, .int .u64 0, .int .u64 0, .int .i64 0, .int .i64 0, .slice ad 0 cd, .slice ab 0 cb], .agg #[.int .i64 0, .int .u64 0, .int .u64 0, .int .i64 0, .int .i64 0, .slice none 0 0, .slice none 0 0]] (w1.alloc (.cells #[.int .i64 0, .int .u64 0, .int .u64 0, .int .i64 0, .int .i64 0, .slice ad 0 cd, .slice ab 0 cb] 27)) fun e w' => e = .returned (.bool true) ∧ Below (w1.alloc (.cells #[.int .i64 0, .int .u64 0, .int .u64 0, .int .i64 0, .int .i64 0, .slice ad 0 cd, .slice ab 0 cb] 27)).heap.size (w1.alloc (.cells #[.int .i64 0, .int .u64 0, .int .u64 0, .int .i64 0, .int .i64 0, .slice ad 0 cd, .slice ab 0 cb] 27)) w') :=
        Lib.hid (cmd_yes (c := nul 0) (LS.out.keep A2.out) ⟨IsSl.nil _, IsSl.nil _⟩)
      clear hls hb1 P1
      simp only [getV, nul, cmV, List.length_nil]
      go_wp2_with fail
      refine (C.out).mono ?_; rintro e w3 ⟨rfl, hb3⟩
      have B3 := Lib.hid (B2.out.trans (hb3.mono B2.out.size))
      have W := Lib.hid (works_any w3)
      clear hb3 C
      go_wp2_with fail
      refine (W.out).mono ?_; rintro e w4 ⟨rfl, hb4⟩
      have B4 := Lib.hid (B3.out.trans (hb4.mono B3.out.size))
      clear hb4 W
      go_wp2_with fail
      go_ret
      exact ⟨rfl, B4.out⟩
    | some p =>
      obtain ⟨cm, nn⟩ := p
      obtain ⟨g1, g2, g3, g4, g5, g6⟩ := get_some hb hg
      rw [hg] at P1
      obtain ⟨-, -, -, hd4, hb4⟩ := chk_ok g2
      have hnn : nn ≤ n := by omega
      have hs := run_to Try.underlying29 size1 (a := a) (len := n) (cap := c) (h := (nn : Int)) (k := nn) rfl (by omega)
      have hSp := hS.part (l := 0) (r := nn) (m := c) (by omega) hnn (by omega) (Nat.le_refl _)
      have hfr : (ns b).take nn = ns (frm cm) := by
        have : b.take nn = frm cm := by
          conv => lhs; rw [g4]
          rw [g3, List.take_left]
        rw [← this]; simp [ns, List.map_take]
      rw [List.drop_zero, hfr, Nat.sub_zero, Nat.sub_zero] at hSp
      have SP := Lib.hid hSp
      have HOK := Lib.hid g1; have HCK := Lib.hid g2; have HD := Lib.hid hd4; have HB := Lib.hid hb4; have HN := Lib.hid g3
      generalize part a 0 c 1 = pa at *
      clear h hS hb hn hl hg g1 g2 g3 g4 g5 hSp hfr hd4 hb4
      go_enter Try.func7, Try.ntmps7
      go_wp2_with fail
      refine (P1.out).mono ?_; rintro e w1 ⟨ad, cd, ab, cb, rfl, hls, hb1⟩
      have LS : Hid (LsAt w1 cm ad cd ab cb) := Lib.hid hls
      have A2 := Lib.hid (Below.alloc (Below.refl w1.heap.size w1) (Nat.le_refl _) (.cells (cmV cm (.slice ad cm.d.length cd) (.slice ab cm.b.length cb)) 27))
      have B2 := Lib.hid (hb1.trans (A2.out.mono hb1.size))
      have PC := Lib.hid (pcheck_c (w := w1.alloc (.cells (cmV cm (.slice ad cm.d.length cd) (.slice ab cm.b.length cb)) 27)) (c := cm) (ad := ad) (ab := ab) (cd := cd) (cb := cb) (by have := HD.out; omega) (by have := HB.out; omega))
      rw [HCK.out] at PC
      have HX := Lib.hid (block_new w1 (.cells (cmV cm (.slice ad cm.d.length cd) (.slice ab cm.b.length cb)) 27))
      have hbw := hb1.size
      clear hls hb1 P1
      unfold cmV at *
      dsimp only [getV]
      go_wp2_with fail
      refine (PC.out).mono ?_; rintro e w2 ⟨rfl, hb2⟩
      have B3 := Lib.hid (B2.out.trans (hb2.mono B2.out.size))
      have hx2 := (hb2.block _ (lt_of_block HX.out)).trans HX.out
      have LS2 := Lib.hid ((LS.out.keep A2.out).keep hb2)
      have x0 : w2.cell? ⟨w1.heap.size, 0, none⟩ = some (.int .i64 cm.op) := cell_of hx2 0
      have x1 : w2.cell? ⟨w1.heap.size, 1, none⟩ = some (.int .u64 cm.u) := cell_of hx2 1
      have x2 : w2.cell? ⟨w1.heap.size, 2, none⟩ = some (.int .u64 cm.v) := cell_of hx2 2
      have x3 : w2.cell? ⟨w1.heap.size, 3, none⟩ = some (.int .i64 cm.w) := cell_of hx2 3
      have x4 : w2.cell? ⟨w1.heap.size, 4, none⟩ = some (.int .i64 cm.t) := cell_of hx2 4
      have x5 : w2.cell? ⟨w1.heap.size, 5, none⟩ = some (.slice ad cm.d.length cd) := cell_of hx2 5
      have x6 : w2.cell? ⟨w1.heap.size, 6, none⟩ = some (.slice ab cm.b.length cb) := cell_of hx2 6
      have PP := Lib.hid (pput LS2.out HOK.out (by have := HD.out; omega) (by have := HB.out; omega))
      clear hb2 PC hx2
      unfold cmV at PP
      go_wp2_with fail
      refine (PP.out).mono ?_; rintro e w3 ⟨v3, rfl, hb3, ho3, -⟩
      have hO3 := ho3 HCK.out
      obtain ⟨a3, c3, rfl, hS3⟩ := hO3.sl
      rw [HCK.out]
      have B4 := Lib.hid (B3.out.trans (hb3.mono B3.out.size))
      have Q := Lib.hid (bytes_yes hS3 (SP.out.below B4.out))
      generalize (ns (frm cm)).length = l3 at *
      clear ho3 hb3 hO3 hS3 PP x0 x1 x2 x3 x4 x5 x6
      go_wp2_with fail
      refine (Q.out).mono ?_; rintro e w5 ⟨rfl, hb5⟩
      have B5 := Lib.hid (B4.out.trans (hb5.mono B4.out.size))
      have W := Lib.hid (works_any w5)
      clear hb5 Q
      go_wp2_with fail
      refine (W.out).mono ?_; rintro e w6 ⟨rfl, hb6⟩
      have B6 := Lib.hid (B5.out.trans (hb6.mono B5.out.size))
      clear hb6 W
      go_wp2_with fail
      go_ret
      exact ⟨rfl, B6.out⟩
end Go.Proofs.Ythnoihdojinocaa

/- CodecGets: the walk. -/
import Derived.Test.YthnoihdojinocaaZj
import Derived.Test.YthnoihdojinocaaZk
import Derived.Test.YthnoihdojinocaaZl
namespace Go.Proofs.Ythnoihdojinocaa
open Go.ChangeShapes Go.WideShapes Go.ChangeAt Go.RowKit
set_option linter.unusedVariables false
set_option linter.unusedSimpArgs false

theorem ints_by {w : World} {a : Option Addr} {n c : Nat} {zs : List Int} (h : IsInts .u8 w a n c zs) : ∃ b : List Nat, IsK .u8 w a n c (ns b) ∧ By b := by
  have hw : ∀ x ∈ zs, 0 ≤ x ∧ x < 256 := fun x hx => by
    have := h.wf x hx
    simp only [Lit.wf, Bool.and_eq_true, decide_eq_true_eq] at this
    rw [show IntKind.u8.min = 0 from rfl, show IntKind.u8.max = 255 from rfl] at this
    omega
  have hz : zs = ns (zs.map Int.toNat) := by
    unfold ns
    rw [List.map_map]
    conv => lhs; rw [← List.map_id zs]
    refine List.map_congr_left (fun x hx => ?_)
    have := hw x hx
    show x = ((x.toNat : Nat) : Int)
    omega
  refine ⟨zs.map Int.toNat, by rw [← hz]; exact h.sl, fun x hx => ?_⟩
  obtain ⟨y, hy, rfl⟩ := List.mem_map.1 hx
  have := hw y hy
  omega
set_option maxRecDepth 100000 in
set_option maxHeartbeats 8000000 in
theorem gets_law (a : Option Addr) (n c : Nat) (zs : List Int) (w : World) (h : IsInts .u8 w a n c zs) :
    Calls Try.prog 4 #[.slice a n c] w fun e w' => e = .returned (.bool true) ∧ Below w.heap.size w w' := by
  obtain ⟨b, hS, hb⟩ := ints_by h
  have hn := hS.u8; have hnc := hS.hle; have hmx := hS.hmax
  unfold maxLen at hmx
  have HS := Lib.hid hS
  by_cases hl : 5000 < n
  · have W := Lib.hid (works_any w)
    have e1 : decide ((5000 : Int) < (n : Int)) = true := by simp; omega
    have e2 : decide (5000 < n) = true := by simp; omega
    clear h hS hb hn HS
    go_enter Try.func4, Try.ntmps4
    go_wp2_with fail
    refine (W.out).mono ?_; rintro e w1 ⟨rfl, hb⟩
    have B := Lib.hid hb
    clear hb
    go_wp2_with fail
    go_ret
    exact ⟨rfl, B.out⟩
  · have e1 : decide ((5000 : Int) < (n : Int)) = false := by simp; omega
    have e2 : decide (5000 < n) = false := by simp; omega
    have P1 := Lib.hid (pget hS hb)
    have P2 : Hid (∀ w2, Below w.heap.size w w2 → Calls Try.prog 22 #[.slice a n c] w2 (GetR w2 (getV (get b)))) := Lib.hid (fun w2 h2 => rget (hS.below h2) hb (by omega))
    generalize getV (get b) = V at *
    obtain ⟨cm, nn, er⟩ := V
    clear h hS hb hn HS hl
    go_enter Try.func4, Try.ntmps4
    go_wp2_with fail
    refine (P1.out).mono ?_; rintro e w1 ⟨ad, cd, ab, cb, rfl, hls, hb1⟩
    have LS : Hid (LsAt w1 cm ad cd ab cb) := Lib.hid hls
    have A2 := Lib.hid (Below.alloc (Below.refl w1.heap.size w1) (Nat.le_refl _) (.cells (cmV cm (.slice ad cm.d.length cd) (.slice ab cm.b.length cb)) 27))
    have B2 := Lib.hid (hb1.trans (A2.out.mono hb1.size))
    have P3 := Lib.hid (P2.out _ B2.out)
    have HX := Lib.hid (block_new w1 (.cells (cmV cm (.slice ad cm.d.length cd) (.slice ab cm.b.length cb)) 27))
    have hbw := hb1.size
    clear hls hb1 P1 P2
    unfold cmV at *
    dsimp only
    go_wp2_with fail
    refine (P3.out).mono ?_; rintro e w2 ⟨ad', cd', ab', cb', rfl, hls, hb2⟩
    have LS2 : Hid (LsAt w2 cm ad' cd' ab' cb') := Lib.hid hls
    have hx2 := (hb2.block _ (lt_of_block HX.out)).trans HX.out
    have LS1 := Lib.hid ((LS.out.keep A2.out).keep hb2)
    have B3 := Lib.hid (B2.out.trans (hb2.mono B2.out.size))
    have HX2 := Lib.hid hx2
    have hxl := lt_of_block hx2
    have HXL := Lib.hid hxl
    have A3 := Lib.hid (Below.alloc (Below.refl w2.heap.size w2) (Nat.le_refl _) (.cells (cmV cm (.slice ad' cm.d.length cd') (.slice ab' cm.b.length cb')) 27))
    have C := Lib.hid (cmd_yes (LS1.out.keep A3.out) (LS2.out.keep A3.out))
    have B4 := Lib.hid (B3.out.trans (A3.out.mono B3.out.size))
    have x0 : w2.cell? ⟨w1.heap.size, 0, none⟩ = some (.int .i64 cm.op) := cell_of hx2 0
    have x1 : w2.cell? ⟨w1.heap.size, 1, none⟩ = some (.int .u64 cm.u) := cell_of hx2 1
    have x2 : w2.cell? ⟨w1.heap.size, 2, none⟩ = some (.int .u64 cm.v) := cell_of hx2 2
    have x3 : w2.cell? ⟨w1.heap.size, 3, none⟩ = some (.int .i64 cm.w) := cell_of hx2 3
    have x4 : w2.cell? ⟨w1.heap.size, 4, none⟩ = some (.int .i64 cm.t) := cell_of hx2 4
    have x5 : w2.cell? ⟨w1.heap.size, 5, none⟩ = some (.slice ad cm.d.length cd) := cell_of hx2 5
    have x6 : w2.cell? ⟨w1.heap.size, 6, none⟩ = some (.slice ab cm.b.length cb) := cell_of hx2 6
    clear hls hb2 P3 hx2
    unfold cmV at *
    dsimp only
    go_wp2_with fail
    refine (C.out).mono ?_; rintro e w3 ⟨rfl, hb3⟩
    have B5 := Lib.hid (B4.out.trans (hb3.mono B4.out.size))
    have W := Lib.hid (works_any w3)
    clear hb3 C
    go_wp2_with fail
    refine (W.out).mono ?_; rintro e w4 ⟨rfl, hb4⟩
    have B6 := Lib.hid (B5.out.trans (hb4.mono B5.out.size))
    clear hb4 W
    go_wp2_with fail
    go_ret
    exact ⟨rfl, B6.out⟩
end Go.Proofs.Ythnoihdojinocaa

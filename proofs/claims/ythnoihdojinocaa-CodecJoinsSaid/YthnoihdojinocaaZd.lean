/- The document's Put. -/
import Derived.Test.YthnoihdojinocaaZc
import Derived.Test.YthnoihdojinocaaT
namespace Go.Proofs.Ythnoihdojinocaa
open Go.ChangeShapes Go.WideShapes Go.ChangeAt Go.RowKit
set_option linter.unusedVariables false
set_option linter.unusedSimpArgs false

set_option maxRecDepth 100000 in
set_option maxHeartbeats 8000000 in
theorem rput {w : World} {c : Cm} {ad ab : Option Addr} {cd cb : Nat} (hL : LsAt w c ad cd ab cb) (hc : c.ok) (hdl : c.d.length ≤ 1000000) (hbl : c.b.length ≤ 1000000) :
    Calls Try.prog 17 #[.agg (cmV c (.slice ad c.d.length cd) (.slice ab c.b.length cb))] w (PutR w c) := by
  obtain ⟨i0, hi, hz0, hz1, hz2⟩ := info_parts info5
  obtain ⟨W1, hW1⟩ : ∃ W1, W1 = w.alloc (.cells (cmV c (.slice ad c.d.length cd) (.slice ab c.b.length cb)) 27) := ⟨_, rfl⟩
  have A1 : Below w.heap.size w W1 := by rw [hW1]; exact Below.alloc (Below.refl _ _) (Nat.le_refl _) _
  have PC := Lib.hid (rcheck (w := W1) (ad := ad) (ab := ab) (cd := cd) (cb := cb) hdl hbl)
  have HX : Hid (W1.heap[w.heap.size]? = some (.cells (cmV c (.slice ad c.d.length cd) (.slice ab c.b.length cb)) 27 (0, 0))) := Lib.hid (by rw [hW1]; exact block_new _ _)
  have AW := Lib.hid A1
  have HW1 := Lib.hid hW1
  have HL := Lib.hid (hL.keep A1)
  have HS : Hid (w.heap.size < W1.heap.size) := Lib.hid (lt_of_block HX.out)
  obtain ⟨ck, hck⟩ : ∃ ck, chk c = ck := ⟨_, rfl⟩
  have HCK := Lib.hid hck
  rw [hck] at PC
  have HC := Lib.hid hc
  clear hL hc hck A1 hW1
  have x0 : W1.cell? ⟨w.heap.size, 0, none⟩ = some (.int .i64 c.op) := cell_of HX.out 0
  have x1 : W1.cell? ⟨w.heap.size, 1, none⟩ = some (.int .u64 c.u) := cell_of HX.out 1
  have x2 : W1.cell? ⟨w.heap.size, 2, none⟩ = some (.int .u64 c.v) := cell_of HX.out 2
  have x3 : W1.cell? ⟨w.heap.size, 3, none⟩ = some (.int .i64 c.w) := cell_of HX.out 3
  have x4 : W1.cell? ⟨w.heap.size, 4, none⟩ = some (.int .i64 c.t) := cell_of HX.out 4
  have x5 : W1.cell? ⟨w.heap.size, 5, none⟩ = some (.slice ad c.d.length cd) := cell_of HX.out 5
  have x6 : W1.cell? ⟨w.heap.size, 6, none⟩ = some (.slice ab c.b.length cb) := cell_of HX.out 6
  by_cases hk : ck = 0
  · subst hk
    obtain ⟨fs, hu, hz, hd, hb⟩ := chk_ok HCK.out
    have HPL := Lib.hid (pay_len HC.out hd hb hu)
    have HF : Hid (frm c = vi (pay c fs).length ++ pay c fs) := Lib.hid (by unfold frm; rw [hu]; rfl)
    have HPY : Hid (∀ w2, Below W1.heap.size W1 w2 → Calls Try.prog 38 #[.agg (cmV c (.slice ad c.d.length cd) (.slice ab c.b.length cb))] w2 (NwR w2 (pay c fs))) := Lib.hid (fun w2 h => rpay (HL.out.keep h) HC.out hd hb hu)
    generalize pay c fs = p at *
    clear hu hz hd hb hdl hbl
    unfold cmV at PC HPY HW1
    unfold cmV
    go_enter Try.func17, Try.ntmps17
    go_wp2_with fail
    rw [← HW1.out]
    refine (PC.out).mono ?_; rintro e w2 ⟨rfl, hb2⟩
    have B2 := Lib.hid hb2
    have P2 := Lib.hid (HPY.out w2 hb2)
    have y : ∀ i, w2.cell? ⟨w.heap.size, i, none⟩ = W1.cell? ⟨w.heap.size, i, none⟩ := fun i => hb2.cell (p := ⟨w.heap.size, i, none⟩) HS.out
    have y0 := (y 0).trans x0; have y1 := (y 1).trans x1; have y2 := (y 2).trans x2; have y3 := (y 3).trans x3; have y4 := (y 4).trans x4; have y5 := (y 5).trans x5; have y6 := (y 6).trans x6
    clear hb2 y x0 x1 x2 x3 x4 x5 x6
    go_wp2_with fail
    refine (P2.out).mono ?_; rintro e w3 ⟨v3, rfl, ho, hb3⟩
    obtain ⟨a3, c3, rfl, hS3⟩ := ho.sl
    rw [ns_len] at hS3 ⊢
    generalize hpl : p.length = pl at *
    have HPL2 := Lib.hid hpl
    have hpl1 := HPL.out
    have P3 := Lib.hid (rpu (nil8 w3) (x := pl) (by omega) (Nat.zero_le _))
    have S3 := Lib.hid hS3
    have B3 := Lib.hid (AW.out.trans ((B2.out.trans (hb3.mono B2.out.size)).mono AW.out.size))
    have hvl := vi_len (x := pl) (by omega)
    have HVL := Lib.hid hvl
    clear ho hb3 hS3 hpl y0 y1 y2 y3 y4 y5 y6 hvl
    go_wp2_with fail
    refine (P3.out).mono ?_; rintro e w4 ⟨v4, rfl, ho, hb4⟩
    have S4 := Lib.hid (S3.out.below hb4)
    have B4 := Lib.hid (B3.out.trans (hb4.mono B3.out.size))
    have O4 : Hid (OutR 1 (encK .u8) 5 w4 w.heap.size v4 (ns (vi pl))) := Lib.hid (ho.mono B3.out.size)
    have hB4 := B4.out.size
    obtain ⟨a4, c4, rfl, -⟩ := O4.out.sl
    clear ho hb4
    generalize hvl : (ns (vi pl)).length = vl at *
    have HVL2 := Lib.hid hvl
    clear hvl
    go_wp2_with (at_builtin; refine wpList_appS rfl (.tmp 16) (.tmp 17) 29 rfl 5 i0 .u8 1 Try.underlying29 hi hz0 hz1 hz2 (by decide) rfl O4.out hB4 S4.out rfl (by have := HVL.out; have := HPL.out; rw [ns_len]; omega) ?_)
    intro v5 w5 h1 h2 h3 h4
    have O5 : Hid (OutR 1 (encK .u8) 5 w5 w.heap.size v5 (ns (frm c))) := Lib.hid (by rw [HF.out, ns_cat]; exact h1)
    have B5 := Lib.hid (B4.out.trans h3)
    clear h1 h2 h3 h4
    go_wp2_with fail
    go_ret2
    exact ⟨v5, by rw [HCK.out]; rfl, B5.out, fun _ => O5.out, fun h => absurd HCK.out h⟩
  · have e1 : (ck == 0) = false := by simpa using hk
    have e2 : (ck != 0) = true := by simpa using hk
    have HK := Lib.hid hk
    clear hk
    unfold cmV at PC HW1
    unfold cmV
    go_enter Try.func17, Try.ntmps17
    go_wp2_with fail
    rw [← HW1.out]
    refine (PC.out).mono ?_; rintro e w2 ⟨rfl, hb2⟩
    have B2 := Lib.hid (AW.out.trans (hb2.mono AW.out.size))
    clear hb2
    go_wp2_with fail
    go_ret2
    exact ⟨_, by rw [HCK.out]; rfl, B2.out, fun h => absurd (HCK.out.symm.trans h) HK.out, fun _ => rfl⟩
end Go.Proofs.Ythnoihdojinocaa

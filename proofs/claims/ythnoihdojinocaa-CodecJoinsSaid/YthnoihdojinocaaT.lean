/- The frame of a command is appended, by the program. -/
import Derived.Test.YthnoihdojinocaaR
import Derived.Test.YthnoihdojinocaaU
namespace Go.Proofs.Ythnoihdojinocaa
open Go.ChangeShapes Go.WideShapes Go.ChangeAt Go.RowKit
set_option linter.unusedVariables false
set_option linter.unusedSimpArgs false

theorem cm_at {w w1 : World} {c : Cm} {ad ab : Option Addr} {cd cb : Nat} (hl : LsAt w c ad cd ab cb) (hc : c.ok) (hd : c.d.length ≤ 16384) (hb : c.b.length ≤ 1024)
    (h : Below (w.alloc (.cells (cmV c (.slice ad c.d.length cd) (.slice ab c.b.length cb)) 27)).heap.size (w.alloc (.cells (cmV c (.slice ad c.d.length cd) (.slice ab c.b.length cb)) 27)) w1) : CmAt w1 w1.heap.size w.heap.size c := by
  have hA : Below w.heap.size w (w.alloc (.cells (cmV c (.slice ad c.d.length cd) (.slice ab c.b.length cb)) 27)) := Below.alloc (Below.refl _ _) (Nat.le_refl _) _
  have h1 : LsAt w1 c ad cd ab cb := (hl.keep hA).keep h
  have hs : w.heap.size < (w.alloc (.cells (cmV c (.slice ad c.d.length cd) (.slice ab c.b.length cb)) 27)).heap.size := by simp
  refine ⟨⟨ad, cd, ab, cb, ?_, h1.d, h1.b, fun hne => h1.d.blt (ns_ne hne), fun hne => h1.b.blt hne⟩, Nat.lt_of_lt_of_le hs h.size, Nat.le_refl _, hc, hd, hb⟩
  rw [h.block _ hs]; exact block_new _ _
/-- A new writer, whose payload begins with a byte. -/
theorem kw_new (w : World) (o : Nat) : KWb w w.heap.size (w.heap.size + 1) [o] 1000 ((w.alloc (.cells #[.int .u8 (o : Int)] 5)).alloc (.cells #[.slice (some ⟨w.heap.size, 0, none⟩) 1 1] 75)) := by
  have h1 : OutR 1 (encK .u8) 5 ((w.alloc (.cells #[.int .u8 (o : Int)] 5)).alloc (.cells #[.slice (some ⟨w.heap.size, 0, none⟩) 1 1] 75)) w.heap.size (.slice (some ⟨w.heap.size, 0, none⟩) 1 1) (ns [o]) :=
    OutR.of_blk (k := .u8) (e := 5) (zs := ns [o]) (g := w.heap.size) (cap := 1) ⟨[], rfl, by decide, block_old (block_new w (.cells #[.int .u8 (o : Int)] 5)) _⟩ (Nat.le_refl _)
  have h2 := block_new (w.alloc (.cells #[.int .u8 (o : Int)] 5)) (.cells #[.slice (some ⟨w.heap.size, 0, none⟩) 1 1] 75)
  rw [show (w.alloc (.cells #[.int .u8 (o : Int)] 5)).heap.size = w.heap.size + 1 by simp] at h2
  exact ⟨⟨⟨_, h2, h1, fun e => by have e' : some w.heap.size = some (w.heap.size + 1) := e; injection e' with e'; omega⟩, (Below.alloc (Below.refl _ _) (Nat.le_refl _) _).alloc (by simp) _, by omega⟩, by simp⟩
theorem ApW.pre {B : Nat} {v v' : Value} {zs : List Nat} {w w2 w' : World} (hb : Below w.heap.size w w2) (hB : B ≤ w.heap.size) (h : ApW B v w2 v' zs w') : ApW B v w v' zs w' :=
  ⟨h.out, (Touch.of_below hb _).trans h.touch, (hb.mono hB).trans h.below, fun g hg => (h.blk g hg).imp id (fun e => Nat.le_trans hb.size e)⟩
def AfR (B : Nat) (v : Value) (w : World) (zs : List Nat) (c : Cm) (e : Ending) (w' : World) : Prop :=
  ∃ v', e = .returned (.tuple #[v', .int .i64 (chk c)]) ∧ Below B w w' ∧ (chk c = 0 → ApW B v w v' (zs ++ frm c) w') ∧ (chk c ≠ 0 → v' = .slice none 0 0)
set_option maxRecDepth 100000 in
set_option maxHeartbeats 8000000 in
theorem paf {B : Nat} {w : World} {v : Value} {zs : List Nat} {c : Cm} {ad ab : Option Addr} {cd cb : Nat} (hO : OutR 1 (encK .u8) 5 w B v (ns zs)) (hB : B ≤ w.heap.size) (hl : zs.length ≤ 5000000) (hL : LsAt w c ad cd ab cb) (hc : c.ok) (hdl : c.d.length ≤ 1000000) (hbl : c.b.length ≤ 1000000) :
    Calls Try.prog 37 #[v, .agg (cmV c (.slice ad c.d.length cd) (.slice ab c.b.length cb))] w (AfR B v w zs c) := by
  obtain ⟨i0, hi, hz0, hz1, hz2⟩ := info_parts info5
  have PC := Lib.hid (pcheck_c (w := w.alloc (.cells (cmV c (.slice ad c.d.length cd) (.slice ab c.b.length cb)) 27)) (ad := ad) (ab := ab) (cd := cd) (cb := cb) hdl hbl)
  have HA : Hid (Below w.heap.size w (w.alloc (.cells (cmV c (.slice ad c.d.length cd) (.slice ab c.b.length cb)) 27))) := Lib.hid (Below.alloc (Below.refl _ _) (Nat.le_refl _) _)
  have O := Lib.hid hO
  by_cases hk : chk c = 0
  · obtain ⟨fs, hu, hz, hd, hb⟩ := chk_ok hk
    have HU := Lib.hid hu
    have CA := Lib.hid (fun w1 h => cm_at (w1 := w1) hL hc hd hb h)
    have hop := (uses_some hu).1
    have hpl := pay_len hc hd hb hu
    have HK := Lib.hid hk
    have HP : Hid (pay c fs = [c.op.toNat] ++ fs.flatMap (encF c)) := Lib.hid rfl
    have HF : Hid (frm c = vi (pay c fs).length ++ pay c fs) := Lib.hid (by unfold frm; rw [hu]; rfl)
    rw [hk] at PC
    have HV := Lib.hid (fun w0 w1 B k zs h1 h2 => pvw (w0 := w0) (w := w1) (B := B) (k := k) (x := w.heap.size) (zs := zs) (c := c) h1 h2 hu)
    clear hO hL hc hk hu hz
    obtain ⟨o, ho⟩ : ∃ o : Nat, c.op = (o : Int) := ⟨c.op.toNat, by omega⟩
    have ho2 : (o : Int) % 256 = (o : Int) := by omega
    rw [ho, Int.toNat_natCast] at HP
    generalize pay c fs = p at *
    have HL := Lib.hid hl
    have HD := Lib.hid hd; have HB := Lib.hid hb; have HOP := Lib.hid hop; have HPL := Lib.hid hpl; have HO := Lib.hid ho; have HO2 := Lib.hid ho2
    clear hd hb hdl hbl hop hpl ho ho2 hl
    unfold cmV at *
    go_enter Try.func37, Try.ntmps37
    go_wp2_with fail
    refine (PC.out).mono ?_; rintro e w1 ⟨rfl, hb1⟩
    have B1 := Lib.hid hb1
    have C1 := Lib.hid (CA.out _ hb1)
    have xo : w1.cell? ⟨w.heap.size, 0, none⟩ = some (.int .i64 (o : Int)) := by
      obtain ⟨ad', cd', ab', cb', h1, _⟩ := C1.out.cells
      rw [cell_of h1, ← HO.out]; rfl
    have ho2 := HO2.out
    have BW : Hid (Below w.heap.size w w1 ∧ w.heap.size < w1.heap.size) := Lib.hid ⟨HA.out.trans (hb1.mono HA.out.size), Nat.lt_of_lt_of_le (by simp) hb1.size⟩
    have V := Lib.hid (HV.out w1 _ w1.heap.size (w1.heap.size + 1) [o] C1.out (kw_new w1 o))
    rw [← HP.out] at V
    clear hb1 PC HA CA HV C1 HP B1
    go_wp2_with fail
    refine (V.out).mono ?_; rintro e w2 ⟨rfl, hkw⟩
    obtain ⟨⟨v2, h1, h2, h3⟩, h4, h5⟩ := hkw
    have BT : Hid (Below w.heap.size w w2) := Lib.hid (BW.out.1.trans (h4.mono BW.out.1.size))
    have hB2 : B ≤ w2.heap.size := Nat.le_trans hB BT.out.size
    obtain ⟨a2, c2, rfl, hS⟩ := h2.sl
    have k0 : w2.cell? ⟨w1.heap.size + 1, 0, none⟩ = some (.slice a2 (ns p).length c2) := cell_of h1 0
    have P := Lib.hid (pau (O.out.below BT.out) hB2 (x := p.length) (by have := HPL.out; omega) (by have := HL.out; omega))
    have HK1 := Lib.hid h1; have HS := Lib.hid hS; have HBK := Lib.hid h2.blk
    rw [ns_len] at k0
    rw [ns_len] at HS HBK
    generalize hpq : p.length = pl at *
    have HPQ := Lib.hid hpq
    have hpl1 := HPL.out
    clear h1 h2 h3 h4 h5 hS hpq V xo ho2
    go_wp2_with fail
    refine (P.out).mono ?_; rintro e w3 ⟨v3, rfl, hap⟩
    obtain ⟨a3, c3, rfl⟩ := own_shape hap.out.row
    have hS3 : IsK .u8 w3 a2 pl c2 (ns p) := HS.out.keep hap.touch (fun hne x hx e => by
      have h1 := own_lt O.out.row e
      have h2 := HBK.out x.block (by rw [hx]; rfl)
      have := BW.out.2
      omega)
    have k1 : w3.cell? ⟨w1.heap.size + 1, 0, none⟩ = some (.slice a2 pl c2) := by
      have := hap.touch.keep HK1.out (fun e => by have h1 := own_lt O.out.row e; have := BW.out.2; omega)
      rw [cell_of this, ns_len, HPQ.out]; rfl
    have AP := Lib.hid hap; have S3 := Lib.hid hS3
    have hB3 : B ≤ w3.heap.size := Nat.le_trans hB2 hap.touch.size
    have hvl := vi_len (x := pl) (by have := HPL.out; omega)
    have hln : (ns (zs ++ vi pl)).length + pl ≤ 1099511627776 := by have := HPL.out; have := HL.out; rw [ns_len, List.length_append]; omega
    have HLN := Lib.hid hln
    clear hap hS3 k0 hvl hln
    go_wp2_with (at_builtin; refine wpList_appS rfl (.tmp 30) (.tmp 34) 29 rfl 5 i0 .u8 1 Try.underlying29 hi hz0 hz1 hz2 (by decide) rfl AP.out.out hB3 S3.out rfl HLN.out ?_)
    intro v5 w5 h1 h2 h3 h4
    have AP5 : Hid (ApW B v w v5 (zs ++ frm c) w5) := Lib.hid (ApW.pre BT.out hB (AP.out.trans ⟨by rw [HF.out, ← List.append_assoc, ns_cat (zs ++ vi pl)]; exact h1, h2, h3, h4⟩))
    clear h1 h2 h3 h4
    go_wp2_with fail
    go_ret2
    exact ⟨v5, by rw [HK.out]; rfl, AP5.out.below, fun _ => AP5.out, fun h => absurd HK.out h⟩
  · have HK := Lib.hid hk
    have e1 : (chk c == 0) = false := by simpa using hk
    have e2 : (chk c != 0) = true := by simpa using hk
    generalize hck : chk c = ck at *
    have HCK := Lib.hid hck
    clear hck hO hL hc hk
    unfold cmV at *
    go_enter Try.func37, Try.ntmps37
    go_wp2_with fail
    refine (PC.out).mono ?_; rintro e w1 ⟨rfl, hb1⟩
    have BW : Hid (Below w.heap.size w w1) := Lib.hid (HA.out.trans (hb1.mono HA.out.size))
    clear hb1 HA
    go_wp2_with fail
    go_ret2
    exact ⟨_, by rw [HCK.out]; rfl, BW.out.mono hB, fun h => absurd (HCK.out.symm.trans h) HK.out, fun _ => rfl⟩
theorem own_nil (w : World) (B : Nat) : OutR 1 (encK .u8) 5 w B (.slice none 0 0) (ns []) := ⟨⟨rfl, Or.inl ⟨rfl, rfl⟩⟩, fun g h => by cases h⟩
def PutR (w : World) (c : Cm) (e : Ending) (w' : World) : Prop :=
  ∃ v', e = .returned (.tuple #[v', .int .i64 (chk c)]) ∧ Below w.heap.size w w' ∧ (chk c = 0 → OutR 1 (encK .u8) 5 w' w.heap.size v' (ns (frm c))) ∧ (chk c ≠ 0 → v' = .slice none 0 0)
set_option maxRecDepth 100000 in
set_option maxHeartbeats 8000000 in
theorem pput {w : World} {c : Cm} {ad ab : Option Addr} {cd cb : Nat} (hL : LsAt w c ad cd ab cb) (hc : c.ok) (hdl : c.d.length ≤ 1000000) (hbl : c.b.length ≤ 1000000) :
    Calls Try.prog 16 #[.agg (cmV c (.slice ad c.d.length cd) (.slice ab c.b.length cb))] w (PutR w c) := by
  have HA : Hid (Below w.heap.size w (w.alloc (.cells (cmV c (.slice ad c.d.length cd) (.slice ab c.b.length cb)) 27))) := Lib.hid (Below.alloc (Below.refl _ _) (Nat.le_refl _) _)
  have P := Lib.hid (paf (own_nil (w.alloc (.cells (cmV c (.slice ad c.d.length cd) (.slice ab c.b.length cb)) 27)) w.heap.size) HA.out.size (by simp) (hL.keep HA.out) hc hdl hbl)
  have HCK : Hid (frm c = [] ++ frm c) := Lib.hid rfl
  clear hL hc hdl hbl
  unfold cmV at *
  go_enter Try.func16, Try.ntmps16
  go_wp2_with fail
  refine (P.out).mono ?_; rintro e w1 ⟨v1, rfl, hb, h1, h2⟩
  have B1 := Lib.hid (HA.out.trans (hb.mono (Nat.le_refl _)))
  have H1 := Lib.hid h1; have H2 := Lib.hid h2
  clear hb h1 h2 P
  go_wp2_with fail
  go_ret2
  exact ⟨v1, rfl, B1.out, fun h => (H1.out h).out, H2.out⟩
end Go.Proofs.Ythnoihdojinocaa

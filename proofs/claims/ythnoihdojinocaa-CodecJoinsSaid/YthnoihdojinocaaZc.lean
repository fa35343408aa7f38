/- The document's payload. -/
import Derived.Test.YthnoihdojinocaaZb
import Derived.Test.YthnoihdojinocaaU
namespace Go.Proofs.Ythnoihdojinocaa
open Go.ChangeShapes Go.WideShapes Go.ChangeAt Go.RowKit
set_option linter.unusedVariables false
set_option linter.unusedSimpArgs false

theorem OutR.mono {α : Type} {sz : Nat} {enc : α → List Value} {e : TypeId} {w : World} {B B' : Nat} {v : Value} {zs : List α} (h : OutR sz enc e w B v zs) (hB : B' ≤ B) : OutR sz enc e w B' v zs := ⟨h.row, fun g hg => Nat.le_trans hB (h.blk g hg)⟩
theorem flat_le2 {α : Type} {g : α → List Nat} {fs : List α} (i : Nat) : ((fs.take i).flatMap g).length ≤ (fs.flatMap g).length := by
  have := congrArg (fun l : List α => (l.flatMap g).length) (List.take_append_drop i fs)
  simp only [List.flatMap_append, List.length_append] at this
  omega
theorem flat_next {α : Type} {g : α → List Nat} {fs : List α} {i : Nat} (h : i < fs.length) : (fs.take (i + 1)).flatMap g = (fs.take i).flatMap g ++ g fs[i] := by
  rw [List.take_succ_eq_append_getElem h, List.flatMap_append]; simp
/-- The letter, as the walk has it. -/
def ltI : Fd → Int
  | .u => 117 | .v => 118 | .w => 119 | .t => 116 | .d => 100 | .b => 98
theorem lt_I (f : Fd) : ((lt f : Nat) : Int) = ltI f := by cases f <;> rfl
/-- The bytes so far, a row of the call's own; nothing that lay there has changed. -/
structure Pw (W1 : World) (zs : List Nat) (v : Value) (wr : World) : Prop where
  out : OutR 1 (encK .u8) 5 wr W1.heap.size v (ns zs)
  below : Below W1.heap.size W1 wr
def PyRel (W1 : World) (c : Cm) (fs : List Fd) (v3 v6 _v7 _v8 : Value) (wr : World) : Prop := ∃ i : Nat, i ≤ fs.length ∧ v6 = .int .i64 i ∧ Pw W1 (c.op.toNat :: (fs.take i).flatMap (encF c)) v3 wr
def PdRel {α : Type} (W1 : World) (pre : List Nat) (g : α → List Nat) (l : List α) (v3 v7 : Value) (wr : World) : Prop := ∃ k : Nat, k ≤ l.length ∧ v7 = .int .i64 k ∧ Pw W1 (pre ++ (l.take k).flatMap g) v3 wr
theorem nil8 (w : World) : IsK .u8 w none 0 0 (ns []) := IsSl.nil w
theorem pw_new {w W1 : World} {v : Value} {zs : List Nat} {wr : World} (h : Pw W1 zs v w) {x : List Nat} {v' : Value} (ho : OutR 1 (encK .u8) 5 wr w.heap.size v' (ns (zs ++ x))) (hb : Below w.heap.size w wr) : Pw W1 (zs ++ x) v' wr :=
  ⟨ho.mono h.below.size, h.below.trans (hb.mono h.below.size)⟩
theorem Pw.sl {W1 : World} {v : Value} {zs : List Nat} {wr : World} (h : Pw W1 zs v wr) : ∃ a cap, v = .slice a zs.length cap ∧ IsK .u8 wr a zs.length cap (ns zs) := by
  obtain ⟨a, cap, h1, h2⟩ := h.out.sl
  rw [ns_len] at h1 h2
  exact ⟨a, cap, h1, h2⟩
set_option maxRecDepth 100000 in
set_option maxHeartbeats 40000000 in
theorem rpay {w : World} {c : Cm} {ad ab : Option Addr} {cd cb : Nat} {fs : List Fd} (hL : LsAt w c ad cd ab cb) (hc : c.ok) (hd : c.d.length ≤ 16384) (hb : c.b.length ≤ 1024) (hu : uses c.op = some fs) :
    Calls Try.prog 38 #[.agg (cmV c (.slice ad c.d.length cd) (.slice ab c.b.length cb))] w (NwR w (pay c fs)) := by
  obtain ⟨i0, hi, hz0, hz1, hz2⟩ := info_parts info5
  have A1 : Below w.heap.size w (w.alloc (.cells (cmV c (.slice ad c.d.length cd) (.slice ab c.b.length cb)) 27)) := Below.alloc (Below.refl _ _) (Nat.le_refl _) _
  have hpl := pay_len hc hd hb hu
  obtain ⟨p, hp⟩ : ∃ p, p = pay c fs := ⟨_, rfl⟩
  rw [← hp] at hpl ⊢
  have HP : Hid (p = c.op.toNat :: fs.flatMap (encF c)) := Lib.hid hp
  have HPL := Lib.hid hpl
  have HPR : Hid (∀ i, (c.op.toNat :: (fs.take i).flatMap (encF c)).length ≤ 1000000) := Lib.hid (fun i => by
    have h1 := flat_le2 (g := encF c) (fs := fs) i
    have h2 := hpl
    rw [hp] at h2
    unfold pay at h2
    rw [List.length_cons] at h2 ⊢; omega)
  have hop := (uses_some hu).1
  have HFL := Lib.hid (uses_len hu)
  obtain ⟨W1, hW1⟩ : ∃ W1, W1 = w.alloc (.cells (cmV c (.slice ad c.d.length cd) (.slice ab c.b.length cb)) 27) := ⟨_, rfl⟩
  rw [← hW1] at A1
  have AW := Lib.hid A1
  have HL := Lib.hid (hL.keep A1)
  have HX : Hid (W1.heap[w.heap.size]? = some (.cells (cmV c (.slice ad c.d.length cd) (.slice ab c.b.length cb)) 27 (0, 0))) := Lib.hid (by rw [hW1]; exact block_new _ _)
  have HWS : Hid (w.heap.size < W1.heap.size) := Lib.hid (by rw [hW1]; simp)
  have HSZ : Hid (W1.heap.size = w.heap.size + 1) := Lib.hid (by rw [hW1]; simp)
  have U := Lib.hid (ruses c.op (W1.alloc (.cells #[.int .u8 c.op] 5)))
  rw [hu] at U
  have P0 : Hid (Pw W1 [c.op.toNat] (.slice (some ⟨w.heap.size + 1, 0, none⟩) 1 1) (W1.alloc (.cells #[.int .u8 c.op] 5))) := Lib.hid (by rw [← HSZ.out]; exact ⟨OutR.of_blk (k := .u8) (e := 5) (zs := ns [c.op.toNat]) (g := W1.heap.size) (cap := 1) ⟨[], rfl, by decide, by rw [block_new]; simp [vs, ns]; omega⟩ (Nat.le_refl _), Below.alloc (Below.refl _ _) (Nat.le_refl _) _⟩)
  have HC := Lib.hid hc; have HD := Lib.hid hd; have HB := Lib.hid hb
  have x0 : W1.cell? ⟨w.heap.size, 0, none⟩ = some (.int .i64 c.op) := cell_of HX.out 0
  have ho2 : c.op % 256 = c.op := by omega
  have HW1 := Lib.hid hW1
  clear hW1 A1 hL hc hd hb hu hpl hp
  unfold cmV at HW1
  unfold cmV
  go_enter Try.func38, Try.ntmps38
  go_wp2_with fail
  rw [← HW1.out]
  refine (U.out).mono ?_; rintro e w2 ⟨⟨s, rfl, hS⟩, rfl⟩
  have S := Lib.hid hS
  have hs := hS.size
  obtain ⟨n, hn⟩ : ∃ n, n = fs.length := ⟨_, rfl⟩
  rw [← hn] at hs
  have HN := Lib.hid hn
  have hn9 : n ≤ 1000 := by have := HFL.out; omega
  clear hS U hn x0 ho2 hop
  go_wp2_with fail
  go_loopw [3, 6, 7, 8] (fun v3 v6 v7 v8 wr => PyRel W1 c fs v3 v6 v7 v8 wr) (fun _ v6 _ _ _ => n - (intOf v6).toNat)
  case atStart => exact ⟨0, Nat.zero_le _, rfl, P0.out⟩
  case round =>
    clear P0
    obtain ⟨i, hi0, rfl, hpw⟩ := hrel
    have PW := Lib.hid hpw
    have hin : i ≤ n := by rw [HN.out]; exact hi0
    clear hpw hi0
    by_cases hlt : i < n
    · have hx := S.out.at_ i (by have := HN.out; omega)
      have NXT : Hid (c.op.toNat :: (fs.take (i + 1)).flatMap (encF c) = (c.op.toNat :: (fs.take i).flatMap (encF c)) ++ encF c (fs.getD i .u)) := Lib.hid (by
        have h2 : i < fs.length := by have := HN.out; omega
        rw [flat_next h2]; simp [h2])
      have hpr := HPR.out i
      rw [lt_I] at hx
      generalize fs.getD i .u = f at *
      generalize c.op.toNat :: (fs.take i).flatMap (encF c) = pre at *
      obtain ⟨a3, c3, rfl, hS3⟩ := PW.out.sl
      have S3 := Lib.hid hS3
      have HPRE := Lib.hid hpr
      have hw64 := PW.out.below.size
      clear hS3
      cases f
      case u =>
        have x1 : wr.cell? ⟨w.heap.size, 1, none⟩ = some (.int .u64 c.u) := by rw [PW.out.below.cell (p := ⟨w.heap.size, 1, none⟩) HWS.out]; exact cell_of HX.out 1
        have P := Lib.hid (rpu S3.out HC.out.u hpr)
        generalize pre.length = pl at *
        simp only [ltI] at hx
        clear hpr
        go_wp2_with fail
        refine (P.out).mono ?_; rintro e w5 ⟨v5, rfl, ho, hb⟩
        have PW5 := Lib.hid (pw_new PW.out ho hb)
        clear ho hb
        go_wp2_with fail
        go_roundw
        case rel => exact ⟨i + 1, by have := HN.out; omega, by go_num, by rw [NXT.out]; exact PW5.out⟩
        case measure => simp [intOf]; omega
      case v =>
        have x1 : wr.cell? ⟨w.heap.size, 2, none⟩ = some (.int .u64 c.v) := by rw [PW.out.below.cell (p := ⟨w.heap.size, 2, none⟩) HWS.out]; exact cell_of HX.out 2
        have P := Lib.hid (rpu S3.out HC.out.v hpr)
        generalize pre.length = pl at *
        simp only [ltI] at hx
        clear hpr
        go_wp2_with fail
        refine (P.out).mono ?_; rintro e w5 ⟨v5, rfl, ho, hb⟩
        have PW5 := Lib.hid (pw_new PW.out ho hb)
        clear ho hb
        go_wp2_with fail
        go_roundw
        case rel => exact ⟨i + 1, by have := HN.out; omega, by go_num, by rw [NXT.out]; exact PW5.out⟩
        case measure => simp [intOf]; omega
      case w =>
        have x1 : wr.cell? ⟨w.heap.size, 3, none⟩ = some (.int .i64 c.w) := by rw [PW.out.below.cell (p := ⟨w.heap.size, 3, none⟩) HWS.out]; exact cell_of HX.out 3
        have P := Lib.hid (rpi S3.out HC.out.w hpr)
        generalize pre.length = pl at *
        simp only [ltI] at hx
        clear hpr
        go_wp2_with fail
        refine (P.out).mono ?_; rintro e w5 ⟨v5, rfl, ho, hb⟩
        have PW5 := Lib.hid (pw_new PW.out ho hb)
        clear ho hb
        go_wp2_with fail
        go_roundw
        case rel => exact ⟨i + 1, by have := HN.out; omega, by go_num, by rw [NXT.out]; exact PW5.out⟩
        case measure => simp [intOf]; omega
      case t =>
        have x1 : wr.cell? ⟨w.heap.size, 4, none⟩ = some (.int .i64 c.t) := by rw [PW.out.below.cell (p := ⟨w.heap.size, 4, none⟩) HWS.out]; exact cell_of HX.out 4
        have P := Lib.hid (rpi S3.out HC.out.t hpr)
        generalize pre.length = pl at *
        simp only [ltI] at hx
        clear hpr
        go_wp2_with fail
        refine (P.out).mono ?_; rintro e w5 ⟨v5, rfl, ho, hb⟩
        have PW5 := Lib.hid (pw_new PW.out ho hb)
        clear ho hb
        go_wp2_with fail
        go_roundw
        case rel => exact ⟨i + 1, by have := HN.out; omega, by go_num, by rw [NXT.out]; exact PW5.out⟩
        case measure => simp [intOf]; omega
      case d =>
        have x1 : wr.cell? ⟨w.heap.size, 5, none⟩ = some (.slice ad c.d.length cd) := by rw [PW.out.below.cell (p := ⟨w.heap.size, 5, none⟩) HWS.out]; exact cell_of HX.out 5
        have hdl := HD.out
        have P := Lib.hid (rpu S3.out (x := c.d.length) (by omega) hpr)
        obtain ⟨dl, hdl2⟩ : ∃ dl, dl = c.d.length := ⟨_, rfl⟩
        rw [← hdl2] at x1 P hdl
        have HDL := Lib.hid hdl2
        simp only [ltI] at hx
        have HPRE := Lib.hid hpr
        clear hpr hdl2
        generalize hpl : pre.length = pl at *
        have HPL2 := Lib.hid hpl
        clear hpl
        go_wp2_with fail
        refine (P.out).mono ?_; rintro e w5 ⟨v5, rfl, ho, hb⟩
        have PW5 := Lib.hid (pw_new PW.out ho hb)
        clear ho hb x1
        go_wp2_with fail
        go_loopw [3, 7] (fun v3 v7 wr => PdRel W1 (pre ++ vi dl) vi c.d v3 v7 wr) (fun _ v7 _ => dl - (intOf v7).toNat)
        case atStart => exact ⟨0, Nat.zero_le _, rfl, by simpa using PW5.out⟩
        case round =>
          clear PW5 P hx
          obtain ⟨k, hk, rfl, hpw2⟩ := hrel
          have PW2 := Lib.hid hpw2
          clear hpw2
          have x1 : wr.cell? ⟨w.heap.size, 5, none⟩ = some (.slice ad dl cd) := by rw [HDL.out, PW2.out.below.cell (p := ⟨w.heap.size, 5, none⟩) HWS.out]; exact cell_of HX.out 5
          by_cases hk2 : k < dl
          · have hkl : k < c.d.length := by have := HDL.out; omega
            have FT := Lib.hid (flat_next (g := vi) hkl)
            have hSd := (HL.out.d).below PW2.out.below
            obtain ⟨b, off, rfl, -, -⟩ := hSd.at_ (by intro e; have h1 := ns_len c.d; rw [e, List.length_nil] at h1; omega)
            have x2 := hSd.cellK (i := k) (by rw [ns_len]; exact hkl)
            rw [ns_get] at x2
            have hbx := HC.out.d (c.d.getD k 0) (by simp [hkl])
            have P2 := Lib.hid (rpu (nil8 wr) hbx (Nat.zero_le _))
            have hfl := flat_le (g := vi) (c.d.take k) (fun x hx => vi_len (id (HC.out.d x (List.mem_of_mem_take hx))))
            have hxl := vi_len (id hbx)
            have hvl := vi_len (x := dl) (by omega)
            have hLN : ((pre ++ vi dl) ++ (c.d.take k).flatMap vi).length ≤ 2000000 := by
              have h1 : (c.d.take k).length ≤ k := by simp; omega
              have h2 := HPL2.out; have h3 := HPRE.out
              rw [List.length_append, List.length_append]; omega
            have LN := Lib.hid hLN
            have FT2 : Hid ((c.d.take (k + 1)).flatMap vi = (c.d.take k).flatMap vi ++ vi (c.d.getD k 0)) := Lib.hid (by rw [FT.out]; simp [hkl])
            have HXL : Hid ((vi (c.d.getD k 0)).length ≤ 10) := Lib.hid hxl
            clear hSd hbx hfl hvl hLN hkl FT hxl
            generalize c.d.getD k 0 = x at *
            have NX : Hid ((pre ++ vi dl) ++ (c.d.take (k + 1)).flatMap vi = ((pre ++ vi dl) ++ (c.d.take k).flatMap vi) ++ vi x) := Lib.hid (by rw [FT2.out, ← List.append_assoc])
            generalize (pre ++ vi dl) ++ (c.d.take k).flatMap vi = X at *
            generalize vi x = Y at *
            clear FT2
            obtain ⟨a4, c4, rfl, hS4⟩ := PW2.out.sl
            clear hS4
            go_wp2_with fail
            refine (P2.out).mono ?_; rintro e w6 ⟨v6, rfl, ho, hb⟩
            obtain ⟨a6, c6, rfl, hS6⟩ := ho.sl
            have S6 : Hid (IsK .u8 w6 a6 Y.length c6 (ns Y)) := Lib.hid (by rw [ns_len] at hS6; simpa using hS6)
            have e6 : (ns ([] ++ Y)).length = Y.length := by rw [ns_len]; simp
            rw [e6]
            have O6 := Lib.hid (PW2.out.out.below hb)
            have B6 := Lib.hid (PW2.out.below.trans (hb.mono PW2.out.below.size))
            have hB6 := B6.out.size
            clear ho hb hS6 e6
            generalize hxl : X.length = xl at *
            generalize hyl : Y.length = yl at *
            have HXL2 := Lib.hid hxl
            clear hxl hyl
            go_wp2_with (at_builtin; refine wpList_appS rfl (.tmp 67) (.tmp 73) 29 rfl 5 i0 .u8 1 Try.underlying29 hi hz0 hz1 hz2 (by decide) rfl O6.out hB6 S6.out rfl (by have := LN.out; have := HXL.out; have := HXL2.out; rw [ns_len]; omega) ?_)
            intro v7 w7 h1 h2 h3 h4
            have PW7 : Hid (Pw W1 ((pre ++ vi dl) ++ (c.d.take (k + 1)).flatMap vi) v7 w7) := Lib.hid ⟨by rw [NX.out, ns_cat X Y]; exact h1, B6.out.trans h3⟩
            clear h1 h2 h3 h4
            go_wp2_with fail
            go_roundw
            case rel => exact ⟨k + 1, by have := HDL.out; omega, by go_num, PW7.out⟩
            case measure => simp [intOf]; omega
          · have PE : Hid (Pw W1 (pre ++ encF c .d) _ wr) := Lib.hid (by
              have := PW2.out
              rw [List.take_of_length_le (by have := HDL.out; omega), List.append_assoc, HDL.out] at this
              exact this)
            go_wp2_with fail
            go_roundw
            case rel => exact ⟨i + 1, by have := HN.out; omega, by go_num, by rw [NXT.out]; exact PE.out⟩
            case measure => simp [intOf]; omega
      case b =>
        have x1 : wr.cell? ⟨w.heap.size, 6, none⟩ = some (.slice ab c.b.length cb) := by rw [PW.out.below.cell (p := ⟨w.heap.size, 6, none⟩) HWS.out]; exact cell_of HX.out 6
        have hdl := HB.out
        have P := Lib.hid (rpu S3.out (x := c.b.length) (by omega) hpr)
        obtain ⟨dl, hdl2⟩ : ∃ dl, dl = c.b.length := ⟨_, rfl⟩
        rw [← hdl2] at x1 P hdl
        have HDL := Lib.hid hdl2
        simp only [ltI] at hx
        have HPRE := Lib.hid hpr
        clear hpr hdl2
        generalize hpl : pre.length = pl at *
        have HPL2 := Lib.hid hpl
        clear hpl
        go_wp2_with fail
        refine (P.out).mono ?_; rintro e w5 ⟨v5, rfl, ho, hb⟩
        have PW5 := Lib.hid (pw_new PW.out ho hb)
        clear ho hb x1
        go_wp2_with fail
        go_loopw [3, 8] (fun v3 v7 wr => PdRel W1 (pre ++ vi dl) vf c.b v3 v7 wr) (fun _ v7 _ => dl - (intOf v7).toNat)
        case atStart => exact ⟨0, Nat.zero_le _, rfl, by simpa using PW5.out⟩
        case round =>
          clear PW5 P hx
          obtain ⟨k, hk, rfl, hpw2⟩ := hrel
          have PW2 := Lib.hid hpw2
          clear hpw2
          have x1 : wr.cell? ⟨w.heap.size, 6, none⟩ = some (.slice ab dl cb) := by rw [HDL.out, PW2.out.below.cell (p := ⟨w.heap.size, 6, none⟩) HWS.out]; exact cell_of HX.out 6
          by_cases hk2 : k < dl
          · have hkl : k < c.b.length := by have := HDL.out; omega
            have FT := Lib.hid (flat_next (g := vf) hkl)
            have hSd := (HL.out.b).below PW2.out.below
            obtain ⟨b, off, rfl, -, -⟩ := hSd.at_ (by intro e; rw [e] at hkl; simp at hkl)
            have x2 := hSd.cellK (i := k) (by exact hkl)
            skip
            have hbx := HC.out.b (c.b.getD k 0) (by simp [hkl])
            have P2 := Lib.hid (rpi (nil8 wr) hbx (Nat.zero_le _))
            have hfl := flat_le (g := vf) (c.b.take k) (fun x hx => vi_len (fold_lt (HC.out.b x (List.mem_of_mem_take hx))))
            have hxl := vi_len (fold_lt hbx)
            have hvl := vi_len (x := dl) (by omega)
            have hLN : ((pre ++ vi dl) ++ (c.b.take k).flatMap vf).length ≤ 2000000 := by
              have h1 : (c.b.take k).length ≤ k := by simp; omega
              have h2 := HPL2.out; have h3 := HPRE.out
              rw [List.length_append, List.length_append]; omega
            have LN := Lib.hid hLN
            have FT2 : Hid ((c.b.take (k + 1)).flatMap vf = (c.b.take k).flatMap vf ++ vf (c.b.getD k 0)) := Lib.hid (by rw [FT.out]; simp [hkl])
            have HXL : Hid ((vf (c.b.getD k 0)).length ≤ 10) := Lib.hid hxl
            clear hSd hbx hfl hvl hLN hkl FT hxl
            generalize c.b.getD k 0 = x at *
            have NX : Hid ((pre ++ vi dl) ++ (c.b.take (k + 1)).flatMap vf = ((pre ++ vi dl) ++ (c.b.take k).flatMap vf) ++ vf x) := Lib.hid (by rw [FT2.out, ← List.append_assoc])
            generalize (pre ++ vi dl) ++ (c.b.take k).flatMap vf = X at *
            generalize vf x = Y at *
            clear FT2
            obtain ⟨a4, c4, rfl, hS4⟩ := PW2.out.sl
            clear hS4
            go_wp2_with fail
            refine (P2.out).mono ?_; rintro e w6 ⟨v6, rfl, ho, hb⟩
            obtain ⟨a6, c6, rfl, hS6⟩ := ho.sl
            have S6 : Hid (IsK .u8 w6 a6 Y.length c6 (ns Y)) := Lib.hid (by rw [ns_len] at hS6; simpa using hS6)
            have e6 : (ns ([] ++ Y)).length = Y.length := by rw [ns_len]; simp
            rw [e6]
            have O6 := Lib.hid (PW2.out.out.below hb)
            have B6 := Lib.hid (PW2.out.below.trans (hb.mono PW2.out.below.size))
            have hB6 := B6.out.size
            clear ho hb hS6 e6
            generalize hxl : X.length = xl at *
            generalize hyl : Y.length = yl at *
            have HXL2 := Lib.hid hxl
            clear hxl hyl
            go_wp2_with (at_builtin; refine wpList_appS rfl (.tmp 90) (.tmp 96) 29 rfl 5 i0 .u8 1 Try.underlying29 hi hz0 hz1 hz2 (by decide) rfl O6.out hB6 S6.out rfl (by have := LN.out; have := HXL.out; have := HXL2.out; rw [ns_len]; omega) ?_)
            intro v7 w7 h1 h2 h3 h4
            have PW7 : Hid (Pw W1 ((pre ++ vi dl) ++ (c.b.take (k + 1)).flatMap vf) v7 w7) := Lib.hid ⟨by rw [NX.out, ns_cat X Y]; exact h1, B6.out.trans h3⟩
            clear h1 h2 h3 h4
            go_wp2_with fail
            go_roundw
            case rel => exact ⟨k + 1, by have := HDL.out; omega, by go_num, PW7.out⟩
            case measure => simp [intOf]; omega
          · have PE : Hid (Pw W1 (pre ++ encF c .b) _ wr) := Lib.hid (by
              have := PW2.out
              rw [List.take_of_length_le (by have := HDL.out; omega), List.append_assoc, HDL.out] at this
              exact this)
            go_wp2_with fail
            go_roundw
            case rel => exact ⟨i + 1, by have := HN.out; omega, by go_num, by rw [NXT.out]; exact PE.out⟩
            case measure => simp [intOf]; omega
    · have PE : Hid (Pw W1 p _ wr) := Lib.hid (by
        have := PW.out
        rw [List.take_of_length_le (by have := HN.out; omega), ← HP.out] at this
        exact this)
      go_wp2_with fail
      go_ret
      exact ⟨_, rfl, PE.out.out.mono AW.out.size, AW.out.trans (PE.out.below.mono AW.out.size)⟩
end Go.Proofs.Ythnoihdojinocaa

/- putList of the program at both instances. -/
import Derived.Test.YtlmdkcpiimpniaaDoorRg
import Derived.Test.YtlmdkcpiimpniaaDoorSd
namespace Go.Proofs.YtlmdkcpiimpniaaDoor
open Go.ChangeShapes Go.WideShapes Go.ChangeAt Go.RowKit
set_option linter.unusedVariables false
set_option linter.unusedSimpArgs false

theorem ent30 : ∀ (args : Array Value) (w : World), (callFunc 30 args).run Tryd.prog w = .ok (.enter 30 args) w := enters_of Tryd.func30 (by kernel_rfl) rfl
theorem ent32 : ∀ (args : Array Value) (w : World), (callFunc 32 args).run Tryd.prog w = .ok (.enter 32 args) w := enters_of Tryd.func32 (by kernel_rfl) rfl
def viI (x : Int) : List Nat := vi x.toNat
theorem flatI_take {g : Int → List Nat} {l : List Int} {i : Nat} (h : i < l.length) : (l.take (i + 1)).flatMap g = (l.take i).flatMap g ++ g (l.getD i 0) := by
  rw [List.take_succ_eq_append_getElem h, List.flatMap_append]; simp [h]
theorem flatI_le {g : Int → List Nat} : ∀ (l : List Int), (∀ x ∈ l, (g x).length ≤ 10) → (l.flatMap g).length ≤ 10 * l.length
  | [], _ => by simp
  | x :: l, h => by
    have h1 := h x (by simp)
    have h2 := flatI_le l (fun y hy => h y (List.mem_cons_of_mem _ hy))
    rw [List.flatMap_cons, List.length_append, List.length_cons]; omega
theorem vf_len {x : Int} (h : -9223372036854775808 ≤ x ∧ x ≤ 9223372036854775807) : (vf x).length ≤ 10 := vi_len (fold_lt h)
theorem nil_u8 (w : World) : IsK .u8 w none 0 0 (ns []) := IsSl.nil w
def PlRel (B : Nat) (v : Value) (w : World) (pre : List Nat) (g : Int → List Nat) (l : List Int) (v0 vi17 : Value) (wr : World) : Prop :=
  ∃ i : Nat, i ≤ l.length ∧ vi17 = .int .i64 i ∧ ApW B v w v0 (pre ++ (l.take i).flatMap g) wr
theorem ApW.app {B : Nat} {v v' v2 : Value} {zs ys : List Nat} {w w1 w2 w3 : World} (h : ApW B v w v' zs w1) (hb : Below w1.heap.size w1 w2) (h1 : OutR 1 (encK .u8) 5 w3 B v2 (ns zs ++ ns ys)) (h2 : Touch (fun b => v'.ownBlock = some b) w2 w3) (h3 : Below B w2 w3) (hB : B ≤ w1.heap.size) (h4 : ∀ g, v2.ownBlock = some g → v'.ownBlock = some g ∨ w2.heap.size ≤ g) : ApW B v w v2 (zs ++ ys) w3 := by
  have k : ApW B v' w1 v2 (zs ++ ys) w3 := ⟨by rw [ns_cat]; exact h1, (Touch.of_below hb _).trans h2, (hb.mono hB).trans h3, fun g hg => (h4 g hg).imp id (fun e => Nat.le_trans hb.size e)⟩
  exact h.trans k
theorem viI_len {x : Int} (h : 0 ≤ x ∧ x ≤ 18446744073709551615) : (viI x).length ≤ 10 := vi_len (by omega)
set_option maxRecDepth 100000 in
set_option maxHeartbeats 4000000 in
theorem pput_u64 {B : Nat} {w : World} {v : Value} {zs : List Nat} {a : Option Addr} {n c : Nat} {l : List Int} (hO : OutR 1 (encK .u8) 5 w B v (ns zs)) (hB : B ≤ w.heap.size) (hS : ∀ w', Below B w w' → IsK .u64 w' a n c l) (hr : ∀ x ∈ l, 0 ≤ x ∧ x ≤ 18446744073709551615) (hn : n ≤ 70000) (hz : zs.length ≤ 1000000) :
    Calls Tryd.prog 29 #[v, .slice a n c, .func (.func 30) #[] #[]] w (ApR B v w (zs ++ (vi n ++ l.flatMap viI))) := by
  obtain ⟨i0, hi, hz0, hz1, hz2⟩ := info_parts info5
  have hnl : n = l.length := (hS w (Below.refl _ _)).hlen
  have HNL := Lib.hid hnl
  have O := Lib.hid hO; have HS := Lib.hid hS; have HR := Lib.hid hr
  have P1 := Lib.hid (ppu (w := w) (nil_u8 w) (x := n) (by omega) (by simp))
  have hvn := vi_len (x := n) (by omega)
  have ec := ent30
  have HVN := Lib.hid hvn
  obtain ⟨av, mv, cv, rfl⟩ : ∃ a n c, v = .slice a n c := by obtain ⟨a, c, e⟩ := own_shape hO.row; exact ⟨a, _, c, e⟩
  clear hO hS hnl hr
  go_enter Tryd.func29, Tryd.ntmps29
  go_wp2_with fail
  refine (P1.out).mono ?_; rintro e w1 ⟨v1, rfl, ho1, hb1⟩
  obtain ⟨a1, c1, rfl, hS1⟩ := ho1.sl
  have B1 := Lib.hid hb1
  have O1 := Lib.hid (O.out.below hb1)
  have hB1 : B ≤ w1.heap.size := Nat.le_trans hB hb1.size
  have S1 := Lib.hid hS1
  clear ho1 hb1 hS1 P1
  rw [ns_len, List.nil_append] at S1 ⊢
  have hl1 : (ns zs).length + (vi n).length ≤ 1099511627776 := by rw [ns_len]; omega
  have HPL : Hid ((zs ++ vi n).length ≤ 1000010) := Lib.hid (by rw [List.length_append]; omega)
  obtain ⟨pre, hpre⟩ : ∃ p, p = zs ++ vi n := ⟨_, rfl⟩
  rw [← hpre] at HPL
  have HPRE := Lib.hid hpre
  clear hpre HVN
  generalize hvl : (vi n).length = nv at *
  clear hvl
  go_wp2_with (at_builtin; refine wpList_appS rfl (.tmp 9) (.tmp 13) 31 rfl 5 i0 .u8 1 Tryd.underlying31 hi hz0 hz1 hz2 (by decide) rfl O1.out hB1 S1.out rfl hl1 ?_)
  intro v2 w2 h1 h2 h3 h4
  have AP2 : Hid (ApW B (.slice av mv cv) w v2 pre w2) := Lib.hid (by rw [HPRE.out]; exact (ApW.refl O.out).app B1.out h1 h2 h3 hB h4)
  clear h1 h2 h3 h4 O1 S1 hl1
  go_wp2_with fail
  go_loopw [0, 8, 17] (fun v0 _ v17 wr => PlRel B (.slice av mv cv) w pre viI l v0 v17 wr) (fun _ _ v17 _ => n - (intOf v17).toNat)
  case atStart => exact ⟨0, Nat.zero_le _, rfl, by simpa using AP2.out⟩
  case round =>
    obtain ⟨i, hil0, rfl, hap⟩ := hrel
    have AP := Lib.hid hap
    clear hap AP2
    have hBr : B ≤ wr.heap.size := Nat.le_trans hB AP.out.touch.size
    by_cases hlt : i < n
    · have hil : i < l.length := by have := HNL.out; omega
      have FT := Lib.hid (flatI_take (g := viI) hil)
      have HSw := HS.out wr AP.out.below
      obtain ⟨b, off, rfl, _, _⟩ := HSw.at_ (by intro h; rw [h, List.length_nil] at hil; omega)
      have x0 := HSw.cellK (i := i) hil
      have hx := HR.out (l.getD i 0) (by simp [hil])
      have hfl := flatI_le (g := viI) (l.take i) (fun x hx => viI_len (HR.out x (List.mem_of_mem_take hx)))
      have hpl : (pre ++ (l.take i).flatMap viI).length ≤ 10000000 := by
        rw [List.length_append]
        have : (l.take i).length ≤ i := by simp; omega
        have := HPL.out
        omega
      have hgx := viI_len hx
      have hnn : Hid ((l.take (i + 1)).flatMap viI = (l.take i).flatMap viI ++ viI (l.getD i 0)) := FT
      have P2 := Lib.hid (ppu (w := wr) (nil_u8 wr) (x := (l.getD i 0).toNat) (by omega) (by simp))
      generalize (l.take i).flatMap viI = done at *
      generalize l.getD i 0 = x at *
      obtain ⟨a3, m3, q3, rfl⟩ : ∃ a n c, u0 = .slice a n c := by obtain ⟨a, c, e⟩ := own_shape AP.out.out.row; exact ⟨a, _, c, e⟩
      clear HSw hfl FT
      obtain ⟨u, rfl⟩ := Int.eq_ofNat_of_zero_le hx.1
      have e1 : vi ((u : Int)).toNat = viI (u : Int) := rfl
      rw [Int.toNat_natCast] at P2
      rw [show vi u = viI (u : Int) by unfold viI; simp] at P2
      go_wp2_with fail
      refine (P2.out).mono ?_; rintro e w4 ⟨v4, rfl, ho4, hb4⟩
      obtain ⟨a4, c4, rfl, hS4⟩ := ho4.sl
      have B4 := Lib.hid hb4
      have O4 := Lib.hid (AP.out.out.below hb4)
      have hB4 : B ≤ w4.heap.size := Nat.le_trans hBr hb4.size
      have S4 := Lib.hid hS4
      clear ho4 hb4 hS4 P2 x0
      rw [ns_len, List.nil_append] at S4 ⊢
      have hl4 : (ns (pre ++ done)).length + (viI (u : Int)).length ≤ 1099511627776 := by rw [ns_len]; omega
      have HL4 := Lib.hid hl4
      clear hl4 hpl
      generalize hgl : (viI (u : Int)).length = ng at *
      clear hgl
      go_wp2_with (at_builtin; refine wpList_appS rfl (.tmp 21) (.tmp 24) 31 rfl 5 i0 .u8 1 Tryd.underlying31 hi hz0 hz1 hz2 (by decide) rfl O4.out hB4 S4.out rfl HL4.out ?_)
      intro v5 w5 h1 h2 h3 h4
      have AP5 : Hid (ApW B (.slice av mv cv) w v5 (pre ++ (done ++ viI (u : Int))) w5) := Lib.hid (by
        have := AP.out.app B4.out h1 h2 h3 hBr h4
        rwa [List.append_assoc] at this)
      clear h1 h2 h3 h4
      go_wp2_with fail
      go_roundw
      case rel => exact ⟨i + 1, by omega, by go_num, by rw [hnn.out]; exact AP5.out⟩
      case measure => simp [intOf]; omega
    · have APF : Hid (ApW B (.slice av mv cv) w _ (zs ++ (vi n ++ l.flatMap viI)) wr) := Lib.hid (by
        have := AP.out
        rw [List.take_of_length_le (by have := HNL.out; omega), HPRE.out, List.append_assoc] at this
        exact this)
      go_wp2_with fail
      go_ret
      exact ⟨_, rfl, APF.out⟩
set_option maxRecDepth 100000 in
set_option maxHeartbeats 4000000 in
theorem pput_i64 {B : Nat} {w : World} {v : Value} {zs : List Nat} {a : Option Addr} {n c : Nat} {l : List Int} (hO : OutR 1 (encK .u8) 5 w B v (ns zs)) (hB : B ≤ w.heap.size) (hS : ∀ w', Below B w w' → IsK .i64 w' a n c l) (hr : ∀ x ∈ l, -9223372036854775808 ≤ x ∧ x ≤ 9223372036854775807) (hn : n ≤ 70000) (hz : zs.length ≤ 1000000) :
    Calls Tryd.prog 31 #[v, .slice a n c, .func (.func 32) #[] #[]] w (ApR B v w (zs ++ (vi n ++ l.flatMap vf))) := by
  obtain ⟨i0, hi, hz0, hz1, hz2⟩ := info_parts info5
  have hnl : n = l.length := (hS w (Below.refl _ _)).hlen
  have HNL := Lib.hid hnl
  have O := Lib.hid hO; have HS := Lib.hid hS; have HR := Lib.hid hr
  have P1 := Lib.hid (ppu (w := w) (nil_u8 w) (x := n) (by omega) (by simp))
  have hvn := vi_len (x := n) (by omega)
  have ec := ent32
  have HVN := Lib.hid hvn
  obtain ⟨av, mv, cv, rfl⟩ : ∃ a n c, v = .slice a n c := by obtain ⟨a, c, e⟩ := own_shape hO.row; exact ⟨a, _, c, e⟩
  clear hO hS hnl hr
  go_enter Tryd.func31, Tryd.ntmps31
  go_wp2_with fail
  refine (P1.out).mono ?_; rintro e w1 ⟨v1, rfl, ho1, hb1⟩
  obtain ⟨a1, c1, rfl, hS1⟩ := ho1.sl
  have B1 := Lib.hid hb1
  have O1 := Lib.hid (O.out.below hb1)
  have hB1 : B ≤ w1.heap.size := Nat.le_trans hB hb1.size
  have S1 := Lib.hid hS1
  clear ho1 hb1 hS1 P1
  rw [ns_len, List.nil_append] at S1 ⊢
  have hl1 : (ns zs).length + (vi n).length ≤ 1099511627776 := by rw [ns_len]; omega
  have HPL : Hid ((zs ++ vi n).length ≤ 1000010) := Lib.hid (by rw [List.length_append]; omega)
  obtain ⟨pre, hpre⟩ : ∃ p, p = zs ++ vi n := ⟨_, rfl⟩
  rw [← hpre] at HPL
  have HPRE := Lib.hid hpre
  clear hpre HVN
  generalize hvl : (vi n).length = nv at *
  clear hvl
  go_wp2_with (at_builtin; refine wpList_appS rfl (.tmp 9) (.tmp 13) 31 rfl 5 i0 .u8 1 Tryd.underlying31 hi hz0 hz1 hz2 (by decide) rfl O1.out hB1 S1.out rfl hl1 ?_)
  intro v2 w2 h1 h2 h3 h4
  have AP2 : Hid (ApW B (.slice av mv cv) w v2 pre w2) := Lib.hid (by rw [HPRE.out]; exact (ApW.refl O.out).app B1.out h1 h2 h3 hB h4)
  clear h1 h2 h3 h4 O1 S1 hl1
  go_wp2_with fail
  go_loopw [0, 8, 17] (fun v0 _ v17 wr => PlRel B (.slice av mv cv) w pre vf l v0 v17 wr) (fun _ _ v17 _ => n - (intOf v17).toNat)
  case atStart => exact ⟨0, Nat.zero_le _, rfl, by simpa using AP2.out⟩
  case round =>
    obtain ⟨i, hil0, rfl, hap⟩ := hrel
    have AP := Lib.hid hap
    clear hap AP2
    have hBr : B ≤ wr.heap.size := Nat.le_trans hB AP.out.touch.size
    by_cases hlt : i < n
    · have hil : i < l.length := by have := HNL.out; omega
      have FT := Lib.hid (flatI_take (g := vf) hil)
      have HSw := HS.out wr AP.out.below
      obtain ⟨b, off, rfl, _, _⟩ := HSw.at_ (by intro h; rw [h, List.length_nil] at hil; omega)
      have x0 := HSw.cellK (i := i) hil
      have hx := HR.out (l.getD i 0) (by simp [hil])
      have hfl := flatI_le (g := vf) (l.take i) (fun x hx => vf_len (HR.out x (List.mem_of_mem_take hx)))
      have hpl : (pre ++ (l.take i).flatMap vf).length ≤ 10000000 := by
        rw [List.length_append]
        have : (l.take i).length ≤ i := by simp; omega
        have := HPL.out
        omega
      have hgx := vf_len hx
      have hnn : Hid ((l.take (i + 1)).flatMap vf = (l.take i).flatMap vf ++ vf (l.getD i 0)) := FT
      have P2 := Lib.hid (ppi (w := wr) (nil_u8 wr) (x := l.getD i 0) hx (by simp))
      generalize (l.take i).flatMap vf = done at *
      generalize l.getD i 0 = x at *
      obtain ⟨a3, m3, q3, rfl⟩ : ∃ a n c, u0 = .slice a n c := by obtain ⟨a, c, e⟩ := own_shape AP.out.out.row; exact ⟨a, _, c, e⟩
      clear HSw hfl FT
      skip
      go_wp2_with fail
      refine (P2.out).mono ?_; rintro e w4 ⟨v4, rfl, ho4, hb4⟩
      obtain ⟨a4, c4, rfl, hS4⟩ := ho4.sl
      have B4 := Lib.hid hb4
      have O4 := Lib.hid (AP.out.out.below hb4)
      have hB4 : B ≤ w4.heap.size := Nat.le_trans hBr hb4.size
      have S4 := Lib.hid hS4
      clear ho4 hb4 hS4 P2 x0
      rw [ns_len, List.nil_append] at S4 ⊢
      have hl4 : (ns (pre ++ done)).length + (vf x).length ≤ 1099511627776 := by rw [ns_len]; omega
      have HL4 := Lib.hid hl4
      clear hl4 hpl
      generalize hgl : (vf x).length = ng at *
      clear hgl
      go_wp2_with (at_builtin; refine wpList_appS rfl (.tmp 21) (.tmp 24) 31 rfl 5 i0 .u8 1 Tryd.underlying31 hi hz0 hz1 hz2 (by decide) rfl O4.out hB4 S4.out rfl HL4.out ?_)
      intro v5 w5 h1 h2 h3 h4
      have AP5 : Hid (ApW B (.slice av mv cv) w v5 (pre ++ (done ++ vf x)) w5) := Lib.hid (by
        have := AP.out.app B4.out h1 h2 h3 hBr h4
        rwa [List.append_assoc] at this)
      clear h1 h2 h3 h4
      go_wp2_with fail
      go_roundw
      case rel => exact ⟨i + 1, by omega, by go_num, by rw [hnn.out]; exact AP5.out⟩
      case measure => simp [intOf]; omega
    · have APF : Hid (ApW B (.slice av mv cv) w _ (zs ++ (vi n ++ l.flatMap vf)) wr) := Lib.hid (by
        have := AP.out
        rw [List.take_of_length_le (by have := HNL.out; omega), HPRE.out, List.append_assoc] at this
        exact this)
      go_wp2_with fail
      go_ret
      exact ⟨_, rfl, APF.out⟩
end Go.Proofs.YtlmdkcpiimpniaaDoor
/- Put of the program. -/
namespace Go.Proofs.YtlmdkcpiimpniaaDoor
open Go.ChangeShapes Go.WideShapes Go.ChangeAt Go.RowKit
set_option linter.unusedVariables false
set_option linter.unusedSimpArgs false

theorem flat_viI : ∀ l : List Nat, (ns l).flatMap viI = l.flatMap vi
  | [] => rfl
  | x :: l => by
    have ih := flat_viI l
    show viI (x : Int) ++ (ns l).flatMap viI = _
    rw [ih, List.flatMap_cons]; unfold viI; rw [Int.toNat_natCast]
theorem flat_vf : ∀ l : List Int, (l.map fold).flatMap vi = l.flatMap vf
  | [] => rfl
  | x :: l => by
    have ih := flat_vf l
    show vi (fold x) ++ (l.map fold).flatMap vi = _
    rw [ih, List.flatMap_cons]; rfl
theorem putR_eq (r : Rp) : putR r = [r.op.toNat, r.er.toNat, if r.yes = true then 1 else 0] ++ (vi r.ids.length ++ (ns r.ids).flatMap viI) ++ (vi r.nums.length ++ r.nums.flatMap vf) := by
  unfold putR putL
  rw [flat_viI, flat_vf, List.length_map]; simp
def putZ (r : Rp) : List Nat := if chk r = 0 then putR r else []
def PutS (w : World) (r : Rp) (e : Ending) (w' : World) : Prop := ∃ a n cp, e = .returned (.tuple #[.slice a n cp, .int .i64 (chk r)]) ∧ IsK .u8 w' a n cp (ns (putZ r)) ∧ Below w.heap.size w w'
theorem blk3 (w : World) (x y z : Nat) : OutR 1 (encK .u8) 5 (w.alloc (.cells #[.int .u8 (x : Int), .int .u8 (y : Int), .int .u8 (z : Int)] 5)) w.heap.size (.slice (some ⟨w.heap.size, 0, none⟩) 3 3) (ns [x, y, z]) :=
  OutR.of_blk (k := .u8) (e := 5) (zs := ns [x, y, z]) (g := w.heap.size) (cap := 3) ⟨[], rfl, by decide, block_new w _⟩ (Nat.le_refl _)
set_option maxRecDepth 100000 in
set_option maxHeartbeats 8000000 in
theorem pput {w : World} (hE : Env w) {r : Rp} {a a' : Option Addr} {c c' : Nat} (h : LsR w r a c a' c') (hI : RpIn r) (hl1 : r.ids.length ≤ 1000000) (hl2 : r.nums.length ≤ 1000000) :
    Calls Tryd.prog 12 #[.agg (rpV r a c a' c')] w (PutS w r) := by
  have hA : Hid (Below w.heap.size w (w.alloc (.cells (rpV r a c a' c') 27))) := Lib.hid (Below.alloc (Below.refl _ _) (Nat.le_refl _) _)
  have X := Lib.hid (block_new w (.cells (rpV r a c a' c') 27))
  have PC := Lib.hid (pcheck (hE.below hA.out) r a c a' c' (by omega) (by omega))
  by_cases hk : chk r = 0
  · have HP := Lib.hid (show putZ r = _ from (if_pos hk).trans (putR_eq r))
    obtain ⟨hf, g1, g2⟩ := chk_fits hk
    obtain ⟨o0, o1, e0, e1⟩ := op_er hf
    have HL := Lib.hid h
    have RI : Hid (∀ x ∈ ns r.ids, 0 ≤ x ∧ x ≤ 18446744073709551615) := Lib.hid (fun x hx => by
      unfold ns at hx
      obtain ⟨y, hy, rfl⟩ := List.mem_map.1 hx
      have := hI.ids y hy; omega)
    have RN := Lib.hid hI.nums
    have HK := Lib.hid hk
    rw [hk] at PC
    unfold PutS
    rw [hk]
    clear hE h hI hf hk
    unfold rpV at *
    have LI := Lib.hid (fun w' (hb : Below w.heap.size w w') => (HL.out.keep hb).i)
    have LN := Lib.hid (fun w' (hb : Below w.heap.size w w') => (HL.out.keep hb).n)
    clear HL
    generalize putZ r = Z at *
    obtain ⟨op, er, yes, ids, nums⟩ := r
    simp only at *
    generalize ns ids = zi at *
    generalize ids.length = li at *
    generalize nums.length = ln at *
    obtain ⟨o, rfl⟩ := Int.eq_ofNat_of_zero_le o0
    obtain ⟨er, rfl⟩ := Int.eq_ofNat_of_zero_le e0
    rw [Int.toNat_natCast, Int.toNat_natCast] at HP
    have c1 : (o : Int) % 256 = (o : Int) := by omega
    have c2 : (er : Int) % 256 = (er : Int) := by omega
    cases yes
    · go_enter Tryd.func12, Tryd.ntmps12
      go_wp2_with fail
      refine (PC.out).mono ?_; rintro e w1 ⟨rfl, hb1⟩
      have B1 := Lib.hid (hA.out.trans (hb1.mono hA.out.size))
      have X1 := (hb1.block _ (lt_of_block X.out)).trans X.out
      have x0 : w1.cell? ⟨w.heap.size, 0, none⟩ = some (.int .i64 (o : Int)) := cell_of X1 0
      have x1 : w1.cell? ⟨w.heap.size, 1, none⟩ = some (.int .i64 (er : Int)) := cell_of X1 1
      have x2 : w1.cell? ⟨w.heap.size, 2, none⟩ = some (.bool false) := cell_of X1 2
      have x3 : w1.cell? ⟨w.heap.size, 3, none⟩ = some (.slice a li c) := cell_of X1 3
      have gl := lt_of_block X1
      have HX1 := Lib.hid X1
      have O1 := Lib.hid (blk3 w1 o er 0)
      have A1 := Lib.hid (Below.alloc (Below.refl w1.heap.size w1) (Nat.le_refl _) (.cells #[.int .u8 (o : Int), .int .u8 (er : Int), .int .u8 0] 5))
      have P1 := Lib.hid (pput_u64 (w := w1.alloc (.cells #[.int .u8 (o : Int), .int .u8 (er : Int), .int .u8 0] 5)) O1.out (by simp) (fun w' hb => LI.out w' (B1.out.trans ((A1.out.trans hb).mono B1.out.size))) RI.out (by omega) (by simp))
      clear hb1 X1 PC
      go_wp2_with fail
      refine (P1.out).mono ?_; rintro e w2 ⟨v2, rfl, hap⟩
      have AP := Lib.hid hap
      have B2 := Lib.hid (A1.out.trans hap.below)
      have X2 := (B2.out.block _ gl).trans HX1.out
      have x4 : w2.cell? ⟨w.heap.size, 4, none⟩ = some (.slice a' ln c') := cell_of X2 4
      obtain ⟨a2, m2, q2, rfl⟩ : ∃ a n c, v2 = .slice a n c := by obtain ⟨a, c, e⟩ := own_shape hap.out.row; exact ⟨a, _, c, e⟩
      have hvl := vi_len (x := li) (by omega)
      have hfl := flatI_le (g := viI) zi (fun x hx => viI_len (RI.out x hx))
      have hzl : zi.length = li := ((LI.out w (Below.refl _ _)).hlen).symm
      have P2 := Lib.hid (pput_i64 (w := w2) AP.out.out B2.out.size (fun w' hb => LN.out w' (B1.out.trans ((B2.out.trans hb).mono B1.out.size))) RN.out (by omega) (by rw [List.length_append, List.length_append]; simp only [List.length_cons, List.length_nil]; omega))
      clear hap X2 P1
      go_wp2_with fail
      refine (P2.out).mono ?_; rintro e w3 ⟨v3, rfl, hap3⟩
      obtain ⟨a3, q3, rfl, hS3⟩ := hap3.out.sl
      have S3 := Lib.hid hS3
      have B3 := Lib.hid (B1.out.trans ((B2.out.trans hap3.below).mono B1.out.size))
      rw [ns_len] at S3 ⊢
      clear hap3 hS3
      go_wp2_with fail
      go_ret2
      exact ⟨a3, _, q3, rfl, by rw [HP.out]; simpa using S3.out, B3.out⟩
    · go_enter Tryd.func12, Tryd.ntmps12
      go_wp2_with fail
      refine (PC.out).mono ?_; rintro e w1 ⟨rfl, hb1⟩
      have B1 := Lib.hid (hA.out.trans (hb1.mono hA.out.size))
      have X1 := (hb1.block _ (lt_of_block X.out)).trans X.out
      have x0 : w1.cell? ⟨w.heap.size, 0, none⟩ = some (.int .i64 (o : Int)) := cell_of X1 0
      have x1 : w1.cell? ⟨w.heap.size, 1, none⟩ = some (.int .i64 (er : Int)) := cell_of X1 1
      have x2 : w1.cell? ⟨w.heap.size, 2, none⟩ = some (.bool true) := cell_of X1 2
      have x3 : w1.cell? ⟨w.heap.size, 3, none⟩ = some (.slice a li c) := cell_of X1 3
      have gl := lt_of_block X1
      have HX1 := Lib.hid X1
      have O1 := Lib.hid (blk3 w1 o er 1)
      have A1 := Lib.hid (Below.alloc (Below.refl w1.heap.size w1) (Nat.le_refl _) (.cells #[.int .u8 (o : Int), .int .u8 (er : Int), .int .u8 1] 5))
      have P1 := Lib.hid (pput_u64 (w := w1.alloc (.cells #[.int .u8 (o : Int), .int .u8 (er : Int), .int .u8 1] 5)) O1.out (by simp) (fun w' hb => LI.out w' (B1.out.trans ((A1.out.trans hb).mono B1.out.size))) RI.out (by omega) (by simp))
      clear hb1 X1 PC
      go_wp2_with fail
      refine (P1.out).mono ?_; rintro e w2 ⟨v2, rfl, hap⟩
      have AP := Lib.hid hap
      have B2 := Lib.hid (A1.out.trans hap.below)
      have X2 := (B2.out.block _ gl).trans HX1.out
      have x4 : w2.cell? ⟨w.heap.size, 4, none⟩ = some (.slice a' ln c') := cell_of X2 4
      obtain ⟨a2, m2, q2, rfl⟩ : ∃ a n c, v2 = .slice a n c := by obtain ⟨a, c, e⟩ := own_shape hap.out.row; exact ⟨a, _, c, e⟩
      have hvl := vi_len (x := li) (by omega)
      have hfl := flatI_le (g := viI) zi (fun x hx => viI_len (RI.out x hx))
      have hzl : zi.length = li := ((LI.out w (Below.refl _ _)).hlen).symm
      have P2 := Lib.hid (pput_i64 (w := w2) AP.out.out B2.out.size (fun w' hb => LN.out w' (B1.out.trans ((B2.out.trans hb).mono B1.out.size))) RN.out (by omega) (by rw [List.length_append, List.length_append]; simp only [List.length_cons, List.length_nil]; omega))
      clear hap X2 P1
      go_wp2_with fail
      refine (P2.out).mono ?_; rintro e w3 ⟨v3, rfl, hap3⟩
      obtain ⟨a3, q3, rfl, hS3⟩ := hap3.out.sl
      have S3 := Lib.hid hS3
      have B3 := Lib.hid (B1.out.trans ((B2.out.trans hap3.below).mono B1.out.size))
      rw [ns_len] at S3 ⊢
      clear hap3 hS3
      go_wp2_with fail
      go_ret2
      exact ⟨a3, _, q3, rfl, by rw [HP.out]; simpa using S3.out, B3.out⟩
  · have HP := Lib.hid (show putZ r = [] from if_neg hk)
    have e1 : (chk r == 0) = false := by simpa using hk
    have e2 : (chk r != 0) = true := by simpa using hk
    unfold PutS
    generalize putZ r = Z at *
    generalize chk r = K at *
    clear hE h hI hk
    unfold rpV at *
    obtain ⟨op, er, yes, ids, nums⟩ := r
    simp only at *
    generalize ids.length = li at *
    generalize nums.length = ln at *
    go_enter Tryd.func12, Tryd.ntmps12
    go_wp2_with fail
    refine (PC.out).mono ?_; rintro e w1 ⟨rfl, hb1⟩
    have B1 := Lib.hid (hA.out.trans (hb1.mono hA.out.size))
    clear hb1
    go_wp2_with fail
    go_ret2
    exact ⟨none, 0, 0, rfl, by rw [HP.out]; exact nil_u8 _, B1.out⟩
end Go.Proofs.YtlmdkcpiimpniaaDoor
/- Numbers are written, by the document. -/
namespace Go.Proofs.YtlmdkcpiimpniaaDoor
open Go.ChangeShapes Go.WideShapes Go.ChangeAt Go.RowKit
set_option linter.unusedVariables false
set_option linter.unusedSimpArgs false

theorem own_nil (w : World) (B : Nat) : OutR 1 (encK .u8) 5 w B (.slice none 0 0) (ns []) := ⟨⟨rfl, Or.inl ⟨rfl, rfl⟩⟩, fun g h => by cases h⟩
set_option maxRecDepth 100000 in
set_option maxHeartbeats 2000000 in
theorem run_ {w : World} {x : Nat} (hx : x < 18446744073709551616) :
    Calls Tryd.prog 48 #[.int .u64 (x : Int)] w (NwR w (vi x)) := by
  obtain ⟨i0, hi, hz0, hz1, hz2⟩ := info_parts info5
  have hrl : (vi x).length ≤ 10 := vi_len hx
  obtain ⟨res, hres⟩ : ∃ r, r = vi x := ⟨_, rfl⟩
  rw [← hres] at hrl ⊢
  have HRES := Lib.hid hres
  have HX := Lib.hid hx
  have O2 := Lib.hid (own_nil w w.heap.size)
  clear hres
  go_enter Tryd.func48, Tryd.ntmps48
  go_wp2_with fail
  go_loopw [0, 3] (fun vx v' wr => AuRel w.heap.size (.slice none 0 0) w res v' vx wr) (fun vx _ _ => natOf vx)
  case atStart => exact ⟨x, [], rfl, HX.out, by rw [HRES.out]; rfl, ApW.refl O2.out⟩
  case round =>
    clear O2
    obtain ⟨y, zs, rfl, hy, hzs, hap⟩ := hrel
    have AP := Lib.hid hap; have HZ := Lib.hid hzs
    clear hap hzs
    have hzl : zs.length ≤ 10 := by have := congrArg List.length HZ.out; rw [List.length_append] at this; omega
    have hBr : w.heap.size ≤ wr.heap.size := AP.out.touch.size
    by_cases hlt : 128 ≤ y
    · obtain ⟨a3, m3, q3, rfl⟩ : ∃ a n c, u3 = .slice a n c := by obtain ⟨a, c, e⟩ := own_shape AP.out.out.row; exact ⟨a, _, c, e⟩
      have hq : (y : Int) / 128 = ((y / 128 : Nat) : Int) := by omega
      have hm : (y : Int) % 128 = ((y % 128 : Nat) : Int) := by omega
      have HQ : Hid (y / 128 < y ∧ y / 128 < 18446744073709551616) := Lib.hid (by omega)
      have hm2 : y % 128 < 128 := Nat.mod_lt _ (by decide)
      have HZ2 : Hid (zs ++ ((y % 128 + 128) :: vi (y / 128)) = res) := Lib.hid (by rw [← HZ.out, vi_ge hlt])
      generalize y / 128 = q at *
      generalize y % 128 = r at *
      go_wp2_with (at_builtin; refine wpList_app rfl (.tmp 6) (.tmp 11) 31 rfl 5 i0 .u8 1 Tryd.underlying31 hi hz0 hz1 hz2 (by decide) rfl AP.out.out hBr ((r : Int) + 128) rfl (by rw [ns_len]; omega) ?_)
      intro v5 w5 h1 h2 h3 h4
      have AP2 : Hid (ApW w.heap.size (.slice none 0 0) w v5 (zs ++ [r + 128]) w5) := Lib.hid (AP.out.trans ⟨by rw [← ns_app]; exact h1, h2, h3, h4⟩)
      clear h1 h2 h3 h4
      go_wp2_with fail
      go_roundw
      case rel => exact ⟨q, zs ++ [r + 128], by simp, HQ.out.2, by rw [← HZ2.out]; simp, AP2.out⟩
      case measure => simp [natOf, intOf]; exact HQ.out.1
    · go_wp2_with (at_builtin; refine wpList_app rfl (.tmp 15) (.tmp 18) 31 rfl 5 i0 .u8 1 Tryd.underlying31 hi hz0 hz1 hz2 (by decide) rfl AP.out.out hBr y rfl (by rw [ns_len]; omega) ?_)
      intro v5 w5 h1 h2 h3 h4
      have AP2 : Hid (ApW w.heap.size (.slice none 0 0) w v5 res w5) := Lib.hid (AP.out.trans ⟨by rw [← HZ.out, vi_lt (by omega), ← ns_app]; exact h1, h2, h3, h4⟩)
      go_wp2_with fail
      go_ret
      exact ⟨v5, rfl, AP2.out.out, AP2.out.below⟩
theorem rsig {w : World} {x : Int} (hx : -9223372036854775808 ≤ x ∧ x ≤ 9223372036854775807) : Calls Tryd.prog 49 #[.int .i64 x] w (NwR w (vf x)) := by
  have P2 := Lib.hid (run_ (w := w) (fold_lt hx))
  unfold vf
  generalize vi (fold x) = vx at *
  by_cases hn : x < 0
  · obtain ⟨m, rfl⟩ : ∃ m : Nat, x = -(m : Int) - 1 := ⟨(-(x + 1)).toNat, by omega⟩
    rw [show fold (-(m : Int) - 1) = 2 * m + 1 by unfold fold; split <;> omega] at P2
    go_enter Tryd.func49, Tryd.ntmps49
    go_wp2_with fail
    refine (P2.out).mono ?_; rintro e w2 ⟨v2, rfl, ho, hb⟩
    have O := Lib.hid ho; have B := Lib.hid hb
    clear ho hb
    go_wp2_with fail
    go_ret
    exact ⟨v2, rfl, O.out, B.out⟩
  · obtain ⟨m, rfl⟩ : ∃ m : Nat, x = (m : Int) := ⟨x.toNat, by omega⟩
    rw [show fold (m : Int) = 2 * m by unfold fold; split <;> omega] at P2
    go_enter Tryd.func49, Tryd.ntmps49
    go_wp2_with fail
    refine (P2.out).mono ?_; rintro e w2 ⟨v2, rfl, ho, hb⟩
    have O := Lib.hid ho; have B := Lib.hid hb
    clear ho hb
    go_wp2_with fail
    go_ret
    exact ⟨v2, rfl, O.out, B.out⟩
end Go.Proofs.YtlmdkcpiimpniaaDoor
/- Put of the document. -/
namespace Go.Proofs.YtlmdkcpiimpniaaDoor
open Go.ChangeShapes Go.WideShapes Go.ChangeAt Go.RowKit
set_option linter.unusedVariables false
set_option linter.unusedSimpArgs false

/-- Behind appends: the bytes so far, in a block of the call's own. -/
def RpRel (w1 : World) (pre : List Nat) (g : Int → List Nat) (l : List Int) (v6 vi : Value) (wr : World) : Prop :=
  ∃ i : Nat, i ≤ l.length ∧ vi = .int .i64 i ∧ OutR 1 (encK .u8) 5 wr w1.heap.size v6 (ns (pre ++ (l.take i).flatMap g)) ∧ Below w1.heap.size w1 wr
set_option maxRecDepth 100000 in
set_option maxHeartbeats 16000000 in
theorem rput {w : World} {r : Rp} {a a' : Option Addr} {c c' : Nat} (h : LsR w r a c a' c') (hI : RpIn r) (hl1 : r.ids.length ≤ 1000000) (hl2 : r.nums.length ≤ 1000000) :
    Calls Tryd.prog 23 #[.agg (rpV r a c a' c')] w (PutS w r) := by
  obtain ⟨i0, hi, hz0, hz1, hz2⟩ := info_parts info5
  have hA : Hid (Below w.heap.size w (w.alloc (.cells (rpV r a c a' c') 27))) := Lib.hid (Below.alloc (Below.refl _ _) (Nat.le_refl _) _)
  have X := Lib.hid (block_new w (.cells (rpV r a c a' c') 27))
  have PC := Lib.hid (rcheck (w := w.alloc (.cells (rpV r a c a' c') 27)) r a c a' c' (by omega) (by omega))
  by_cases hk : chk r = 0
  · have HP := Lib.hid (show putZ r = _ from (if_pos hk).trans (putR_eq r))
    obtain ⟨hf, g1, g2⟩ := chk_fits hk
    obtain ⟨o0, o1, e0, e1⟩ := op_er hf
    have HL := Lib.hid h
    have RI : Hid (∀ x ∈ ns r.ids, 0 ≤ x ∧ x ≤ 18446744073709551615) := Lib.hid (fun x hx => by
      unfold ns at hx
      obtain ⟨y, hy, rfl⟩ := List.mem_map.1 hx
      have := hI.ids y hy; omega)
    have RN := Lib.hid hI.nums
    rw [hk] at PC
    unfold PutS
    rw [hk]
    clear h hI hf hk
    unfold rpV at *
    have LI := Lib.hid (fun w' (hb : Below w.heap.size w w') => (HL.out.keep hb).i)
    have LN := Lib.hid (fun w' (hb : Below w.heap.size w w') => (HL.out.keep hb).n)
    have m1 := HL.out.i.hle; have m2 := HL.out.i.hmax; have m3 := HL.out.n.hle; have m4 := HL.out.n.hmax
    unfold maxLen at m2 m4
    clear HL
    generalize putZ r = Z at *
    obtain ⟨op, er, yes, ids, nums⟩ := r
    simp only at *
    generalize ns ids = zi at *
    have LZ : Hid (zi.length = ids.length ∧ True) := Lib.hid ⟨((LI.out w (Below.refl _ _)).hlen).symm, trivial⟩
    generalize ids.length = li at *
    have HLNe : Hid (∃ ln, ln = nums.length) := Lib.hid ⟨_, rfl⟩
    generalize hln : nums.length = ln at *
    have HLN := Lib.hid hln
    clear hln HLNe
    obtain ⟨o, rfl⟩ := Int.eq_ofNat_of_zero_le o0
    obtain ⟨er, rfl⟩ := Int.eq_ofNat_of_zero_le e0
    rw [Int.toNat_natCast, Int.toNat_natCast] at HP
    have c1 : (o : Int) % 256 = (o : Int) := by omega
    have c2 : (er : Int) % 256 = (er : Int) := by omega
    cases yes
    · go_enter Tryd.func23, Tryd.ntmps23
      go_wp2_with fail
      refine (PC.out).mono ?_; rintro e w1 ⟨rfl, hb1⟩
      have B1 := Lib.hid (hA.out.trans (hb1.mono hA.out.size))
      have X1 := (hb1.block _ (lt_of_block X.out)).trans X.out
      have x0 : w1.cell? ⟨w.heap.size, 0, none⟩ = some (.int .i64 (o : Int)) := cell_of X1 0
      have x1 : w1.cell? ⟨w.heap.size, 1, none⟩ = some (.int .i64 (er : Int)) := cell_of X1 1
      have x2 : w1.cell? ⟨w.heap.size, 2, none⟩ = some (.bool false) := cell_of X1 2
      have x3 : w1.cell? ⟨w.heap.size, 3, none⟩ = some (.slice a li c) := cell_of X1 3
      have gl := lt_of_block X1
      have HX1 := Lib.hid X1
      have BX : Hid (∀ w', Below w1.heap.size w1 w' → w'.cell? ⟨w.heap.size, 3, none⟩ = some (.slice a li c) ∧ w'.cell? ⟨w.heap.size, 4, none⟩ = some (.slice a' ln c')) := Lib.hid (fun w' hb => by
        have h2 := (hb.block _ gl).trans HX1.out
        exact ⟨cell_of h2 3, cell_of h2 4⟩)
      have A1 := Lib.hid (Below.alloc (Below.refl w1.heap.size w1) (Nat.le_refl _) (.cells #[.int .u8 (o : Int), .int .u8 (er : Int), .int .u8 0] 5))
      have O1 := Lib.hid (blk3 w1 o er 0)
      have P1 := Lib.hid (run_ (w := w1.alloc (.cells #[.int .u8 (o : Int), .int .u8 (er : Int), .int .u8 0] 5)) (x := li) (by omega))
      have hvl := vi_len (x := li) (by omega)
      have hvn := vi_len (x := ln) (by omega)
      have HV := Lib.hid (show (vi li).length ≤ 10 ∧ (vi ln).length ≤ 10 from ⟨hvl, hvn⟩)
      clear hb1 X1 PC
      go_wp2_with fail
      refine (P1.out).mono ?_; rintro e w2 ⟨v2, rfl, ho2, hb2⟩
      obtain ⟨a2, q2, rfl, hS2⟩ := ho2.sl
      have S2 := Lib.hid hS2
      have O2 := Lib.hid (O1.out.below hb2)
      have B2 := Lib.hid (A1.out.trans (hb2.mono A1.out.size))
      have hB2 := B2.out.size
      rw [ns_len] at S2 ⊢
      have hl2 : (ns [o, er, 0]).length + (vi li).length ≤ 1099511627776 := by rw [ns_len]; simp only [List.length_cons, List.length_nil]; omega
      obtain ⟨nv, hnv⟩ : ∃ nv, (vi li).length = nv := ⟨_, rfl⟩
      rw [hnv] at S2 hl2 ⊢
      clear ho2 hb2 hS2 P1 hvl hvn hnv
      go_wp2_with (at_builtin; refine wpList_appS rfl (.tmp 24) (.tmp 29) 31 rfl 5 i0 .u8 1 Tryd.underlying31 hi hz0 hz1 hz2 (by decide) rfl O2.out hB2 S2.out rfl hl2 ?_)
      intro v3 w3 h1 h2 h3 h4
      have O3 : Hid (OutR 1 (encK .u8) 5 w3 w1.heap.size v3 (ns ([o, er, 0] ++ vi li))) := Lib.hid (by rw [ns_cat]; exact h1)
      have B3 := Lib.hid (B2.out.trans h3)
      have HPL : Hid (([o, er, 0] ++ vi li).length ≤ 13) := Lib.hid (by have := HV.out; rw [List.length_append]; simp only [List.length_cons, List.length_nil]; omega)
      obtain ⟨pre, hpre⟩ : ∃ p, p = [o, er, 0] ++ vi li := ⟨_, rfl⟩
      rw [← hpre] at O3 HPL
      have HPRE := Lib.hid hpre
      clear h1 h2 h3 h4 O2 S2 hl2 hpre O1 A1
      go_wp2_with fail
      go_loopw [6, 7] (fun v6 v7 wr => RpRel w1 pre viI zi v6 v7 wr) (fun _ v7 _ => li - (intOf v7).toNat)
      case atStart => exact ⟨0, Nat.zero_le _, rfl, by simpa using O3.out, B3.out⟩
      case round =>
        obtain ⟨i, hil0, rfl, ho, hb⟩ := hrel
        have O := Lib.hid ho; have B := Lib.hid hb
        have hBr := hb.size
        clear ho hb O3 B3 x0 x1 x2 x3
        obtain ⟨x3, x4⟩ := BX.out wr B.out
        obtain ⟨a6, m6, q6, rfl⟩ : ∃ a n c, u6 = .slice a n c := by obtain ⟨a, c, e⟩ := own_shape O.out.row; exact ⟨a, _, c, e⟩
        by_cases hlt : i < li
        · have hil : i < zi.length := by have := LZ.out.1; omega
          have FT := Lib.hid (flatI_take (g := viI) hil)
          have HSw := LI.out wr (B1.out.trans (B.out.mono B1.out.size))
          obtain ⟨b, off, rfl, _, _⟩ := HSw.at_ (by intro h; rw [h, List.length_nil] at hil; omega)
          have y0 := HSw.cellK (i := i) hil
          have hx := RI.out (zi.getD i 0) (by simp [hil])
          have hfl := flatI_le (g := viI) (zi.take i) (fun x hx => viI_len (RI.out x (List.mem_of_mem_take hx)))
          have hpl : (pre ++ (zi.take i).flatMap viI).length ≤ 10000000 := by
            rw [List.length_append]
            have : (zi.take i).length ≤ i := by simp; omega
            have := HPL.out
            omega
          have hgx := viI_len hx
          have P2 := Lib.hid (run_ (w := wr) (x := (zi.getD i 0).toNat) (by omega))
          generalize (zi.take i).flatMap viI = done at *
          generalize zi.getD i 0 = x at *
          clear HSw hfl
          obtain ⟨u, rfl⟩ := Int.eq_ofNat_of_zero_le hx.1
          rw [Int.toNat_natCast] at P2
          rw [show vi u = viI (u : Int) by unfold viI; simp] at P2
          go_wp2_with fail
          refine (P2.out).mono ?_; rintro e w4 ⟨v4, rfl, ho4, hb4⟩
          obtain ⟨a4, c4, rfl, hS4⟩ := ho4.sl
          have B4 := Lib.hid (B.out.trans (hb4.mono hBr))
          have O4 := Lib.hid (O.out.below hb4)
          have hB4 := B4.out.size
          have S4 := Lib.hid hS4
          clear ho4 hb4 hS4 P2 y0 x3 x4
          rw [ns_len] at S4 ⊢
          have HL4 := Lib.hid (show (ns (pre ++ done)).length + (viI (u : Int)).length ≤ 1099511627776 by rw [ns_len]; omega)
          clear hpl
          generalize hgl : (viI (u : Int)).length = ng at *
          clear hgl
          go_wp2_with (at_builtin; refine wpList_appS rfl (.tmp 38) (.tmp 44) 31 rfl 5 i0 .u8 1 Tryd.underlying31 hi hz0 hz1 hz2 (by decide) rfl O4.out hB4 S4.out rfl HL4.out ?_)
          intro v5 w5 h1 h2 h3 h4
          have O5 : Hid (OutR 1 (encK .u8) 5 w5 w1.heap.size v5 (ns (pre ++ (done ++ viI (u : Int))))) := Lib.hid (by rw [← List.append_assoc, ns_cat (pre ++ done)]; exact h1)
          have B5 := Lib.hid (B4.out.trans h3)
          clear h1 h2 h3 h4
          go_wp2_with fail
          go_roundw
          case rel => exact ⟨i + 1, by omega, by go_num, by rw [FT.out]; exact O5.out, B5.out⟩
          case measure => simp [intOf]; omega
        · have OE : Hid (OutR 1 (encK .u8) 5 wr w1.heap.size (.slice a6 m6 q6) (ns (pre ++ zi.flatMap viI))) := Lib.hid (by
            have := O.out
            rwa [List.take_of_length_le (by have := LZ.out.1; omega)] at this)
          have HE : Hid ((pre ++ zi.flatMap viI).length ≤ 700000) := Lib.hid (by
            have hfl := flatI_le (g := viI) zi (fun x hx => viI_len (RI.out x hx))
            have := HPL.out
            have := LZ.out.1
            rw [List.length_append]; omega)
          obtain ⟨mid, hmid⟩ : ∃ p, p = pre ++ zi.flatMap viI := ⟨_, rfl⟩
          rw [← hmid] at OE HE
          have HMID := Lib.hid hmid
          have P3 := Lib.hid (run_ (w := wr) (x := ln) (by omega))
          clear O hmid
          go_wp2_with fail
          refine (P3.out).mono ?_; rintro e w6 ⟨v6, rfl, ho6, hb6⟩
          obtain ⟨a7, q7, rfl, hS6⟩ := ho6.sl
          have S6 := Lib.hid hS6
          have O6 := Lib.hid (OE.out.below hb6)
          have B6 := Lib.hid (B.out.trans (hb6.mono hBr))
          have hB6 := B6.out.size
          rw [ns_len] at S6 ⊢
          have HL6 := Lib.hid (show (ns mid).length + (vi ln).length ≤ 1099511627776 by have := HV.out; have := HE.out; rw [ns_len]; omega)
          obtain ⟨nw, hnw⟩ : ∃ nv, (vi ln).length = nv := ⟨_, rfl⟩
          rw [hnw] at S6 HL6 ⊢
          clear ho6 hb6 hS6 P3 hnw x3 x4 hBr
          go_wp2_with (at_builtin; refine wpList_appS rfl (.tmp 46) (.tmp 51) 31 rfl 5 i0 .u8 1 Tryd.underlying31 hi hz0 hz1 hz2 (by decide) rfl O6.out hB6 S6.out rfl HL6.out ?_)
          intro v8 w8 h1 h2 h3 h4
          have O8 : Hid (OutR 1 (encK .u8) 5 w8 w1.heap.size v8 (ns (mid ++ vi ln))) := Lib.hid (by rw [ns_cat]; exact h1)
          have B8 := Lib.hid (B6.out.trans h3)
          have HE8 : Hid ((mid ++ vi ln).length ≤ 700010) := Lib.hid (by have := HV.out; have := HE.out; rw [List.length_append]; omega)
          obtain ⟨pr2, hpr2⟩ : ∃ p, p = mid ++ vi ln := ⟨_, rfl⟩
          rw [← hpr2] at O8 HE8
          have HPR2 := Lib.hid hpr2
          clear h1 h2 h3 h4 OE O6 S6 B6 hB6 hpr2 B HL6 HE
          go_wp2_with fail
          go_loopw [6, 8] (fun v6 v7 wr => RpRel w1 pr2 vf nums v6 v7 wr) (fun _ v7 _ => ln - (intOf v7).toNat)
          case atStart => exact ⟨0, Nat.zero_le _, rfl, by simpa using O8.out, B8.out⟩
          case round =>
            obtain ⟨i, hil0, rfl, ho, hb⟩ := hrel
            have O := Lib.hid ho; have B := Lib.hid hb
            have hBr := hb.size
            clear ho hb O8 B8
            obtain ⟨x3, x4⟩ := BX.out wr B.out
            obtain ⟨a9, m9, q9, rfl⟩ : ∃ a n c, u6 = .slice a n c := by obtain ⟨a, c, e⟩ := own_shape O.out.row; exact ⟨a, _, c, e⟩
            by_cases hlt : i < ln
            · have hil : i < nums.length := by have := HLN.out; omega
              have FT := Lib.hid (flatI_take (g := vf) hil)
              have HSw := LN.out wr (B1.out.trans (B.out.mono B1.out.size))
              obtain ⟨b, off, rfl, _, _⟩ := HSw.at_ (by intro h; rw [h, List.length_nil] at hil; omega)
              have y0 := HSw.cellK (i := i) hil
              have hx := RN.out (nums.getD i 0) (by simp [hil])
              have hfl := flatI_le (g := vf) (nums.take i) (fun x hx => vf_len (RN.out x (List.mem_of_mem_take hx)))
              have hpl : (pr2 ++ (nums.take i).flatMap vf).length ≤ 10000000 := by
                rw [List.length_append]
                have : (nums.take i).length ≤ i := by simp; omega
                have := HE8.out
                omega
              have hgx := vf_len hx
              have P2 := Lib.hid (rsig (w := wr) hx)
              generalize (nums.take i).flatMap vf = done at *
              generalize nums.getD i 0 = x at *
              clear HSw hfl
              go_wp2_with fail
              refine (P2.out).mono ?_; rintro e w4 ⟨v4, rfl, ho4, hb4⟩
              obtain ⟨a4, c4, rfl, hS4⟩ := ho4.sl
              have B4 := Lib.hid (B.out.trans (hb4.mono hBr))
              have O4 := Lib.hid (O.out.below hb4)
              have hB4 := B4.out.size
              have S4 := Lib.hid hS4
              clear ho4 hb4 hS4 P2 y0 x3 x4
              rw [ns_len] at S4 ⊢
              have HL4 := Lib.hid (show (ns (pr2 ++ done)).length + (vf x).length ≤ 1099511627776 by rw [ns_len]; omega)
              clear hpl
              generalize hgl : (vf x).length = ng at *
              clear hgl
              go_wp2_with (at_builtin; refine wpList_appS rfl (.tmp 60) (.tmp 66) 31 rfl 5 i0 .u8 1 Tryd.underlying31 hi hz0 hz1 hz2 (by decide) rfl O4.out hB4 S4.out rfl HL4.out ?_)
              intro v5 w5 h1 h2 h3 h4
              have O5 : Hid (OutR 1 (encK .u8) 5 w5 w1.heap.size v5 (ns (pr2 ++ (done ++ vf x)))) := Lib.hid (by rw [← List.append_assoc, ns_cat (pr2 ++ done)]; exact h1)
              have B5 := Lib.hid (B4.out.trans h3)
              clear h1 h2 h3 h4
              go_wp2_with fail
              go_roundw
              case rel => exact ⟨i + 1, by omega, by go_num, by rw [FT.out]; exact O5.out, B5.out⟩
              case measure => simp [intOf]; omega
            · have OE : Hid (OutR 1 (encK .u8) 5 wr w1.heap.size (.slice a9 m9 q9) (ns Z)) := Lib.hid (by
                have := O.out
                rw [List.take_of_length_le (by have := HLN.out; omega), HPR2.out, HMID.out, HPRE.out] at this
                rw [HP.out]
                simpa using this)
              obtain ⟨b9, p9, hv9, hS9⟩ := OE.out.sl
              have HV9 := Lib.hid hv9; have S9 := Lib.hid hS9
              have BF := Lib.hid (B1.out.trans (B.out.mono B1.out.size))
              clear hv9 hS9 O
              go_wp2_with fail
              go_ret2
              exact ⟨b9, _, p9, by rw [← HV9.out]; rfl, by simpa using S9.out, BF.out⟩
    · go_enter Tryd.func23, Tryd.ntmps23
      go_wp2_with fail
      refine (PC.out).mono ?_; rintro e w1 ⟨rfl, hb1⟩
      have B1 := Lib.hid (hA.out.trans (hb1.mono hA.out.size))
      have X1 := (hb1.block _ (lt_of_block X.out)).trans X.out
      have x0 : w1.cell? ⟨w.heap.size, 0, none⟩ = some (.int .i64 (o : Int)) := cell_of X1 0
      have x1 : w1.cell? ⟨w.heap.size, 1, none⟩ = some (.int .i64 (er : Int)) := cell_of X1 1
      have x2 : w1.cell? ⟨w.heap.size, 2, none⟩ = some (.bool true) := cell_of X1 2
      have x3 : w1.cell? ⟨w.heap.size, 3, none⟩ = some (.slice a li c) := cell_of X1 3
      have gl := lt_of_block X1
      have HX1 := Lib.hid X1
      have BX : Hid (∀ w', Below w1.heap.size w1 w' → w'.cell? ⟨w.heap.size, 3, none⟩ = some (.slice a li c) ∧ w'.cell? ⟨w.heap.size, 4, none⟩ = some (.slice a' ln c')) := Lib.hid (fun w' hb => by
        have h2 := (hb.block _ gl).trans HX1.out
        exact ⟨cell_of h2 3, cell_of h2 4⟩)
      have A1 := Lib.hid (Below.alloc (Below.refl w1.heap.size w1) (Nat.le_refl _) (.cells #[.int .u8 (o : Int), .int .u8 (er : Int), .int .u8 1] 5))
      have O1 := Lib.hid (blk3 w1 o er 1)
      have P1 := Lib.hid (run_ (w := w1.alloc (.cells #[.int .u8 (o : Int), .int .u8 (er : Int), .int .u8 1] 5)) (x := li) (by omega))
      have hvl := vi_len (x := li) (by omega)
      have hvn := vi_len (x := ln) (by omega)
      have HV := Lib.hid (show (vi li).length ≤ 10 ∧ (vi ln).length ≤ 10 from ⟨hvl, hvn⟩)
      clear hb1 X1 PC
      go_wp2_with fail
      refine (P1.out).mono ?_; rintro e w2 ⟨v2, rfl, ho2, hb2⟩
      obtain ⟨a2, q2, rfl, hS2⟩ := ho2.sl
      have S2 := Lib.hid hS2
      have O2 := Lib.hid (O1.out.below hb2)
      have B2 := Lib.hid (A1.out.trans (hb2.mono A1.out.size))
      have hB2 := B2.out.size
      rw [ns_len] at S2 ⊢
      have hl2 : (ns [o, er, 1]).length + (vi li).length ≤ 1099511627776 := by rw [ns_len]; simp only [List.length_cons, List.length_nil]; omega
      obtain ⟨nv, hnv⟩ : ∃ nv, (vi li).length = nv := ⟨_, rfl⟩
      rw [hnv] at S2 hl2 ⊢
      clear ho2 hb2 hS2 P1 hvl hvn hnv
      go_wp2_with (at_builtin; refine wpList_appS rfl (.tmp 24) (.tmp 29) 31 rfl 5 i0 .u8 1 Tryd.underlying31 hi hz0 hz1 hz2 (by decide) rfl O2.out hB2 S2.out rfl hl2 ?_)
      intro v3 w3 h1 h2 h3 h4
      have O3 : Hid (OutR 1 (encK .u8) 5 w3 w1.heap.size v3 (ns ([o, er, 1] ++ vi li))) := Lib.hid (by rw [ns_cat]; exact h1)
      have B3 := Lib.hid (B2.out.trans h3)
      have HPL : Hid (([o, er, 1] ++ vi li).length ≤ 13) := Lib.hid (by have := HV.out; rw [List.length_append]; simp only [List.length_cons, List.length_nil]; omega)
      obtain ⟨pre, hpre⟩ : ∃ p, p = [o, er, 1] ++ vi li := ⟨_, rfl⟩
      rw [← hpre] at O3 HPL
      have HPRE := Lib.hid hpre
      clear h1 h2 h3 h4 O2 S2 hl2 hpre O1 A1
      go_wp2_with fail
      go_loopw [6, 7] (fun v6 v7 wr => RpRel w1 pre viI zi v6 v7 wr) (fun _ v7 _ => li - (intOf v7).toNat)
      case atStart => exact ⟨0, Nat.zero_le _, rfl, by simpa using O3.out, B3.out⟩
      case round =>
        obtain ⟨i, hil0, rfl, ho, hb⟩ := hrel
        have O := Lib.hid ho; have B := Lib.hid hb
        have hBr := hb.size
        clear ho hb O3 B3 x0 x1 x2 x3
        obtain ⟨x3, x4⟩ := BX.out wr B.out
        obtain ⟨a6, m6, q6, rfl⟩ : ∃ a n c, u6 = .slice a n c := by obtain ⟨a, c, e⟩ := own_shape O.out.row; exact ⟨a, _, c, e⟩
        by_cases hlt : i < li
        · have hil : i < zi.length := by have := LZ.out.1; omega
          have FT := Lib.hid (flatI_take (g := viI) hil)
          have HSw := LI.out wr (B1.out.trans (B.out.mono B1.out.size))
          obtain ⟨b, off, rfl, _, _⟩ := HSw.at_ (by intro h; rw [h, List.length_nil] at hil; omega)
          have y0 := HSw.cellK (i := i) hil
          have hx := RI.out (zi.getD i 0) (by simp [hil])
          have hfl := flatI_le (g := viI) (zi.take i) (fun x hx => viI_len (RI.out x (List.mem_of_mem_take hx)))
          have hpl : (pre ++ (zi.take i).flatMap viI).length ≤ 10000000 := by
            rw [List.length_append]
            have : (zi.take i).length ≤ i := by simp; omega
            have := HPL.out
            omega
          have hgx := viI_len hx
          have P2 := Lib.hid (run_ (w := wr) (x := (zi.getD i 0).toNat) (by omega))
          generalize (zi.take i).flatMap viI = done at *
          generalize zi.getD i 0 = x at *
          clear HSw hfl
          obtain ⟨u, rfl⟩ := Int.eq_ofNat_of_zero_le hx.1
          rw [Int.toNat_natCast] at P2
          rw [show vi u = viI (u : Int) by unfold viI; simp] at P2
          go_wp2_with fail
          refine (P2.out).mono ?_; rintro e w4 ⟨v4, rfl, ho4, hb4⟩
          obtain ⟨a4, c4, rfl, hS4⟩ := ho4.sl
          have B4 := Lib.hid (B.out.trans (hb4.mono hBr))
          have O4 := Lib.hid (O.out.below hb4)
          have hB4 := B4.out.size
          have S4 := Lib.hid hS4
          clear ho4 hb4 hS4 P2 y0 x3 x4
          rw [ns_len] at S4 ⊢
          have HL4 := Lib.hid (show (ns (pre ++ done)).length + (viI (u : Int)).length ≤ 1099511627776 by rw [ns_len]; omega)
          clear hpl
          generalize hgl : (viI (u : Int)).length = ng at *
          clear hgl
          go_wp2_with (at_builtin; refine wpList_appS rfl (.tmp 38) (.tmp 44) 31 rfl 5 i0 .u8 1 Tryd.underlying31 hi hz0 hz1 hz2 (by decide) rfl O4.out hB4 S4.out rfl HL4.out ?_)
          intro v5 w5 h1 h2 h3 h4
          have O5 : Hid (OutR 1 (encK .u8) 5 w5 w1.heap.size v5 (ns (pre ++ (done ++ viI (u : Int))))) := Lib.hid (by rw [← List.append_assoc, ns_cat (pre ++ done)]; exact h1)
          have B5 := Lib.hid (B4.out.trans h3)
          clear h1 h2 h3 h4
          go_wp2_with fail
          go_roundw
          case rel => exact ⟨i + 1, by omega, by go_num, by rw [FT.out]; exact O5.out, B5.out⟩
          case measure => simp [intOf]; omega
        · have OE : Hid (OutR 1 (encK .u8) 5 wr w1.heap.size (.slice a6 m6 q6) (ns (pre ++ zi.flatMap viI))) := Lib.hid (by
            have := O.out
            rwa [List.take_of_length_le (by have := LZ.out.1; omega)] at this)
          have HE : Hid ((pre ++ zi.flatMap viI).length ≤ 700000) := Lib.hid (by
            have hfl := flatI_le (g := viI) zi (fun x hx => viI_len (RI.out x hx))
            have := HPL.out
            have := LZ.out.1
            rw [List.length_append]; omega)
          obtain ⟨mid, hmid⟩ : ∃ p, p = pre ++ zi.flatMap viI := ⟨_, rfl⟩
          rw [← hmid] at OE HE
          have HMID := Lib.hid hmid
          have P3 := Lib.hid (run_ (w := wr) (x := ln) (by omega))
          clear O hmid
          go_wp2_with fail
          refine (P3.out).mono ?_; rintro e w6 ⟨v6, rfl, ho6, hb6⟩
          obtain ⟨a7, q7, rfl, hS6⟩ := ho6.sl
          have S6 := Lib.hid hS6
          have O6 := Lib.hid (OE.out.below hb6)
          have B6 := Lib.hid (B.out.trans (hb6.mono hBr))
          have hB6 := B6.out.size
          rw [ns_len] at S6 ⊢
          have HL6 := Lib.hid (show (ns mid).length + (vi ln).length ≤ 1099511627776 by have := HV.out; have := HE.out; rw [ns_len]; omega)
          obtain ⟨nw, hnw⟩ : ∃ nv, (vi ln).length = nv := ⟨_, rfl⟩
          rw [hnw] at S6 HL6 ⊢
          clear ho6 hb6 hS6 P3 hnw x3 x4 hBr
          go_wp2_with (at_builtin; refine wpList_appS rfl (.tmp 46) (.tmp 51) 31 rfl 5 i0 .u8 1 Tryd.underlying31 hi hz0 hz1 hz2 (by decide) rfl O6.out hB6 S6.out rfl HL6.out ?_)
          intro v8 w8 h1 h2 h3 h4
          have O8 : Hid (OutR 1 (encK .u8) 5 w8 w1.heap.size v8 (ns (mid ++ vi ln))) := Lib.hid (by rw [ns_cat]; exact h1)
          have B8 := Lib.hid (B6.out.trans h3)
          have HE8 : Hid ((mid ++ vi ln).length ≤ 700010) := Lib.hid (by have := HV.out; have := HE.out; rw [List.length_append]; omega)
          obtain ⟨pr2, hpr2⟩ : ∃ p, p = mid ++ vi ln := ⟨_, rfl⟩
          rw [← hpr2] at O8 HE8
          have HPR2 := Lib.hid hpr2
          clear h1 h2 h3 h4 OE O6 S6 B6 hB6 hpr2 B HL6 HE
          go_wp2_with fail
          go_loopw [6, 8] (fun v6 v7 wr => RpRel w1 pr2 vf nums v6 v7 wr) (fun _ v7 _ => ln - (intOf v7).toNat)
          case atStart => exact ⟨0, Nat.zero_le _, rfl, by simpa using O8.out, B8.out⟩
          case round =>
            obtain ⟨i, hil0, rfl, ho, hb⟩ := hrel
            have O := Lib.hid ho; have B := Lib.hid hb
            have hBr := hb.size
            clear ho hb O8 B8
            obtain ⟨x3, x4⟩ := BX.out wr B.out
            obtain ⟨a9, m9, q9, rfl⟩ : ∃ a n c, u6 = .slice a n c := by obtain ⟨a, c, e⟩ := own_shape O.out.row; exact ⟨a, _, c, e⟩
            by_cases hlt : i < ln
            · have hil : i < nums.length := by have := HLN.out; omega
              have FT := Lib.hid (flatI_take (g := vf) hil)
              have HSw := LN.out wr (B1.out.trans (B.out.mono B1.out.size))
              obtain ⟨b, off, rfl, _, _⟩ := HSw.at_ (by intro h; rw [h, List.length_nil] at hil; omega)
              have y0 := HSw.cellK (i := i) hil
              have hx := RN.out (nums.getD i 0) (by simp [hil])
              have hfl := flatI_le (g := vf) (nums.take i) (fun x hx => vf_len (RN.out x (List.mem_of_mem_take hx)))
              have hpl : (pr2 ++ (nums.take i).flatMap vf).length ≤ 10000000 := by
                rw [List.length_append]
                have : (nums.take i).length ≤ i := by simp; omega
                have := HE8.out
                omega
              have hgx := vf_len hx
              have P2 := Lib.hid (rsig (w := wr) hx)
              generalize (nums.take i).flatMap vf = done at *
              generalize nums.getD i 0 = x at *
              clear HSw hfl
              go_wp2_with fail
              refine (P2.out).mono ?_; rintro e w4 ⟨v4, rfl, ho4, hb4⟩
              obtain ⟨a4, c4, rfl, hS4⟩ := ho4.sl
              have B4 := Lib.hid (B.out.trans (hb4.mono hBr))
              have O4 := Lib.hid (O.out.below hb4)
              have hB4 := B4.out.size
              have S4 := Lib.hid hS4
              clear ho4 hb4 hS4 P2 y0 x3 x4
              rw [ns_len] at S4 ⊢
              have HL4 := Lib.hid (show (ns (pr2 ++ done)).length + (vf x).length ≤ 1099511627776 by rw [ns_len]; omega)
              clear hpl
              generalize hgl : (vf x).length = ng at *
              clear hgl
              go_wp2_with (at_builtin; refine wpList_appS rfl (.tmp 60) (.tmp 66) 31 rfl 5 i0 .u8 1 Tryd.underlying31 hi hz0 hz1 hz2 (by decide) rfl O4.out hB4 S4.out rfl HL4.out ?_)
              intro v5 w5 h1 h2 h3 h4
              have O5 : Hid (OutR 1 (encK .u8) 5 w5 w1.heap.size v5 (ns (pr2 ++ (done ++ vf x)))) := Lib.hid (by rw [← List.append_assoc, ns_cat (pr2 ++ done)]; exact h1)
              have B5 := Lib.hid (B4.out.trans h3)
              clear h1 h2 h3 h4
              go_wp2_with fail
              go_roundw
              case rel => exact ⟨i + 1, by omega, by go_num, by rw [FT.out]; exact O5.out, B5.out⟩
              case measure => simp [intOf]; omega
            · have OE : Hid (OutR 1 (encK .u8) 5 wr w1.heap.size (.slice a9 m9 q9) (ns Z)) := Lib.hid (by
                have := O.out
                rw [List.take_of_length_le (by have := HLN.out; omega), HPR2.out, HMID.out, HPRE.out] at this
                rw [HP.out]
                simpa using this)
              obtain ⟨b9, p9, hv9, hS9⟩ := OE.out.sl
              have HV9 := Lib.hid hv9; have S9 := Lib.hid hS9
              have BF := Lib.hid (B1.out.trans (B.out.mono B1.out.size))
              clear hv9 hS9 O
              go_wp2_with fail
              go_ret2
              exact ⟨b9, _, p9, by rw [← HV9.out]; rfl, by simpa using S9.out, BF.out⟩
  · have HP := Lib.hid (show putZ r = [] from if_neg hk)
    have e1 : (chk r == 0) = false := by simpa using hk
    have e2 : (chk r != 0) = true := by simpa using hk
    unfold PutS
    generalize putZ r = Z at *
    generalize chk r = K at *
    clear h hI hk
    unfold rpV at *
    obtain ⟨op, er, yes, ids, nums⟩ := r
    simp only at *
    generalize ids.length = li at *
    generalize nums.length = ln at *
    go_enter Tryd.func23, Tryd.ntmps23
    go_wp2_with fail
    refine (PC.out).mono ?_; rintro e w1 ⟨rfl, hb1⟩
    have B1 := Lib.hid (hA.out.trans (hb1.mono hA.out.size))
    clear hb1
    go_wp2_with fail
    go_ret2
    exact ⟨none, 0, 0, rfl, by rw [HP.out]; exact nil_u8 _, B1.out⟩
end Go.Proofs.YtlmdkcpiimpniaaDoor

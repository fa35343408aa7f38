/- The chapter's examples, in plain; strings of bytes. -/
import Derived.Test.YtlmdkcpiimpniaaDoorVg
import Derived.Test.YtlmdkcpiimpniaaDoorLg
import Derived.Test.YtlmdkcpiimpniaaDoorSd
import Derived.Test.YtlmdkcpiimpniaaDoorTd
import Derived.Laws.BytesString
namespace Go.Proofs.YtlmdkcpiimpniaaDoor
open Go.ChangeShapes Go.WideShapes Go.ChangeAt Go.RowKit
set_option linter.unusedVariables false
set_option linter.unusedSimpArgs false

/-- The string of some bytes. -/
def strB (b : List Nat) : Str := b.map UInt8.ofNat
theorem ns_strB {b : List Nat} (hb : ∀ x ∈ b, x < 256) : ns b = us (strB b) := by
  unfold ns us strB
  rw [List.map_map]
  refine List.map_congr_left (fun x hx => ?_)
  have := hb x hx
  show (x : Int) = ((UInt8.ofNat x).toNat : Int)
  rw [UInt8.toNat_ofNat', Nat.mod_eq_of_lt (by omega)]
theorem strB_inj {b c : List Nat} (hb : ∀ x ∈ b, x < 256) (hc : ∀ x ∈ c, x < 256) : strB b = strB c ↔ b = c := by
  constructor
  · intro h
    rw [← ns_inj, ns_strB hb, ns_strB hc, h]
  · rintro rfl; rfl
theorem conv_sl {w : World} {a : Option Addr} {n c : Nat} {b : List Nat} (h : IsK .u8 w a n c (ns b)) (hb : ∀ x ∈ b, x < 256) : (convert 31 9 (.slice a n c)).run Tryd.prog w = .ok (.string ⟨(strB b).toArray⟩) w := by
  rw [ns_strB hb] at h
  have hn := h.hlen
  rw [us_len] at hn
  subst hn
  by_cases hne : strB b = []
  · rw [hne]
    rw [run_convert_bytes_string w 31 9 5 a _ c Tryd.underlying31 Tryd.underlying5 Tryd.underlying9]
    cases a <;> simp [Conv.bytesToString, loadCells]
    all_goals rfl
  · obtain ⟨g, off, rfl, _, hc⟩ := h.at_ (fun e => hne (by simpa [us] using e))
    refine run_convert_bytes_back w 31 9 5 ⟨g, off, none⟩ c (strB b) Tryd.underlying31 Tryd.underlying5 Tryd.underlying9 (fun j hj => ?_)
    have h1 := hc j (by rw [us_len]; exact hj) 0 (by omega)
    simp only [Nat.mul_one, Nat.add_zero] at h1
    rw [addr_add, h1]
    simp [encK, us]
def ex1 : Rp := ⟨6, 0, false, [300], [-2]⟩
def ex2 : Rp := ⟨9, 0, false, [1, 2, 1, 3], [5, 7]⟩
def ex3 : Rp := ⟨2, 10, false, [], []⟩
def exS : Str := [116, 105, 99, 107, 32, 101, 114, 114, 111, 114, 32, 49, 48]
def exL : Str := [109, 101, 114, 103, 101, 115, 32, 111, 107, 32, 49, 32, 50, 32, 53, 32, 49, 32, 51, 32, 55]
theorem ex1_chk : chk ex1 = 0 := by decide +kernel
theorem ex1_put : putR ex1 = [6, 0, 0, 1, 172, 2, 1, 3] := by decide +kernel
theorem ex2_chk : chk ex2 = 0 := by decide +kernel
theorem ex2_line : lineS ex2 = exL := by decide +kernel
theorem ex3_chk : chk ex3 = 0 := by decide +kernel
theorem ex3_line : lineS ex3 = exS := by decide +kernel
theorem ex3_in : RpIn ex3 := ⟨fun x hx => (by cases hx), fun x hx => (by cases hx)⟩
theorem ex1_in : RpIn ex1 := ⟨fun x hx => (by simp [ex1] at hx; omega), fun x hx => (by simp [ex1] at hx; omega)⟩
theorem ex2_in : RpIn ex2 := ⟨fun x hx => (by simp [ex2] at hx; omega), fun x hx => (by simp [ex2] at hx; omega)⟩
theorem ex3_parse : parseR exS = some ex3 := by rw [← ex3_line]; exact parseR_line ex3_chk ex3_in
end Go.Proofs.YtlmdkcpiimpniaaDoor
/- The chapter's examples hold: works. -/
namespace Go.Proofs.YtlmdkcpiimpniaaDoor
open Go.ChangeShapes Go.WideShapes Go.ChangeAt Go.RowKit
set_option linter.unusedVariables false
set_option linter.unusedSimpArgs false

def wA (w : World) (xs : List Value) (t : TypeId) (ys : List Value) (t' : TypeId) : World := (w.alloc (.cells xs.toArray t)).alloc (.cells ys.toArray t')
theorem wA_lists (w : World) (r : Rp) (h1 : r.ids.length ≤ maxLen) (h2 : r.nums.length ≤ maxLen) : LsR (wA w (vs .u64 (ns r.ids)) 28 (vs .i64 r.nums) 2) r (some ⟨w.heap.size, 0, none⟩) r.ids.length (some ⟨w.heap.size + 1, 0, none⟩) r.nums.length := by
  have e : (w.alloc (.cells (vs .u64 (ns r.ids)).toArray 28)).heap.size = w.heap.size + 1 := by simp
  refine ⟨IsSl.of_block (encK_len _) (f := (0, 0)) (t := 28) (block_old (block_new w _) _) ?_ (ns_len _).symm h1, ?_⟩
  · rw [flat_K]
  · have := block_new (w.alloc (.cells (vs .u64 (ns r.ids)).toArray 28)) (.cells (vs .i64 r.nums).toArray 2)
    rw [e] at this
    exact IsSl.of_block (encK_len _) (f := (0, 0)) (t := 2) this (by rw [flat_K]) rfl h2
theorem wA_below (w : World) (xs : List Value) (t : TypeId) (ys : List Value) (t' : TypeId) : Below w.heap.size w (wA w xs t ys t') := (Below.alloc (Below.refl _ _) (Nat.le_refl _) _).alloc (by simp) _
set_option maxRecDepth 100000 in
set_option maxHeartbeats 8000000 in
theorem pworks {w : World} (hE : Env w) : Calls Tryd.prog 19 #[] w fun e w' => e = .returned (.bool true) ∧ Below w.heap.size w w' := by
  have HE := Lib.hid hE
  have A1 : Hid (Below w.heap.size w ((w.alloc (.cells #[.int .u64 300] 28)).alloc (.cells #[.int .i64 (-2)] 2))) := Lib.hid (wA_below w [.int .u64 300] 28 [.int .i64 (-2)] 2)
  have P1 : Hid (Calls Tryd.prog 12 #[.agg #[.int .i64 6, .int .i64 0, .bool false, .slice (some ⟨w.heap.size, 0, none⟩) 1 1, .slice (some ⟨w.heap.size + 1, 0, none⟩) 1 1]] ((w.alloc (.cells #[.int .u64 300] 28)).alloc (.cells #[.int .i64 (-2)] 2)) (PutS ((w.alloc (.cells #[.int .u64 300] 28)).alloc (.cells #[.int .i64 (-2)] 2)) ex1)) :=
    Lib.hid (pput (hE.below A1.out) (r := ex1) (wA_lists w ex1 (by unfold maxLen ex1; decide) (by unfold maxLen ex1; decide)) ex1_in (by decide) (by decide))
  have P2 : Hid (∀ W, Below w.heap.size w W → Calls Tryd.prog 13 #[.agg #[.int .i64 9, .int .i64 0, .bool false, .slice (some ⟨W.heap.size, 0, none⟩) 4 4, .slice (some ⟨W.heap.size + 1, 0, none⟩) 2 2]] ((W.alloc (.cells #[.int .u64 1, .int .u64 2, .int .u64 1, .int .u64 3] 28)).alloc (.cells #[.int .i64 5, .int .i64 7] 2)) fun e w' => e = .returned (.tuple #[.string ⟨#[109, 101, 114, 103, 101, 115, 32, 111, 107, 32, 49, 32, 50, 32, 53, 32, 49, 32, 51, 32, 55]⟩, .int .i64 0]) ∧ Below W.heap.size W w') := Lib.hid (fun W hb => by
    have hb2 : Below W.heap.size W (wA W (vs .u64 (ns ex2.ids)) 28 (vs .i64 ex2.nums) 2) := wA_below _ _ _ _ _
    have hb3 := hb.trans (hb2.mono hb.size)
    refine (pline_ok (hE.below hb3) (r := ex2) (wA_lists W ex2 (by unfold maxLen ex2; decide) (by unfold maxLen ex2; decide)) ex2_in ex2_chk rfl).mono ?_
    rintro e w' ⟨he, hw⟩
    refine ⟨?_, hb2.trans (hw.mono hb2.size)⟩
    rw [he]
    unfold lineZ
    rw [if_pos ex2_chk, ex2_line, ex2_chk]
    rfl)
  have P3 : Hid (∀ W, Below w.heap.size w W → Calls Tryd.prog 15 #[.string ⟨#[116, 105, 99, 107, 32, 101, 114, 114, 111, 114, 32, 49, 48]⟩] W fun e w' => ∃ a c a' c', e = .returned (.tuple #[.agg #[.int .i64 2, .int .i64 10, .bool false, .slice a 0 c, .slice a' 0 c'], .int .i64 0]) ∧ LsR w' ex3 a c a' c' ∧ Below W.heap.size W w') := Lib.hid (fun W hb => by
    refine (pparse (hE.below hb) (s := exS) (by decide)).mono ?_
    rintro e w' ⟨a, c, a', c', he, hl, hw⟩
    rw [ex3_parse] at he hl
    exact ⟨a, c, a', c', he, hl, hw⟩)
  have P4 : Hid (∀ W a c a' c', Below w.heap.size w W → LsR W ex3 a c a' c' → Calls Tryd.prog 25 #[.agg #[.int .i64 2, .int .i64 10, .bool false, .slice a 0 c, .slice a' 0 c'], .agg #[.int .i64 2, .int .i64 10, .bool false, .slice none 0 0, .slice none 0 0]] W fun e w' => e = .returned (.bool true) ∧ Below w.heap.size w w') := Lib.hid (fun W a c a' c' hb hl => by
    refine (rsame (r := ex3) (q := ex3) hl ⟨IsSl.nil _, IsSl.nil _⟩ (a := a) (c := c) (a' := a') (c' := c') (b := none) (d := 0) (b' := none) (d' := 0)).mono ?_
    rintro e w' ⟨he, hw⟩
    exact ⟨by rw [he, sameB_refl], hb.trans (hw.mono hb.size)⟩)
  have Z1 : Hid (putZ ex1 = [6, 0, 0, 1, 172, 2, 1, 3]) := Lib.hid ((if_pos ex1_chk).trans ex1_put)
  clear hE
  go_enter Tryd.func19, Tryd.ntmps19
  go_wp2_with fail
  refine (P1.out).mono ?_; rintro e w1 ⟨ba, bn, bc, rfl, hk1, hb1⟩
  rw [ex1_chk]
  have K1 := Lib.hid hk1
  have B1 := Lib.hid (A1.out.trans (hb1.mono A1.out.size))
  have Q2 := Lib.hid (P2.out _ B1.out)
  clear hk1 hb1 P1 P2
  go_wp2_with fail
  refine (Q2.out).mono ?_; rintro e w2 ⟨rfl, hb2⟩
  have K2 := Lib.hid (K1.out.below hb2)
  have B2 := Lib.hid (B1.out.trans (hb2.mono B1.out.size))
  have Q3 := Lib.hid (P3.out _ B2.out)
  clear hb2 Q2 P3 K1
  go_wp2_with fail
  refine (Q3.out).mono ?_; rintro e w3 ⟨a3, c3, a4, c4, rfl, hl, hb3⟩
  have B3 := Lib.hid (B2.out.trans (hb3.mono B2.out.size))
  have A3 := Lib.hid (Below.alloc (Below.refl w3.heap.size w3) (Nat.le_refl _) (.cells #[.int .i64 2, .int .i64 10, .bool false, .slice a3 0 c3, .slice a4 0 c4] 27))
  have B4 := Lib.hid (B3.out.trans (A3.out.mono B3.out.size))
  have L4 := Lib.hid (hl.keep A3.out)
  have Q4 := Lib.hid (P4.out _ _ _ _ _ B4.out L4.out)
  have hcv := conv_sl ((K2.out.below hb3).below A3.out) (fun x hx => put_byte ex1_chk x (by rw [Z1.out, ← ex1_put] at hx; exact hx))
  have hst : strB (putZ ex1) = [6, 0, 0, 1, 172, 2, 1, 3] := by rw [Z1.out]; rfl
  rw [hst] at hcv
  clear hb3 Q3 P4 hl K2 hst
  go_wp2_with fail
  refine (Q4.out).mono ?_; rintro e w5 ⟨rfl, hb5⟩
  have B5 := Lib.hid hb5
  clear hb5 Q4 hcv
  go_wp2_with fail
  go_ret
  exact ⟨rfl, B5.out⟩
end Go.Proofs.YtlmdkcpiimpniaaDoor

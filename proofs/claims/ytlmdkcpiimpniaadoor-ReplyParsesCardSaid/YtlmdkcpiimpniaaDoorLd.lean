/- Plain: the line of a reply, built up word by word. -/
import Derived.Test.YtlmdkcpiimpniaaDoorRe
import Derived.Test.YtlmdkcpiimpniaaDoorPj
import Derived.Test.YtlmdkcpiimpniaaDoorLb
import Derived.Test.YtlmdkcpiimpniaaDoorSd
namespace Go.Proofs.YtlmdkcpiimpniaaDoor
open Go
set_option linter.unusedVariables false
set_option linter.unusedSimpArgs false

theorem jn_flat : ∀ (a : Str) (l : List Str), jn (a :: l) = a ++ l.flatMap (fun w => 32 :: w)
  | a, [] => by simp [jn]
  | a, b :: l => by
    show a ++ 32 :: jn (b :: l) = _
    rw [jn_flat b l]; simp
/-- The first m words of the entries, each behind a space. -/
def tailW (k : Nat) (ids : List Nat) (nums : List Int) (m : Nat) : Str := (entW k ids nums m).flatMap (fun w => 32 :: w)
theorem tail_zero (k : Nat) (ids : List Nat) (nums : List Int) : tailW k ids nums 0 = [] := rfl
theorem tail_step (k : Nat) (ids : List Nat) (nums : List Int) (m : Nat) : tailW k ids nums (m + 1) = tailW k ids nums m ++ [32] ++ wW k ids nums m := by
  unfold tailW entW
  rw [List.range_succ]; simp
theorem word_id {k : Nat} {ids : List Nat} {nums : List Int} {i j : Nat} (hj : j < ki k) : wW k ids nums (i * (ki k + kn k) + j) = Lib.decDigits (ids.getD (i * ki k + j) 0) := by
  have h1 : (i * (ki k + kn k) + j) % (ki k + kn k) = j := by
    rw [Nat.add_comm, Nat.mul_comm i, Nat.add_mul_mod_self_left]; exact Nat.mod_eq_of_lt (by omega)
  have h2 : (i * (ki k + kn k) + j) / (ki k + kn k) = i := by
    rw [Nat.add_comm, Nat.mul_comm i, Nat.add_mul_div_left _ _ (by omega), Nat.div_eq_of_lt (by omega), Nat.zero_add]
  unfold wW cI
  rw [h1, h2, if_pos hj, Nat.min_eq_left (by omega)]
theorem word_num {k : Nat} {ids : List Nat} {nums : List Int} {i j : Nat} (hj : j < kn k) : wW k ids nums (i * (ki k + kn k) + ki k + j) = Lib.itoa (nums.getD (i * kn k + j) 0) := by
  have h1 : (i * (ki k + kn k) + ki k + j) % (ki k + kn k) = ki k + j := by
    rw [Nat.add_assoc, Nat.add_comm, Nat.mul_comm i, Nat.add_mul_mod_self_left]; exact Nat.mod_eq_of_lt (by omega)
  have h2 : (i * (ki k + kn k) + ki k + j) / (ki k + kn k) = i := by
    rw [Nat.add_assoc, Nat.add_comm, Nat.mul_comm i, Nat.add_mul_div_left _ _ (by omega), Nat.div_eq_of_lt (by omega), Nat.zero_add]
  unfold wW cN
  rw [h1, h2, if_neg (by omega), show ki k + j - ki k = j by omega]
/-- What stands ahead of the entries. -/
def headW (k : Nat) (yes : Bool) : Str := kwS k ++ [32, 111, 107] ++ (if asksK k = true then (if yes = true then [32, 121, 101, 115] else [32, 110, 111]) else [])
theorem line_err {r : Rp} (h : r.er ≠ 0) : lineS r = kwS r.op.toNat ++ [32, 101, 114, 114, 111, 114, 32] ++ Lib.itoa r.er := by
  unfold lineS lineWords
  rw [if_pos h, jn_flat]
  simp [errW]
theorem line_ok {r : Rp} (h : r.er = 0) : lineS r = headW r.op.toNat r.yes ++ tailW r.op.toNat r.ids r.nums (count r.op.toNat r.yes r.ids.length r.nums.length * (ki r.op.toNat + kn r.op.toNat)) := by
  unfold lineS lineWords headW
  rw [if_neg (by omega), jn_flat]
  unfold entsOf tailW
  by_cases ha : asksK r.op.toNat = true
  · rw [if_pos ha, if_pos ha]
    cases r.yes <;> simp [okW, yesW, noW]
  · rw [if_neg ha, if_neg ha]
    simp [okW]
theorem kw_len (k : Nat) : (kwS k).length ≤ 9 ∧ kwS k ≠ [] := by unfold kwS; split <;> simp
theorem head_len (k : Nat) (yes : Bool) : (headW k yes).length ≤ 16 := by
  have := (kw_len k).1
  unfold headW
  rw [List.length_append, List.length_append]
  split
  · split <;> simp <;> omega
  · simp; omega
theorem tail_len {k : Nat} {ids : List Nat} {nums : List Int} (hi : ∀ x ∈ ids, x ≤ 18446744073709551615) (hn : ∀ x ∈ nums, -9223372036854775808 ≤ x ∧ x ≤ 9223372036854775807)
    (hd : ∀ u, u ≤ 18446744073709551615 → (Lib.decDigits u).length ≤ 20) (hit : ∀ x : Int, -9223372036854775808 ≤ x → x ≤ 9223372036854775807 → (Lib.itoa x).length ≤ 21) : ∀ m, (tailW k ids nums m).length ≤ 22 * m
  | 0 => by simp [tail_zero]
  | m + 1 => by
    have ih := tail_len (k := k) hi hn hd hit m
    rw [tail_step, List.length_append, List.length_append]
    have : (wW k ids nums m).length ≤ 21 := by
      unfold wW
      split
      · have : ids.getD (cI k m) 0 ≤ 18446744073709551615 := by
          rw [List.getD_eq_getElem?_getD]
          cases hg : ids[cI k m]? with
          | none => simp
          | some x => exact hi x (List.mem_of_getElem? hg)
        have := hd _ this; omega
      · have : -9223372036854775808 ≤ nums.getD (cN k m) 0 ∧ nums.getD (cN k m) 0 ≤ 9223372036854775807 := by
          rw [List.getD_eq_getElem?_getD]
          cases hg : nums[cN k m]? with
          | none => simp
          | some x => exact hn x (List.mem_of_getElem? hg)
        have := hit _ this.1 this.2; omega
    simp only [List.length_cons, List.length_nil]
    omega
end Go.Proofs.YtlmdkcpiimpniaaDoor
/- Line of the program: errors. -/
namespace Go.Proofs.YtlmdkcpiimpniaaDoor
open Go.ChangeShapes Go.WideShapes Go.ChangeAt Go.RowKit
set_option linter.unusedVariables false
set_option linter.unusedSimpArgs false

def lineZ (r : Rp) : Str := if chk r = 0 then lineS r else []
def LnS (w : World) (r : Rp) (e : Ending) (w' : World) : Prop := e = .returned (.tuple #[.string ⟨(lineZ r).toArray⟩, .int .i64 (chk r)]) ∧ Below w.heap.size w w'
set_option maxRecDepth 100000 in
set_option maxHeartbeats 8000000 in
theorem pline_bad {w : World} (hE : Env w) {r : Rp} {a a' : Option Addr} {c c' : Nat} (hk : chk r ≠ 0) (hl1 : r.ids.length ≤ 1000000) (hl2 : r.nums.length ≤ 1000000) :
    Calls Tryd.prog 13 #[.agg (rpV r a c a' c')] w (LnS w r) := by
  have hA : Hid (Below w.heap.size w (w.alloc (.cells (rpV r a c a' c') 27))) := Lib.hid (Below.alloc (Below.refl _ _) (Nat.le_refl _) _)
  have PC := Lib.hid (pcheck (hE.below hA.out) r a c a' c' (by omega) (by omega))
  have HZ := Lib.hid (show lineZ r = [] from if_neg hk)
  have e1 : (chk r == 0) = false := by simpa using hk
  have e2 : (chk r != 0) = true := by simpa using hk
  unfold LnS
  rw [HZ.out]
  generalize chk r = K at *
  clear hE hk
  unfold rpV at *
  obtain ⟨op, er, yes, ids, nums⟩ := r
  simp only at *
  generalize ids.length = li at *
  generalize nums.length = ln at *
  go_enter Tryd.func13, Tryd.ntmps13
  go_wp2_with fail
  refine (PC.out).mono ?_; rintro e w1 ⟨rfl, hb1⟩
  have B1 := Lib.hid (hA.out.trans (hb1.mono hA.out.size))
  clear hb1
  go_wp2_with fail
  go_ret2
  exact ⟨rfl, B1.out⟩
set_option maxRecDepth 100000 in
set_option maxHeartbeats 8000000 in
theorem pline_err {w : World} (hE : Env w) {r : Rp} {a a' : Option Addr} {c c' : Nat} (hk : chk r = 0) (he : r.er ≠ 0) (hl1 : r.ids.length ≤ 1000000) (hl2 : r.nums.length ≤ 1000000) :
    Calls Tryd.prog 13 #[.agg (rpV r a c a' c')] w (LnS w r) := by
  have hA : Hid (Below w.heap.size w (w.alloc (.cells (rpV r a c a' c') 27))) := Lib.hid (Below.alloc (Below.refl _ _) (Nat.le_refl _) _)
  have X := Lib.hid (block_new w (.cells (rpV r a c a' c') 27))
  have PC := Lib.hid (pcheck (hE.below hA.out) r a c a' c' (by omega) (by omega))
  obtain ⟨hf, g1, g2⟩ := chk_fits hk
  obtain ⟨o0, o1, e0, e1⟩ := op_er hf
  have HZ := Lib.hid ((show lineZ r = lineS r from if_pos hk).trans (line_err he))
  have HE := Lib.hid hE
  rw [hk] at PC
  unfold LnS
  rw [hk]
  generalize lineZ r = Z at *
  clear hE hk hf
  unfold rpV at *
  obtain ⟨op, er, yes, ids, nums⟩ := r
  simp only at *
  generalize ids.length = li at *
  generalize nums.length = ln at *
  obtain ⟨k, rfl⟩ := Int.eq_ofNat_of_zero_le o0
  rw [Int.toNat_natCast] at HZ
  have hkk : k < 16 := by omega
  have KC := Lib.hid (fun w' (hb : Below w.heap.size w w') => (HE.out.below hb).kind hkk)
  have hkl := (kw_len k).1
  have f1 : (er == 0) = false := by simpa using he
  have f2 : (er != 0) = true := by simpa using he
  generalize kwS k = S at *
  generalize ki k = I at *
  generalize kn k = M at *
  generalize ke k = E at *
  clear he
  go_enter Tryd.func13, Tryd.ntmps13
  go_wp2_with fail
  refine (PC.out).mono ?_; rintro e w1 ⟨rfl, hb1⟩
  have B1 := Lib.hid (hA.out.trans (hb1.mono hA.out.size))
  have X1 := (hb1.block _ (lt_of_block X.out)).trans X.out
  have x0 : w1.cell? ⟨w.heap.size, 0, none⟩ = some (.int .i64 (k : Int)) := cell_of X1 0
  obtain ⟨y0, y1, y2, y3⟩ := KC.out w1 B1.out
  have z0 := lt_of_cell y0
  have gl := lt_of_block X1
  have A2 := Lib.hid (Below.alloc (Below.refl w1.heap.size w1) (Nat.le_refl _) (.cells #[.string ⟨S.toArray⟩, .int .i64 (I : Int), .int .i64 (M : Int), .int .i64 (E : Int)] 57))
  have x1 : w1.cell? ⟨w.heap.size, 1, none⟩ = some (.int .i64 er) := cell_of X1 1
  obtain ⟨vb, W3, hcv, hO3, hB3⟩ := run_toBytes (w1.alloc (.cells #[.string ⟨S.toArray⟩, .int .i64 (I : Int), .int .i64 (M : Int), .int .i64 (E : Int)] 57)) S (by omega)
  rw [show (w1.alloc (.cells #[.string ⟨S.toArray⟩, .int .i64 (I : Int), .int .i64 (M : Int), .int .i64 (E : Int)] 57)).heap.size = w1.heap.size + 1 by simp] at hO3 hB3
  obtain ⟨G, hG1, hG2, hO3, hB3⟩ : ∃ G, w1.heap.size ≤ G ∧ G ≤ w1.heap.size + 1 ∧ OutM W3 G vb S ∧ Below G (w1.alloc (.cells #[.string ⟨S.toArray⟩, .int .i64 (I : Int), .int .i64 (M : Int), .int .i64 (E : Int)] 57)) W3 := ⟨_, Nat.le_succ _, Nat.le_refl _, hO3, hB3⟩
  have hBB : G ≤ W3.heap.size := by have := hB3.size; simp at this; omega
  obtain ⟨a3, n3, c3, rfl⟩ := hO3.shape
  have O3 := Lib.hid hO3
  have B3 := Lib.hid (A2.out.trans (hB3.mono hG1))
  have X3 := (B3.out.block _ gl).trans X1
  have xx1 : W3.cell? ⟨w.heap.size, 1, none⟩ = some (.int .i64 er) := cell_of X3 1
  have HX3 := Lib.hid X3
  clear hb1 hO3 hB3 X1 X3
  go_wp2_with (at_builtin; refine wpList_mStr rfl _ _ rfl rfl O3.out hBB [32, 101, 114, 114, 111, 114, 32] rfl (by simp; omega) ?_)
  intro v4 w4 h1 h2
  obtain ⟨a4, n4, c4, rfl⟩ := h1.shape
  have B4 := Lib.hid (B3.out.trans (h2.mono hG1))
  have X4 := (B4.out.block _ gl).trans ((B3.out.block _ gl).symm.trans HX3.out)
  have x41 : w4.cell? ⟨w.heap.size, 1, none⟩ = some (.int .i64 er) := cell_of X4 1
  have P5 := Lib.hid (m_appi HE.out (B1.out.trans (B4.out.mono B1.out.size)) (Nat.le_trans B1.out.size hG1) (Nat.le_trans hBB h2.size) h1 (i := er) (by omega) (by omega) (by simp; omega))
  clear h1 h2 X4 xx1 hcv
  go_wp2_with fail
  refine (P5.out).mono ?_; rintro e w5 ⟨v5, rfl, h1, h2⟩
  have hs := outM_string h1 (by simp)
  rw [← HZ.out] at hs
  obtain ⟨a5, n5, c5, rfl⟩ := h1.shape
  have B5 := Lib.hid (B1.out.trans ((B4.out.trans (h2.mono hG1)).mono B1.out.size))
  clear h1 h2
  go_wp2_with fail
  go_ret2
  exact ⟨rfl, B5.out⟩
end Go.Proofs.YtlmdkcpiimpniaaDoor

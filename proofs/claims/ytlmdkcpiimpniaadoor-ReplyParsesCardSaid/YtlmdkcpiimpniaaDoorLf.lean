/- Word and Line of the document: errors. -/
import Derived.Test.YtlmdkcpiimpniaaDoorLd
import Derived.Test.YtlmdkcpiimpniaaDoorRg
namespace Go.Proofs.YtlmdkcpiimpniaaDoor
open Go.ChangeShapes Go.WideShapes Go.ChangeAt Go.RowKit
set_option linter.unusedVariables false
set_option linter.unusedSimpArgs false

set_option maxRecDepth 100000 in
set_option maxHeartbeats 4000000 in
theorem rword {k : Nat} (hk : k < 16) (w : World) : Calls Tryd.prog 50 #[.int .i64 (k : Int)] w fun e w' => e = .returned (.string ⟨(kwS k).toArray⟩) ∧ Below w.heap.size w w' := by
  have hc : k = 0 ∨ k = 1 ∨ k = 2 ∨ k = 3 ∨ k = 4 ∨ k = 5 ∨ k = 6 ∨ k = 7 ∨ k = 8 ∨ k = 9 ∨ k = 10 ∨ k = 11 ∨ k = 12 ∨ k = 13 ∨ k = 14 ∨ k = 15 := by omega
  have hA := Lib.hid (fun o => Below.alloc (Below.refl w.heap.size w) (Nat.le_refl _) o)
  rcases hc with rfl | rfl | rfl | rfl | rfl | rfl | rfl | rfl | rfl | rfl | rfl | rfl | rfl | rfl | rfl | rfl
  all_goals
    go_enter Tryd.func50, Tryd.ntmps50
    go_wp2_with fail
    go_ret
    exact ⟨rfl, hA.out _⟩
theorem ent_count {k : Nat} {yes : Bool} {li ln : Nat} (hk : k < 16) (hk1 : 1 ≤ k) (h1 : li = count k yes li ln * ki k) (h2 : ln = count k yes li ln * kn k) : entI k li ln = ((count k yes li ln : Nat) : Int) := by
  have hz : ki k = 0 → kn k = 0 → count k yes li ln = 0 := fun e1 e2 => by
    have hc : k = 1 ∨ k = 2 ∨ k = 3 ∨ k = 4 ∨ k = 5 ∨ k = 6 ∨ k = 7 ∨ k = 8 ∨ k = 9 ∨ k = 10 ∨ k = 11 ∨ k = 12 ∨ k = 13 ∨ k = 14 ∨ k = 15 := by omega
    rcases hc with rfl | rfl | rfl | rfl | rfl | rfl | rfl | rfl | rfl | rfl | rfl | rfl | rfl | rfl | rfl <;> simp [ki, kn] at e1 e2 <;> simp [count, ke]
  have key : entK k li ln = count k yes li ln := by
    unfold entK
    generalize count k yes li ln = C at *
    split
    · rename_i h; rw [h1, Nat.mul_div_cancel _ h]
    · split
      · rename_i h; rw [h2, Nat.mul_div_cancel _ h]
      · exact (hz (by omega) (by omega)).symm
  unfold entI
  rw [if_pos (by unfold entOk; rw [key]; exact ⟨h1.symm, h2.symm⟩), key]
theorem Below.drewR {B : Nat} {w w' : World} (h : Below B w w') : Below B w w'.drew := h.drew
theorem add_strs {a b c : Str} (h : c = a ++ b) (hl : a.length + b.length ≤ 1000000000) : Op.stringOp .add ⟨a.toArray⟩ ⟨b.toArray⟩ = pure (.string ⟨c.toArray⟩) := by subst h; exact add_str hl
set_option maxRecDepth 100000 in
set_option maxHeartbeats 8000000 in
theorem rline_bad {w : World} {r : Rp} {a a' : Option Addr} {c c' : Nat} (hk : chk r ≠ 0) (hl1 : r.ids.length ≤ 1000000) (hl2 : r.nums.length ≤ 1000000) :
    Calls Tryd.prog 24 #[.agg (rpV r a c a' c')] w (LnS w r) := by
  have hA : Hid (Below w.heap.size w (w.alloc (.cells (rpV r a c a' c') 27))) := Lib.hid (Below.alloc (Below.refl _ _) (Nat.le_refl _) _)
  have PC := Lib.hid (rcheck (w := w.alloc (.cells (rpV r a c a' c') 27)) r a c a' c' (by omega) (by omega))
  have HZ := Lib.hid (show lineZ r = [] from if_neg hk)
  have e1 : (chk r == 0) = false := by simpa using hk
  have e2 : (chk r != 0) = true := by simpa using hk
  unfold LnS
  rw [HZ.out]
  generalize chk r = K at *
  clear hk
  unfold rpV at *
  obtain ⟨op, er, yes, ids, nums⟩ := r
  simp only at *
  generalize ids.length = li at *
  generalize nums.length = ln at *
  go_enter Tryd.func24, Tryd.ntmps24
  go_wp2_with fail
  refine (PC.out).mono ?_; rintro e w1 ⟨rfl, hb1⟩
  have B1 := Lib.hid (hA.out.trans (hb1.mono hA.out.size))
  clear hb1
  go_wp2_with fail
  go_ret2
  exact ⟨rfl, B1.out⟩
set_option maxRecDepth 100000 in
set_option maxHeartbeats 8000000 in
theorem rline_err {w : World} {r : Rp} {a a' : Option Addr} {c c' : Nat} (hk : chk r = 0) (he : r.er ≠ 0) (hl1 : r.ids.length ≤ 1000000) (hl2 : r.nums.length ≤ 1000000) :
    Calls Tryd.prog 24 #[.agg (rpV r a c a' c')] w (LnS w r) := by
  have hA : Hid (Below w.heap.size w (w.alloc (.cells (rpV r a c a' c') 27))) := Lib.hid (Below.alloc (Below.refl _ _) (Nat.le_refl _) _)
  have X := Lib.hid (block_new w (.cells (rpV r a c a' c') 27))
  have PC := Lib.hid (rcheck (w := w.alloc (.cells (rpV r a c a' c') 27)) r a c a' c' (by omega) (by omega))
  obtain ⟨hf, g1, g2⟩ := chk_fits hk
  obtain ⟨o0, o1, e0, e1⟩ := op_er hf
  have HZ := Lib.hid ((show lineZ r = lineS r from if_pos hk).trans (line_err he))
  rw [hk] at PC
  unfold LnS
  rw [hk]
  generalize lineZ r = Z at *
  clear hk hf
  unfold rpV at *
  obtain ⟨op, er, yes, ids, nums⟩ := r
  simp only at *
  generalize ids.length = li at *
  generalize nums.length = ln at *
  obtain ⟨k, rfl⟩ := Int.eq_ofNat_of_zero_le o0
  rw [Int.toNat_natCast] at HZ
  have hkk : k < 16 := by omega
  have hkl := (kw_len k).1
  have hil := itoa_len (i := er) (by omega) (by omega)
  have P1 := Lib.hid (rword hkk)
  have P2 := Lib.hid (rdecimal (x := er) (by omega) (by omega))
  have ha1 := add_strs (a := kwS k) (b := [32, 101, 114, 114, 111, 114, 32]) rfl (by simp; omega)
  have ha2 := add_strs (a := kwS k ++ [32, 101, 114, 114, 111, 114, 32]) (b := Lib.itoa er) (c := Z) HZ.out (by simp; omega)
  generalize kwS k ++ [32, 101, 114, 114, 111, 114, 32] = Z1 at *
  generalize Lib.itoa er = d at *
  generalize kwS k = S at *
  have f1 : (er == 0) = false := by simpa using he
  have f2 : (er != 0) = true := by simpa using he
  clear he
  go_enter Tryd.func24, Tryd.ntmps24
  go_wp2_with fail
  refine (PC.out).mono ?_; rintro e w1 ⟨rfl, hb1⟩
  have B1 := Lib.hid (hA.out.trans (hb1.mono hA.out.size))
  have X1 := (hb1.block _ (lt_of_block X.out)).trans X.out
  have x0 : w1.cell? ⟨w.heap.size, 0, none⟩ = some (.int .i64 (k : Int)) := cell_of X1 0
  have x1 : w1.cell? ⟨w.heap.size, 1, none⟩ = some (.int .i64 er) := cell_of X1 1
  have HX1 := Lib.hid X1
  have gl := lt_of_block X1
  have KK : Hid (∀ w', Below w1.heap.size w1 w' → w'.cell? ⟨w.heap.size, 0, none⟩ = some (.int .i64 (k : Int)) ∧ w'.cell? ⟨w.heap.size, 1, none⟩ = some (.int .i64 er)) := Lib.hid (fun w' hb => by
    have h2 := (hb.block _ gl).trans HX1.out
    exact ⟨cell_of h2 0, cell_of h2 1⟩)
  have Q1 : Hid (∀ w', Below w1.heap.size w1 w' → Calls Tryd.prog 50 #[.int .i64 (k : Int)] w' fun e w'' => e = .returned (.string ⟨S.toArray⟩) ∧ Below w1.heap.size w1 w'') := Lib.hid (fun w' hb => (P1.out w').mono fun e w'' hh => ⟨hh.1, hb.trans (hh.2.mono hb.size)⟩)
  have Q2 : Hid (∀ w', Below w1.heap.size w1 w' → Calls Tryd.prog 51 #[.int .i64 er] w' fun e w'' => e = .returned (.string ⟨d.toArray⟩) ∧ Below w1.heap.size w1 w'') := Lib.hid (fun w' hb => (P2.out w').mono fun e w'' hh => ⟨hh.1, hb.trans (hh.2.mono hb.size)⟩)
  have HB0 := Lib.hid (Below.refl w1.heap.size w1)
  clear hb1 X1 PC
  go_wp2_with fail
  go_region_held3 (fun w' => w'.cell? ⟨w.heap.size, 0, none⟩ = some (.int .i64 (k : Int)) ∧ w'.cell? ⟨w.heap.size, 1, none⟩ = some (.int .i64 er))
    (first | exact ⟨x0, x1⟩ | exact KK.out _ (by first | (with_reducible exact Below.drewR HB0.out) | assumption | exact Below.drewR (by assumption)))
    (first
      | (go_at_call 50; refine (Q1.out _ (by first | (with_reducible exact Below.drewR HB0.out) | assumption | exact Below.drewR (by assumption))).mono ?_; rintro e w7 ⟨rfl, hb7⟩)
      | (go_at_call 51; refine (Q2.out _ (by first | (with_reducible exact Below.drewR HB0.out) | assumption | exact Below.drewR (by assumption))).mono ?_; rintro e w7 ⟨rfl, hb7⟩))
  all_goals
    have B9 : Hid (Below w1.heap.size w1 _) := Lib.hid (by assumption)
    go_wp2_with fail
    go_ret2
    exact ⟨rfl, B1.out.trans (B9.out.mono B1.out.size)⟩
end Go.Proofs.YtlmdkcpiimpniaaDoor

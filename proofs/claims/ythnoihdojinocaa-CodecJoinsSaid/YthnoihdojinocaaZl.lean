/- The example of the chapter. -/
import Derived.Test.YthnoihdojinocaaY
import Derived.Test.YthnoihdojinocaaT
namespace Go.Proofs.Ythnoihdojinocaa
open Go.ChangeShapes Go.WideShapes Go.ChangeAt Go.RowKit
set_option linter.unusedVariables false
set_option linter.unusedSimpArgs false

def ex : Cm := ⟨1, 1, 2, -5, 10, [], []⟩
theorem ex_ok : ex.ok := ⟨by decide, by decide, by decide, by decide, by decide, (by intro x h; cases h), (by intro x h; cases h)⟩
theorem ex_vi (x : Nat) (h : x < 128) : vi x = [x] := vi_lt h
theorem ex_frm : frm ex = [5, 1, 1, 2, 9, 20] := by
  have h1 : uses ex.op = some [.u, .v, .w, .t] := by decide
  unfold frm
  rw [h1]
  have hp : pay ex [.u, .v, .w, .t] = [1, 1, 2, 9, 20] := by
    show ex.op.toNat :: ([Fd.u, Fd.v, Fd.w, Fd.t].flatMap (encF ex)) = _
    simp only [List.flatMap_cons, List.flatMap_nil, encF, vf]
    rw [show ex.u = 1 from rfl, show ex.v = 2 from rfl, show fold ex.w = 9 by decide, show fold ex.t = 20 by decide, ex_vi 1 (by omega), ex_vi 2 (by omega), ex_vi 9 (by omega), ex_vi 20 (by omega)]
    rfl
  show frame ex [.u, .v, .w, .t] = _
  unfold frame
  rw [hp, ex_vi _ (by decide)]
  rfl
theorem ex_chk : chk ex = 0 := by decide
theorem ex_get : get ([5, 1, 1, 2, 9, 20] ++ [7]) = some (ex, 6) := by
  have := get_back ex_ok ex_chk [7]
  rw [ex_frm] at this
  exact this
set_option maxRecDepth 100000 in
set_option maxHeartbeats 8000000 in
theorem works_any (w : World) : Calls Try.prog 15 #[] w fun e w' => e = .returned (.bool true) ∧ Below w.heap.size w w' := by
  obtain ⟨i0, hi, hz0, hz1, hz2⟩ := info_parts info5
  have P := Lib.hid (pput (w := w) (c := ex) (ad := none) (ab := none) (cd := 0) (cb := 0) ⟨IsSl.nil _, IsSl.nil _⟩ ex_ok (by decide) (by decide))
  have hl : ex.d.length = 0 ∧ ex.b.length = 0 := ⟨rfl, rfl⟩
  rw [hl.1, hl.2] at P
  have HP : Hid (Calls Try.prog 16 #[.agg #[.int .i64 1, .int .u64 1, .int .u64 2, .int .i64 (-5), .int .i64 10, .slice none 0 0, .slice none 0 0]] w (PutR w ex)) := Lib.hid P.out
  clear P hl
  go_enter Try.func15, Try.ntmps15
  go_wp2_with fail
  refine (HP.out).mono ?_; rintro e w1 ⟨v1, rfl, hb, h1, -⟩
  have hO := h1 ex_chk
  rw [ex_frm] at hO
  rw [ex_chk]
  have O := Lib.hid hO; have B := Lib.hid hb
  obtain ⟨a1, c1, rfl, hS1⟩ := hO.sl
  have S1 := Lib.hid hS1
  rw [show (ns [5, 1, 1, 2, 9, 20]).length = 6 from rfl] at *
  clear h1 hO hb hS1 HP
  go_wp2_with fail
  have A2 : Hid (Below w1.heap.size w1 (w1.alloc (.cells #[.int .u8 5, .int .u8 1, .int .u8 1, .int .u8 2, .int .u8 9, .int .u8 20] 5))) := Lib.hid (Below.alloc (Below.refl _ _) (Nat.le_refl _) _)
  have S2 : Hid (IsK .u8 (w1.alloc (.cells #[.int .u8 5, .int .u8 1, .int .u8 1, .int .u8 2, .int .u8 9, .int .u8 20] 5)) (some ⟨w1.heap.size, 0, none⟩) 6 6 (ns [5, 1, 1, 2, 9, 20])) := Lib.hid (IsSl.of_block (zs := ns [5, 1, 1, 2, 9, 20]) (encK_len .u8) (block_new _ _) rfl rfl (by decide))
  have PB := Lib.hid (bytes_any (S1.out.below A2.out) S2.out)
  rw [decide_eq_true rfl] at PB
  refine (PB.out).mono ?_; rintro e w2 ⟨rfl, hb⟩
  have B2 : Hid (Below w1.heap.size w1 w2) := Lib.hid (A2.out.trans (hb.mono A2.out.size))
  have O2 : Hid (OutR 1 (encK .u8) 5 w2 w.heap.size (.slice a1 6 c1) (ns [5, 1, 1, 2, 9, 20])) := Lib.hid (O.out.below B2.out)
  have hB2 : w.heap.size ≤ w2.heap.size := Nat.le_trans B.out.size B2.out.size
  have hnot : ∀ (x : Bool) (w : World), (Op.unary .not (.bool x)).run Try.prog w = .ok (.bool (!x)) w := fun _ _ => rfl
  clear hb PB
  go_wp2_with (at_builtin; refine wpList_app rfl (.tmp 20) (.tmp 21) 29 rfl 5 i0 .u8 1 Try.underlying29 hi hz0 hz1 hz2 (by decide) rfl O2.out hB2 7 rfl (by decide) ?_)
  intro v3 w3 h1 h2 h3 h4
  have O3 : Hid (OutR 1 (encK .u8) 5 w3 w.heap.size v3 (ns ([5, 1, 1, 2, 9, 20] ++ [7]))) := Lib.hid h1
  have B3 : Hid (Below w.heap.size w w3) := Lib.hid ((B.out.trans (B2.out.mono B.out.size)).trans h3)
  obtain ⟨a3, c3, rfl, hS3⟩ := O3.out.sl
  rw [show (ns ([5, 1, 1, 2, 9, 20] ++ [7])).length = 7 from rfl] at *
  have PG := Lib.hid (pget hS3 (by intro x hx; simp at hx; omega))
  rw [ex_get] at PG
  clear h1 h2 h3 h4 hS3
  go_wp2_with fail
  refine (PG.out).mono ?_; rintro e w4 ⟨ad, cd, ab, cb, rfl, -, hb4⟩
  have B4 := Lib.hid (B3.out.trans (hb4.mono B3.out.size))
  clear hb4 PG
  simp only [getV, cmV, ex]
  go_wp2_with fail
  go_ret
  exact ⟨rfl, B4.out.alloc B4.out.size _⟩
end Go.Proofs.Ythnoihdojinocaa

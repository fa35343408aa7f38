/- Text of the program. -/
import Derived.Test.YtabihdhgonnihaaDoorP
import Derived.Lib.ItoaLen
namespace Go.Proofs.YtabihdhgonnihaaDoor
open Go.ChangeShapes Go.WideShapes Go.ChangeAt Go.RowKit
set_option linter.unusedVariables false
set_option linter.unusedSimpArgs false

theorem itoa_len {i : Int} (h0 : -9223372036854775808 ≤ i) (h1 : i ≤ 9223372036854775807) : (Lib.itoa i).length ≤ 21 := Lib.itoa_length_le i h0 h1
theorem Cf.ok.at {f : Cf} (h : f.ok) (i : Nat) : -9223372036854775808 ≤ f.at i ∧ f.at i ≤ 9223372036854775807 := by
  obtain ⟨h1, h2, h3, h4, h5, h6, h7, h8⟩ := h
  unfold Cf.at
  split <;> constructor <;> assumption
theorem nm_len (i : Nat) : (nm i).length ≤ 6 := by unfold nm; split <;> simp
theorem txt_len {f : Cf} (h : f.ok) : ∀ k, (txt f k).length ≤ 29 * k
  | 0 => by simp [txt]
  | k + 1 => by
    have h1 := txt_len h k
    have h2 := itoa_len (h.at k).1 (h.at k).2
    have h3 := nm_len k
    unfold txt
    simp only [List.length_append, List.length_cons, List.length_nil]
    have h4 : (if 0 < k then ([32] : Str) else []).length ≤ 1 := by split <;> simp
    omega
structure TxB (w : World) (g : Nat) (f : Cf) (i : Nat) (v : Value) (wr : World) : Prop where
  box : wr.heap[g]? = some (.cells #[.int .i64 f.a, .int .i64 f.b, .int .i64 f.c, .int .i64 f.d] 60 (0, 0))
  out : OutB wr (g + 1) v (txt f i)
  below : Below w.heap.size w wr
theorem out_snoc {w : World} {B : Nat} {v : Value} {l : Str} {c : UInt8} (h : OutR 1 (encK .u8) 5 w B v (us l ++ [(c.toNat : Int)])) : OutB w B v (l ++ [c]) := by
  show OutR 1 (encK .u8) 5 w B v (us (l ++ [c]))
  rw [us_app]; exact h
def TxRel (w : World) (g : Nat) (f : Cf) (v5 vi : Value) (wr : World) : Prop := ∃ i : Nat, i ≤ 4 ∧ vi = .int .i64 (i : Int) ∧ TxB w g f i v5 wr
theorem text_ne (f : Cf) : txt f 4 ≠ [] := by
  intro h
  have := congrArg List.length h
  unfold txt at this
  simp only [List.length_append, List.length_cons, List.length_nil] at this
  omega
set_option maxRecDepth 100000 in
set_option maxHeartbeats 4000000 in
theorem ptext_bad {w : World} (h : Env w) (f : Cf) (hf : f.ok) (hk : ¬ wrong f < 0) : Calls Tryd.prog 15 #[.agg #[.int .i64 f.a, .int .i64 f.b, .int .i64 f.c, .int .i64 f.d]] w fun e w' => e = .returned (.tuple #[.string ⟨#[]⟩, .int .i64 2]) ∧ Below w.heap.size w w' := by
  have N := Lib.hid (new25 w f)
  have P1 := Lib.hid (psplit f.a f.b f.c f.d (w.alloc (.cells #[.int .i64 f.a, .int .i64 f.b, .int .i64 f.c, .int .i64 f.d] 25)))
  have P2 := Lib.hid (fun w' (hb : Below w.heap.size w w') => pwrong (h.below hb) f hf)
  have e1 : decide (0 ≤ wrong f) = true := by simp; omega
  generalize wrong f = k at *
  clear hk h hf
  go_enter Tryd.func15, Tryd.ntmps15
  go_wp2_with fail
  refine (P1.out).mono ?_; rintro e w1 ⟨rfl, hb1⟩
  have B1 := Lib.hid (N.out.trans (hb1.mono N.out.size))
  have A1 := Lib.hid (B1.out.alloc B1.out.size (.cells #[.int .i64 f.a, .int .i64 f.b, .int .i64 f.c, .int .i64 f.d] 60))
  have P3 := Lib.hid (P2.out _ A1.out)
  clear hb1 P1 P2
  go_wp2_with fail
  refine (P3.out).mono ?_; rintro e w2 ⟨rfl, hb2⟩
  have B2 := Lib.hid (A1.out.trans (hb2.mono A1.out.size))
  clear hb2
  go_wp2_with fail
  go_ret2
  exact ⟨rfl, B2.out⟩
set_option maxRecDepth 100000 in
set_option maxHeartbeats 4000000 in
theorem ptext_ok {w : World} (h : Env w) (f : Cf) (hf : f.ok) (hk : wrong f < 0) : Calls Tryd.prog 15 #[.agg #[.int .i64 f.a, .int .i64 f.b, .int .i64 f.c, .int .i64 f.d]] w fun e w' => e = .returned (.tuple #[.string ⟨(txt f 4).toArray⟩, .int .i64 0]) ∧ Below w.heap.size w w' := by
  obtain ⟨i5, hi, hz0, hz1, hz2⟩ := info_parts info5
  have N := Lib.hid (new25 w f)
  have P1 := Lib.hid (psplit f.a f.b f.c f.d (w.alloc (.cells #[.int .i64 f.a, .int .i64 f.b, .int .i64 f.c, .int .i64 f.d] 25)))
  have P2 := Lib.hid (fun w' (hb : Below w.heap.size w w') => pwrong (h.below hb) f hf)
  have EC := Lib.hid (fun w' (hb : Below w.heap.size w w') => (h.below hb).cells)
  have e1 : decide (0 ≤ wrong f) = false := by simp; omega
  have HE := Lib.hid h; have HF := Lib.hid hf
  generalize wrong f = k at *
  clear hk h hf
  go_enter Tryd.func15, Tryd.ntmps15
  go_wp2_with fail
  refine (P1.out).mono ?_; rintro e w1 ⟨rfl, hb1⟩
  have B1 := Lib.hid (N.out.trans (hb1.mono N.out.size))
  have hsz := B1.out.size
  have HSZ := Lib.hid hsz
  have A1 := Lib.hid (B1.out.alloc B1.out.size (.cells #[.int .i64 f.a, .int .i64 f.b, .int .i64 f.c, .int .i64 f.d] 60))
  have P3 := Lib.hid (P2.out _ A1.out)
  have X1 := Lib.hid (block_new w1 (.cells #[.int .i64 f.a, .int .i64 f.b, .int .i64 f.c, .int .i64 f.d] 60))
  clear hb1 P1 P2
  go_wp2_with fail
  refine (P3.out).mono ?_; rintro e w2 ⟨rfl, hb2⟩
  have B2 := Lib.hid (A1.out.trans (hb2.mono A1.out.size))
  have X2 := Lib.hid ((hb2.block _ (lt_of_block X1.out)).trans X1.out)
  generalize w1.heap.size = g at *
  obtain ⟨c0, c1, c2, c3, c4, c5, c6, c7, c8, c9, c10, c11, c12⟩ := EC.out _ B2.out
  have TX : Hid (TxB w g f 0 (.slice none 0 0) w2) := Lib.hid ⟨X2.out, out_nil _ _, B2.out⟩
  clear hb2 EC P3 hsz
  go_wp2_with fail
  go_loopw [5, 14] (fun v5 v14 wr => TxRel w g f v5 v14 wr) (fun _ v14 _ => 4 - (intOf v14).toNat)
  case atStart => exact ⟨0, by omega, rfl, TX.out⟩
  case round =>
    obtain ⟨i, hi4, rfl, hb⟩ := hrel
    have B := Lib.hid hb
    have hlt := lt_of_block hb.box
    have hgs : g + 1 ≤ wr.heap.size := hlt
    obtain ⟨sa, sn, sc, rfl⟩ : ∃ a n c, u5 = .slice a n c := by obtain ⟨a, c, e⟩ := own_shape hb.out.row; exact ⟨a, _, c, e⟩
    have hzs : w.heap.size ≤ g := HSZ.out
    clear hb c0 c1 c2 c3 c4 c5 c6 c7 c8 c9 c10 c11 c12
    have h5 : i = 0 ∨ i = 1 ∨ i = 2 ∨ i = 3 ∨ i = 4 := by omega
    rcases h5 with rfl | rfl | rfl | rfl | rfl
    · have hix := idx0
      have T0 := Lib.hid ((B.out.out).below (Below.alloc (Below.refl wr.heap.size wr) (Nat.le_refl _) (.cells #[.string ⟨#[119, 105, 110, 100, 111, 119]⟩, .int .i64 1, .int .i64 9223372036854775807] 64)))
      have hl := txt_len HF.out 0
      have BA := Lib.hid (B.out.below.alloc B.out.below.size (.cells #[.string ⟨#[119, 105, 110, 100, 111, 119]⟩, .int .i64 1, .int .i64 9223372036854775807] 64))
      have XA := Lib.hid (block_old B.out.box (.cells #[.string ⟨#[119, 105, 110, 100, 111, 119]⟩, .int .i64 1, .int .i64 9223372036854775807] 64))
      have hRow : Hid ((wr.alloc (.cells #[.string ⟨#[119, 105, 110, 100, 111, 119]⟩, .int .i64 1, .int .i64 9223372036854775807] 64)).heap[wr.heap.size]? = some (.cells #[.string ⟨#[119, 105, 110, 100, 111, 119]⟩, .int .i64 1, .int .i64 9223372036854775807] 64 (0, 0))) := Lib.hid (block_new _ _)
      obtain ⟨W0, hW0⟩ : ∃ W, W = wr.alloc (.cells #[.string ⟨#[119, 105, 110, 100, 111, 119]⟩, .int .i64 1, .int .i64 9223372036854775807] 64) := ⟨_, rfl⟩
      have HW0 := Lib.hid hW0
      rw [← hW0] at T0 BA XA hRow
      have hg0 : g + 1 ≤ W0.heap.size := by rw [hW0]; simp; omega
      have hgr : wr.heap.size + 1 ≤ W0.heap.size := by rw [hW0]; simp
      have HGR := Lib.hid hgr
      have HH0 : Hid (W0.heap.size = wr.heap.size + 1) := Lib.hid (by rw [hW0]; simp)
      clear hW0 hgr
      go_wp2_with (at_builtin; rw [← HW0.out]; refine wpList_appStr rfl (.tmp 23) (.tmp 25) rfl rfl T0.out hg0 [119, 105, 110, 100, 111, 119] rfl (by simp; omega) ?_)
      intro v2 w5 h1 h2
      have T2 : Hid (OutB w5 (g + 1) v2 (txt f 0 ++ nm 0)) := Lib.hid h1
      have BE2 := Lib.hid h2
      have hg2 : g + 1 ≤ w5.heap.size := Nat.le_trans hg0 BE2.out.size
      obtain ⟨p2, m2, q2, rfl⟩ : ∃ a n c, v2 = .slice a n c := by obtain ⟨a, c, e⟩ := own_shape h1.row; exact ⟨a, _, c, e⟩
      clear h1 h2
      go_wp2_with (at_builtin; refine wpList_app rfl (.tmp 27) (.tmp 28) 41 rfl 5 i5 .u8 1 Tryd.underlying41 hi hz0 hz1 hz2 (by decide) rfl T2.out hg2 61 rfl (by rw [us_len]; simp [nm]; omega) ?_)
      intro v3 w6 h1 h2 h3 h4
      have T3 : Hid (OutB w6 (g + 1) v3 (txt f 0 ++ nm 0 ++ [61])) := Lib.hid (out_snoc h1)
      have BE3 := Lib.hid (BE2.out.trans h3)
      have hg3 : g + 1 ≤ w6.heap.size := Nat.le_trans hg0 BE3.out.size
      have hx6 := (BE3.out.block g (by omega)).trans XA.out
      have x6 : w6.cell? ⟨g, 0, none⟩ = some (.int .i64 f.a) := cell_of hx6 0
      have BW := Lib.hid (BA.out.trans (BE3.out.mono (by omega)))
      obtain ⟨p3, m3, q3, rfl⟩ : ∃ a n c, v3 = .slice a n c := by obtain ⟨a, c, e⟩ := own_shape h1.row; exact ⟨a, _, c, e⟩
      have AP := Lib.hid (l_app HE.out BW.out (by omega) hg3 T3.out (i := f.a) (HF.out.at 0).1 (HF.out.at 0).2 (by simp [nm]; omega))
      have HX6 := Lib.hid hx6
      clear h1 h2 h3 h4 hx6
      go_wp2_with fail
      refine (AP.out).mono ?_; rintro e w7 ⟨v4, rfl, h1, h2⟩
      have TN : Hid (TxB w g f (0 + 1) v4 w7) := Lib.hid ⟨(h2.block g (by omega)).trans HX6.out, by rw [show txt f (0 + 1) = txt f 0 ++ nm 0 ++ [61] ++ Lib.itoa f.a by simp [txt, Cf.at]]; exact h1, BW.out.trans (h2.mono (by omega))⟩
      clear h1 h2 AP
      go_wp2_with fail
      go_roundw
      case rel => exact ⟨0 + 1, by omega, by go_num, TN.out⟩
      case measure => simp [intOf]
    · have hix := idx1
      have T0 := Lib.hid ((B.out.out).below (Below.alloc (Below.refl wr.heap.size wr) (Nat.le_refl _) (.cells #[.string ⟨#[101, 100, 103, 101, 115]⟩, .int .i64 1, .int .i64 16384] 64)))
      have hl := txt_len HF.out 1
      have BA := Lib.hid (B.out.below.alloc B.out.below.size (.cells #[.string ⟨#[101, 100, 103, 101, 115]⟩, .int .i64 1, .int .i64 16384] 64))
      have XA := Lib.hid (block_old B.out.box (.cells #[.string ⟨#[101, 100, 103, 101, 115]⟩, .int .i64 1, .int .i64 16384] 64))
      have hRow : Hid ((wr.alloc (.cells #[.string ⟨#[101, 100, 103, 101, 115]⟩, .int .i64 1, .int .i64 16384] 64)).heap[wr.heap.size]? = some (.cells #[.string ⟨#[101, 100, 103, 101, 115]⟩, .int .i64 1, .int .i64 16384] 64 (0, 0))) := Lib.hid (block_new _ _)
      obtain ⟨W0, hW0⟩ : ∃ W, W = wr.alloc (.cells #[.string ⟨#[101, 100, 103, 101, 115]⟩, .int .i64 1, .int .i64 16384] 64) := ⟨_, rfl⟩
      have HW0 := Lib.hid hW0
      rw [← hW0] at T0 BA XA hRow
      have hg0 : g + 1 ≤ W0.heap.size := by rw [hW0]; simp; omega
      have hgr : wr.heap.size + 1 ≤ W0.heap.size := by rw [hW0]; simp
      have HGR := Lib.hid hgr
      have HH0 : Hid (W0.heap.size = wr.heap.size + 1) := Lib.hid (by rw [hW0]; simp)
      clear hW0 hgr
      go_wp2_with (at_builtin; rw [← HW0.out]; refine wpList_app' rfl (.tmp 20) (.tmp 21) 41 rfl 5 i5 .u8 1 Tryd.underlying41 hi hz0 hz1 hz2 (by decide) rfl T0.out hg0 32 HH0.out rfl (by rw [us_len]; omega) ?_)
      intro v1 w4 h1 h2 h3 h4
      have T1 : Hid (OutB w4 (g + 1) v1 (txt f 1 ++ [32])) := Lib.hid (out_snoc h1)
      have BE1 := Lib.hid h3
      have hg1 : g + 1 ≤ w4.heap.size := Nat.le_trans hg0 h3.size
      have x1 : w4.cell? ⟨wr.heap.size, 0, none⟩ = some (.string ⟨#[101, 100, 103, 101, 115]⟩) := cell_of (h2.keep hRow.out (fun e => by have := own_lt B.out.out.row e; omega)) 0
      obtain ⟨p1, m1, q1, rfl⟩ : ∃ a n c, v1 = .slice a n c := by obtain ⟨a, c, e⟩ := own_shape h1.row; exact ⟨a, _, c, e⟩
      clear h1 h2 h3 h4
      go_wp2_with (at_builtin; refine wpList_appStr rfl (.tmp 23) (.tmp 25) rfl rfl T1.out hg1 [101, 100, 103, 101, 115] rfl (by simp; omega) ?_)
      intro v2 w5 h1 h2
      have T2 : Hid (OutB w5 (g + 1) v2 (txt f 1 ++ 32 :: nm 1)) := Lib.hid h1
      have BE2 := Lib.hid (BE1.out.trans h2)
      have hg2 : g + 1 ≤ w5.heap.size := Nat.le_trans hg0 BE2.out.size
      obtain ⟨p2, m2, q2, rfl⟩ : ∃ a n c, v2 = .slice a n c := by obtain ⟨a, c, e⟩ := own_shape h1.row; exact ⟨a, _, c, e⟩
      clear h1 h2
      go_wp2_with (at_builtin; refine wpList_app rfl (.tmp 27) (.tmp 28) 41 rfl 5 i5 .u8 1 Tryd.underlying41 hi hz0 hz1 hz2 (by decide) rfl T2.out hg2 61 rfl (by rw [us_len]; simp [nm]; omega) ?_)
      intro v3 w6 h1 h2 h3 h4
      have T3 : Hid (OutB w6 (g + 1) v3 (txt f 1 ++ 32 :: nm 1 ++ [61])) := Lib.hid (out_snoc h1)
      have BE3 := Lib.hid (BE2.out.trans h3)
      have hg3 : g + 1 ≤ w6.heap.size := Nat.le_trans hg0 BE3.out.size
      have hx6 := (BE3.out.block g (by omega)).trans XA.out
      have x6 : w6.cell? ⟨g, 1, none⟩ = some (.int .i64 f.b) := cell_of hx6 1
      have BW := Lib.hid (BA.out.trans (BE3.out.mono (by omega)))
      obtain ⟨p3, m3, q3, rfl⟩ : ∃ a n c, v3 = .slice a n c := by obtain ⟨a, c, e⟩ := own_shape h1.row; exact ⟨a, _, c, e⟩
      have AP := Lib.hid (l_app HE.out BW.out (by omega) hg3 T3.out (i := f.b) (HF.out.at 1).1 (HF.out.at 1).2 (by simp [nm]; omega))
      have HX6 := Lib.hid hx6
      clear h1 h2 h3 h4 hx6
      go_wp2_with fail
      refine (AP.out).mono ?_; rintro e w7 ⟨v4, rfl, h1, h2⟩
      have TN : Hid (TxB w g f (1 + 1) v4 w7) := Lib.hid ⟨(h2.block g (by omega)).trans HX6.out, by rw [show txt f (1 + 1) = txt f 1 ++ 32 :: nm 1 ++ [61] ++ Lib.itoa f.b by simp [txt, Cf.at]]; exact h1, BW.out.trans (h2.mono (by omega))⟩
      clear h1 h2 AP
      go_wp2_with fail
      go_roundw
      case rel => exact ⟨1 + 1, by omega, by go_num, TN.out⟩
      case measure => simp [intOf]
    · have hix := idx2
      have T0 := Lib.hid ((B.out.out).below (Below.alloc (Below.refl wr.heap.size wr) (Nat.le_refl _) (.cells #[.string ⟨#[118, 101, 114, 116, 115]⟩, .int .i64 2, .int .i64 4096] 64)))
      have hl := txt_len HF.out 2
      have BA := Lib.hid (B.out.below.alloc B.out.below.size (.cells #[.string ⟨#[118, 101, 114, 116, 115]⟩, .int .i64 2, .int .i64 4096] 64))
      have XA := Lib.hid (block_old B.out.box (.cells #[.string ⟨#[118, 101, 114, 116, 115]⟩, .int .i64 2, .int .i64 4096] 64))
      have hRow : Hid ((wr.alloc (.cells #[.string ⟨#[118, 101, 114, 116, 115]⟩, .int .i64 2, .int .i64 4096] 64)).heap[wr.heap.size]? = some (.cells #[.string ⟨#[118, 101, 114, 116, 115]⟩, .int .i64 2, .int .i64 4096] 64 (0, 0))) := Lib.hid (block_new _ _)
      obtain ⟨W0, hW0⟩ : ∃ W, W = wr.alloc (.cells #[.string ⟨#[118, 101, 114, 116, 115]⟩, .int .i64 2, .int .i64 4096] 64) := ⟨_, rfl⟩
      have HW0 := Lib.hid hW0
      rw [← hW0] at T0 BA XA hRow
      have hg0 : g + 1 ≤ W0.heap.size := by rw [hW0]; simp; omega
      have hgr : wr.heap.size + 1 ≤ W0.heap.size := by rw [hW0]; simp
      have HGR := Lib.hid hgr
      have HH0 : Hid (W0.heap.size = wr.heap.size + 1) := Lib.hid (by rw [hW0]; simp)
      clear hW0 hgr
      go_wp2_with (at_builtin; rw [← HW0.out]; refine wpList_app' rfl (.tmp 20) (.tmp 21) 41 rfl 5 i5 .u8 1 Tryd.underlying41 hi hz0 hz1 hz2 (by decide) rfl T0.out hg0 32 HH0.out rfl (by rw [us_len]; omega) ?_)
      intro v1 w4 h1 h2 h3 h4
      have T1 : Hid (OutB w4 (g + 1) v1 (txt f 2 ++ [32])) := Lib.hid (out_snoc h1)
      have BE1 := Lib.hid h3
      have hg1 : g + 1 ≤ w4.heap.size := Nat.le_trans hg0 h3.size
      have x1 : w4.cell? ⟨wr.heap.size, 0, none⟩ = some (.string ⟨#[118, 101, 114, 116, 115]⟩) := cell_of (h2.keep hRow.out (fun e => by have := own_lt B.out.out.row e; omega)) 0
      obtain ⟨p1, m1, q1, rfl⟩ : ∃ a n c, v1 = .slice a n c := by obtain ⟨a, c, e⟩ := own_shape h1.row; exact ⟨a, _, c, e⟩
      clear h1 h2 h3 h4
      go_wp2_with (at_builtin; refine wpList_appStr rfl (.tmp 23) (.tmp 25) rfl rfl T1.out hg1 [118, 101, 114, 116, 115] rfl (by simp; omega) ?_)
      intro v2 w5 h1 h2
      have T2 : Hid (OutB w5 (g + 1) v2 (txt f 2 ++ 32 :: nm 2)) := Lib.hid h1
      have BE2 := Lib.hid (BE1.out.trans h2)
      have hg2 : g + 1 ≤ w5.heap.size := Nat.le_trans hg0 BE2.out.size
      obtain ⟨p2, m2, q2, rfl⟩ : ∃ a n c, v2 = .slice a n c := by obtain ⟨a, c, e⟩ := own_shape h1.row; exact ⟨a, _, c, e⟩
      clear h1 h2
      go_wp2_with (at_builtin; refine wpList_app rfl (.tmp 27) (.tmp 28) 41 rfl 5 i5 .u8 1 Tryd.underlying41 hi hz0 hz1 hz2 (by decide) rfl T2.out hg2 61 rfl (by rw [us_len]; simp [nm]; omega) ?_)
      intro v3 w6 h1 h2 h3 h4
      have T3 : Hid (OutB w6 (g + 1) v3 (txt f 2 ++ 32 :: nm 2 ++ [61])) := Lib.hid (out_snoc h1)
      have BE3 := Lib.hid (BE2.out.trans h3)
      have hg3 : g + 1 ≤ w6.heap.size := Nat.le_trans hg0 BE3.out.size
      have hx6 := (BE3.out.block g (by omega)).trans XA.out
      have x6 : w6.cell? ⟨g, 2, none⟩ = some (.int .i64 f.c) := cell_of hx6 2
      have BW := Lib.hid (BA.out.trans (BE3.out.mono (by omega)))
      obtain ⟨p3, m3, q3, rfl⟩ : ∃ a n c, v3 = .slice a n c := by obtain ⟨a, c, e⟩ := own_shape h1.row; exact ⟨a, _, c, e⟩
      have AP := Lib.hid (l_app HE.out BW.out (by omega) hg3 T3.out (i := f.c) (HF.out.at 2).1 (HF.out.at 2).2 (by simp [nm]; omega))
      have HX6 := Lib.hid hx6
      clear h1 h2 h3 h4 hx6
      go_wp2_with fail
      refine (AP.out).mono ?_; rintro e w7 ⟨v4, rfl, h1, h2⟩
      have TN : Hid (TxB w g f (2 + 1) v4 w7) := Lib.hid ⟨(h2.block g (by omega)).trans HX6.out, by rw [show txt f (2 + 1) = txt f 2 ++ 32 :: nm 2 ++ [61] ++ Lib.itoa f.c by simp [txt, Cf.at]]; exact h1, BW.out.trans (h2.mono (by omega))⟩
      clear h1 h2 AP
      go_wp2_with fail
      go_roundw
      case rel => exact ⟨2 + 1, by omega, by go_num, TN.out⟩
      case measure => simp [intOf]
    · have hix := idx3
      have T0 := Lib.hid ((B.out.out).below (Below.alloc (Below.refl wr.heap.size wr) (Nat.le_refl _) (.cells #[.string ⟨#[100, 114, 97, 119, 115]⟩, .int .i64 0, .int .i64 16384] 64)))
      have hl := txt_len HF.out 3
      have BA := Lib.hid (B.out.below.alloc B.out.below.size (.cells #[.string ⟨#[100, 114, 97, 119, 115]⟩, .int .i64 0, .int .i64 16384] 64))
      have XA := Lib.hid (block_old B.out.box (.cells #[.string ⟨#[100, 114, 97, 119, 115]⟩, .int .i64 0, .int .i64 16384] 64))
      have hRow : Hid ((wr.alloc (.cells #[.string ⟨#[100, 114, 97, 119, 115]⟩, .int .i64 0, .int .i64 16384] 64)).heap[wr.heap.size]? = some (.cells #[.string ⟨#[100, 114, 97, 119, 115]⟩, .int .i64 0, .int .i64 16384] 64 (0, 0))) := Lib.hid (block_new _ _)
      obtain ⟨W0, hW0⟩ : ∃ W, W = wr.alloc (.cells #[.string ⟨#[100, 114, 97, 119, 115]⟩, .int .i64 0, .int .i64 16384] 64) := ⟨_, rfl⟩
      have HW0 := Lib.hid hW0
      rw [← hW0] at T0 BA XA hRow
      have hg0 : g + 1 ≤ W0.heap.size := by rw [hW0]; simp; omega
      have hgr : wr.heap.size + 1 ≤ W0.heap.size := by rw [hW0]; simp
      have HGR := Lib.hid hgr
      have HH0 : Hid (W0.heap.size = wr.heap.size + 1) := Lib.hid (by rw [hW0]; simp)
      clear hW0 hgr
      go_wp2_with (at_builtin; rw [← HW0.out]; refine wpList_app' rfl (.tmp 20) (.tmp 21) 41 rfl 5 i5 .u8 1 Tryd.underlying41 hi hz0 hz1 hz2 (by decide) rfl T0.out hg0 32 HH0.out rfl (by rw [us_len]; omega) ?_)
      intro v1 w4 h1 h2 h3 h4
      have T1 : Hid (OutB w4 (g + 1) v1 (txt f 3 ++ [32])) := Lib.hid (out_snoc h1)
      have BE1 := Lib.hid h3
      have hg1 : g + 1 ≤ w4.heap.size := Nat.le_trans hg0 h3.size
      have x1 : w4.cell? ⟨wr.heap.size, 0, none⟩ = some (.string ⟨#[100, 114, 97, 119, 115]⟩) := cell_of (h2.keep hRow.out (fun e => by have := own_lt B.out.out.row e; omega)) 0
      obtain ⟨p1, m1, q1, rfl⟩ : ∃ a n c, v1 = .slice a n c := by obtain ⟨a, c, e⟩ := own_shape h1.row; exact ⟨a, _, c, e⟩
      clear h1 h2 h3 h4
      go_wp2_with (at_builtin; refine wpList_appStr rfl (.tmp 23) (.tmp 25) rfl rfl T1.out hg1 [100, 114, 97, 119, 115] rfl (by simp; omega) ?_)
      intro v2 w5 h1 h2
      have T2 : Hid (OutB w5 (g + 1) v2 (txt f 3 ++ 32 :: nm 3)) := Lib.hid h1
      have BE2 := Lib.hid (BE1.out.trans h2)
      have hg2 : g + 1 ≤ w5.heap.size := Nat.le_trans hg0 BE2.out.size
      obtain ⟨p2, m2, q2, rfl⟩ : ∃ a n c, v2 = .slice a n c := by obtain ⟨a, c, e⟩ := own_shape h1.row; exact ⟨a, _, c, e⟩
      clear h1 h2
      go_wp2_with (at_builtin; refine wpList_app rfl (.tmp 27) (.tmp 28) 41 rfl 5 i5 .u8 1 Tryd.underlying41 hi hz0 hz1 hz2 (by decide) rfl T2.out hg2 61 rfl (by rw [us_len]; simp [nm]; omega) ?_)
      intro v3 w6 h1 h2 h3 h4
      have T3 : Hid (OutB w6 (g + 1) v3 (txt f 3 ++ 32 :: nm 3 ++ [61])) := Lib.hid (out_snoc h1)
      have BE3 := Lib.hid (BE2.out.trans h3)
      have hg3 : g + 1 ≤ w6.heap.size := Nat.le_trans hg0 BE3.out.size
      have hx6 := (BE3.out.block g (by omega)).trans XA.out
      have x6 : w6.cell? ⟨g, 3, none⟩ = some (.int .i64 f.d) := cell_of hx6 3
      have BW := Lib.hid (BA.out.trans (BE3.out.mono (by omega)))
      obtain ⟨p3, m3, q3, rfl⟩ : ∃ a n c, v3 = .slice a n c := by obtain ⟨a, c, e⟩ := own_shape h1.row; exact ⟨a, _, c, e⟩
      have AP := Lib.hid (l_app HE.out BW.out (by omega) hg3 T3.out (i := f.d) (HF.out.at 3).1 (HF.out.at 3).2 (by simp [nm]; omega))
      have HX6 := Lib.hid hx6
      clear h1 h2 h3 h4 hx6
      go_wp2_with fail
      refine (AP.out).mono ?_; rintro e w7 ⟨v4, rfl, h1, h2⟩
      have TN : Hid (TxB w g f (3 + 1) v4 w7) := Lib.hid ⟨(h2.block g (by omega)).trans HX6.out, by rw [show txt f (3 + 1) = txt f 3 ++ 32 :: nm 3 ++ [61] ++ Lib.itoa f.d by simp [txt, Cf.at]]; exact h1, BW.out.trans (h2.mono (by omega))⟩
      clear h1 h2 AP
      go_wp2_with fail
      go_roundw
      case rel => exact ⟨3 + 1, by omega, by go_num, TN.out⟩
      case measure => simp [intOf]
    · have hs := out_string B.out.out (text_ne f)
      have BB := Lib.hid B.out.below
      clear B
      go_wp2_with fail
      go_ret2
      exact ⟨rfl, BB.out⟩
end Go.Proofs.YtabihdhgonnihaaDoor

/- ConfigShort: the walk. -/
import Derived.Test.YtabihdhgonnihaaDoorZp
import Derived.Test.YtabihdhgonnihaaDoorZl
namespace Go.Proofs.YtabihdhgonnihaaDoor
open Go.ChangeShapes Go.WideShapes Go.ChangeAt Go.RowKit
set_option linter.unusedVariables false
set_option linter.unusedSimpArgs false

theorem nat_u64 {a : Int} (h : (Lit.int .u64 a).wf = true) : ∃ n : Nat, a = n ∧ n < 18446744073709551616 := by
  simp only [Lit.wf, Bool.and_eq_true, decide_eq_true_eq] at h
  rw [show IntKind.u64.min = 0 from rfl, show IntKind.u64.max = 18446744073709551615 from rfl] at h
  exact ⟨a.toNat, by omega, by omega⟩
theorem nat_u16 {a : Int} (h : (Lit.int .u16 a).wf = true) : ∃ n : Nat, a = n ∧ n < 65536 := by
  simp only [Lit.wf, Bool.and_eq_true, decide_eq_true_eq] at h
  rw [show IntKind.u16.min = 0 from rfl, show IntKind.u16.max = 65535 from rfl] at h
  exact ⟨a.toNat, by omega, by omega⟩
theorem nat_u8 {a : Int} (h : (Lit.int .u8 a).wf = true) : ∃ n : Nat, a = n ∧ n < 256 := by
  simp only [Lit.wf, Bool.and_eq_true, decide_eq_true_eq] at h
  rw [show IntKind.u8.min = 0 from rfl, show IntKind.u8.max = 255 from rfl] at h
  exact ⟨a.toNat, by omega, by omega⟩
theorem xor_byte {c : Int} (h0 : 0 ≤ c) (h1 : c < 256) {y : Nat} (hy : y < 256) : ∃ X, bits .xor .u8 c (y : Int) = X ∧ 0 ≤ X ∧ X < 256 ∧ (X = c ↔ y = 0) := by
  obtain ⟨C, rfl⟩ := Int.eq_ofNat_of_zero_le h0
  refine ⟨_, u8_xor_nat C y (by omega) hy, by omega, ?_, ?_⟩
  · have := Nat.xor_lt_two_pow (n := 8) (show C < 2 ^ 8 by omega) (show y < 2 ^ 8 by omega)
    omega
  · constructor
    · intro h
      have h2 : C ^^^ y = C := by omega
      have h3 : C ^^^ (C ^^^ y) = 0 := by rw [h2, Nat.xor_self]
      rwa [← Nat.xor_assoc, Nat.xor_self, Nat.zero_xor] at h3
    · rintro rfl
      rw [Nat.xor_zero]
theorem run_to8 {a : Option Addr} {len cap : Nat} {h : Int} {k : Nat} (hh : h = k) (hk : k ≤ cap) (w : World) : (Instr.slice 41 (.slice a len cap) none (some (.int .u8 h)) none).run Tryd.prog w = .ok (.slice (part a 0 cap 1) k cap) w := by
  have he : Tryd.prog.elem 41 = 5 := by simp [Program.elem, Tryd.underlying41]
  rw [run_slice_h w 41 a len cap (by rw [he]; exact Tryd.underlying41) .u8 h (by omega) (by omega), he, size5, hh]
  simp [Result.andThen, sliced, part]
/-- A byte is changed. -/
theorem short_plain {f : Cf} (hf : f.ok) {k : Nat} (hk : k < 32) {X : Int} (h0 : 0 ≤ X) (h1 : X < 256) :
    IsB ((putB f 4).set k X) ∧ ((putB f 4).set k X).length = 32 ∧ (getC ((putB f 4).set k X) = f ↔ X = (putB f 4).getD k 0) ∧ putB (getC ((putB f 4).set k X)) 4 = (putB f 4).set k X := by
  have hl : ((putB f 4).set k X).length = 32 := by rw [List.length_set, putB_len]
  have hB : IsB ((putB f 4).set k X) := fun y hy => by
    rcases List.mem_or_eq_of_mem_set hy with h | h
    · exact isB_put f y h
    · omega
  have hp := put_get hl hB
  have hk2 : k < (putB f 4).length := by rw [putB_len]; omega
  refine ⟨hB, hl, ⟨fun e => ?_, fun e => ?_⟩, hp⟩
  · rw [e] at hp
    have h2 : ((putB f 4).set k X).getD k 0 = (putB f 4).getD k 0 := by rw [← hp]
    rw [List.getD_eq_getElem?_getD, List.getElem?_set_self hk2] at h2
    exact h2
  · have : (putB f 4).set k X = putB f 4 := by
      rw [e, List.getD_eq_getElem?_getD, List.getElem?_eq_getElem hk2]
      exact List.set_getElem_self hk2
    rw [this]
    have := getC_put hf []
    rwa [List.append_nil] at this
theorem cf_ne {q f : Cf} (h : q ≠ f) : (q.a == f.a) = false ∨ ((q.a == f.a) = true ∧ (q.b == f.b) = false) ∨ ((q.a == f.a) = true ∧ (q.b == f.b) = true ∧ (q.c == f.c) = false) ∨ ((q.a == f.a) = true ∧ (q.b == f.b) = true ∧ (q.c == f.c) = true ∧ (q.d == f.d) = false) := by
  obtain ⟨a, b, c, d⟩ := q
  obtain ⟨a', b', c', d'⟩ := f
  simp only [ne_eq, Cf.mk.injEq] at h
  simp only [beq_eq_false_iff_ne, beq_iff_eq]
  by_cases e1 : a = a'
  · by_cases e2 : b = b'
    · by_cases e3 : c = c'
      · by_cases e4 : d = d'
        · exact absurd ⟨e1, e2, e3, e4⟩ h
        · exact Or.inr (Or.inr (Or.inr ⟨e1, e2, e3, e4⟩))
      · exact Or.inr (Or.inr (Or.inl ⟨e1, e2, e3⟩))
    · exact Or.inr (Or.inl ⟨e1, e2⟩)
  · exact Or.inl e1
set_option maxRecDepth 100000 in
set_option maxHeartbeats 16000000 in
theorem short_walk (a b c d n at_ by_ : Int) (w : World) (hE : Env w) (wa : (Lit.int .u64 a).wf = true) (wb : (Lit.int .u16 b).wf = true) (wc : (Lit.int .u16 c).wf = true) (wd : (Lit.int .u16 d).wf = true) (wn : (Lit.int .u8 n).wf = true) (wt : (Lit.int .u8 at_).wf = true) (wy : (Lit.int .u8 by_).wf = true) :
    Calls Tryd.prog 9 #[.int .u64 a, .int .u16 b, .int .u16 c, .int .u16 d, .int .u8 n, .int .u8 at_, .int .u8 by_] w fun e w' => e = .returned (.bool true) ∧ Below w.heap.size w w' := by
  obtain ⟨A, rfl, hA⟩ := nat_u64 wa
  obtain ⟨B, rfl, hB⟩ := nat_u16 wb
  obtain ⟨C, rfl, hC⟩ := nat_u16 wc
  obtain ⟨D, rfl, hD⟩ := nat_u16 wd
  obtain ⟨N, rfl, hN⟩ := nat_u8 wn
  obtain ⟨T, rfl, hT⟩ := nat_u8 wt
  obtain ⟨Y, rfl, hY⟩ := nat_u8 wy
  have P1 := Lib.hid (pdrawn A B C D hA hB hC hD w)
  have FO := Lib.hid (drawn_ok A B C D)
  have FW := Lib.hid (drawn_wrong A B C D)
  generalize drawnC A B C D = f at *
  have HE := Lib.hid hE
  have HY := Lib.hid hY
  have PP := Lib.hid (fun w' (hb : Below w.heap.size w w') => pput_ok (hE.below hb) f FO.out FW.out)
  clear wa wb wc wd wn wt wy hA hB hC hD hE hY
  go_enter Tryd.func9, Tryd.ntmps9
  go_wp2_with fail
  refine (P1.out).mono ?_; rintro e w1 ⟨rfl, hb1⟩
  have B1 := Lib.hid (hb1.alloc hb1.size (.cells #[.int .i64 f.a, .int .i64 f.b, .int .i64 f.c, .int .i64 f.d] 25))
  have X1 := Lib.hid (block_new w1 (.cells #[.int .i64 f.a, .int .i64 f.b, .int .i64 f.c, .int .i64 f.d] 25))
  have P2 := Lib.hid (PP.out _ B1.out)
  clear hb1 P1 PP
  go_wp2_with fail
  refine (P2.out).mono ?_; rintro e w2 ⟨v, rfl, ho, hb2⟩
  have B2 := Lib.hid (B1.out.trans (hb2.mono B1.out.size))
  have X2 := Lib.hid ((hb2.block _ (lt_of_block X1.out)).trans X1.out)
  have hlen : (putB f 4).length = 32 := putB_len f 4
  obtain ⟨g, cap, rfl, hg, hblk⟩ := OutR.blk_of ho (by intro e; rw [e] at hlen; cases hlen)
  have HLEN := Lib.hid hlen
  have BK := Lib.hid hblk
  have HG : Hid (w1.heap.size < g) := Lib.hid (by simp at hg; omega)
  have hcap : 32 ≤ cap := by obtain ⟨rest, h1, _⟩ := hblk; omega
  have S2 : Hid (IsK .u8 w2 (some ⟨g, 0, none⟩) 32 cap (putB f 4)) := Lib.hid (hblk.sl (by omega))
  rw [hlen]
  have hsl := run_to8 (a := some ⟨g, 0, none⟩) (len := 32) (cap := cap) (h := (N : Int) % 32) (k := N % 32) (by simp) (by omega)
  have hpt : part (some ⟨g, 0, none⟩) 0 cap 1 = some ⟨g, 0, none⟩ := by unfold Go.Proofs.YtabihdhgonnihaaDoor.part; rw [if_neg (by omega)]; rfl
  rw [hpt] at hsl
  have P3 := Lib.hid (pget (HE.out.below B2.out) (S2.out.take (k := N % 32) (by omega)) ((isB_put f).take _))
  rw [get_short (by rw [List.length_take, HLEN.out]; omega)] at P3
  unfold GetR at P3
  generalize N % 32 = nn at *
  clear hb2 P2 ho hlen hg hblk X1 hpt
  go_wp2_with fail
  refine (P3.out).mono ?_; rintro e w3 ⟨rfl, hb3⟩
  have hb3' := hb3.alloc hb3.size (.cells #[.int .i64 zero.a, .int .i64 zero.b, .int .i64 zero.c, .int .i64 zero.d] 25)
  have B3 := Lib.hid (B2.out.trans (hb3'.mono B2.out.size))
  have X3 := Lib.hid ((hb3'.block _ (lt_of_block X2.out)).trans X2.out)
  have BK3 := Lib.hid (BK.out.below hb3')
  clear hb3 hb3' P3 hsl S2 BK X2
  simp only [zero] at *
  have hk : T % 32 < 32 := by omega
  have hbl := BK3.out
  have hcl := hbl.cell (i := T % 32) (by have := HLEN.out; omega)
  have hfr := hbl.free (T % 32)
  have hlt := hbl.lt
  have hcB := isB_getD (isB_put f) (T % 32)
  obtain ⟨X, hX, hX0, hX1, hXY⟩ := xor_byte hcB.1 hcB.2 HY.out
  have SP := Lib.hid (short_plain FO.out hk hX0 hX1)
  have BS := Lib.hid (hbl.set (i := T % 32) (by have := HLEN.out; omega) X)
  have HXY := Lib.hid hXY
  clear hbl hcB hXY hX0 hX1 hk
  generalize (putB f 4).getD (T % 32) 0 = cc at *
  generalize (putB f 4).set (T % 32) X = zs at *
  have P4 := Lib.hid (fun w' (hb : Below w.heap.size w w') (hs : Blk .u8 5 w' g cap zs) => pget (HE.out.below hb) (hs.sl (n := 32) (by have := SP.out.2.1; omega)) SP.out.1)
  have HT : Hid (get zs = if wrong (getC zs) < 0 then (getC zs, 32, 0) else (zero, 0, 2)) := Lib.hid (by unfold get; rw [if_neg (by have := SP.out.2.1; omega)])
  have GO := Lib.hid (getC_ok SP.out.1)
  have BW : Hid (Below w.heap.size w ((w3.alloc (.cells #[.int .i64 0, .int .i64 0, .int .i64 0, .int .i64 0] 25)).setCell ⟨g, T % 32, none⟩ (.int .u8 X))) := Lib.hid (B3.out.setCell (by have := B1.out.size; have := HG.out; simp at *; omega) _)
  have XW : Hid (((w3.alloc (.cells #[.int .i64 0, .int .i64 0, .int .i64 0, .int .i64 0] 25)).setCell ⟨g, T % 32, none⟩ (.int .u8 X)).heap[w1.heap.size]? = some (.cells #[.int .i64 f.a, .int .i64 f.b, .int .i64 f.c, .int .i64 f.d] 25 (0, 0))) := Lib.hid (block_set X3.out (by have := HG.out; show w1.heap.size ≠ g; omega) _)
  have P5 := Lib.hid (P4.out _ BW.out BS.out)
  have WK := Lib.hid (fun w' (hb : Below w.heap.size w w') => works_any (HE.out.below hb))
  have PP := Lib.hid (fun w' (hb : Below w.heap.size w w') hk => pput_ok (HE.out.below hb) (getC zs) GO.out hk)
  clear P4 X3 BK3 B3
  by_cases hw : wrong (getC zs) < 0
  · rw [if_pos hw] at HT
    have HW := Lib.hid hw
    have PP2 := Lib.hid (fun w' (hb : Below w.heap.size w w') => PP.out w' hb HW.out)
    rw [HT.out] at P5
    rw [SP.out.2.2.2] at PP2
    unfold GetR at P5
    dsimp only at P5
    have HQ : Hid (getC zs = f ↔ Y = 0) := Lib.hid (SP.out.2.2.1.trans HXY.out)
    have ZL := Lib.hid SP.out.2.1
    clear hw PP HT HW GO SP HXY
    generalize getC zs = q at *
    go_wp2_with fail
    refine (P5.out).mono ?_; rintro e w5 ⟨rfl, hb5⟩
    have hb5' := hb5.alloc hb5.size (.cells #[.int .i64 q.a, .int .i64 q.b, .int .i64 q.c, .int .i64 q.d] 25)
    have B5 := Lib.hid (BW.out.trans (hb5'.mono BW.out.size))
    have X5 := Lib.hid ((hb5'.block _ (lt_of_block XW.out)).trans XW.out)
    have Y5 := Lib.hid (block_new w5 (.cells #[.int .i64 q.a, .int .i64 q.b, .int .i64 q.c, .int .i64 q.d] 25))
    have S5 := Lib.hid (BS.out.below hb5')
    have P6 := Lib.hid (PP2.out _ B5.out)
    clear hb5 hb5' P5 PP2 BW XW BS
    go_wp2_with fail
    refine (P6.out).mono ?_; rintro e w6 ⟨v, rfl, ho, hb6⟩
    have B6 := Lib.hid (B5.out.trans (hb6.mono B5.out.size))
    have hx6 := (hb6.block _ (lt_of_block X5.out)).trans X5.out
    have hy6 := (hb6.block _ (lt_of_block Y5.out)).trans Y5.out
    obtain ⟨a6, c6, rfl, hS6⟩ := ho.sl
    have Q := Lib.hid (psame hS6 ((S5.out.below hb6).sl (n := 32) (by have := ZL.out; omega)))
    simp only [decide_true] at Q
    rw [ZL.out] at Q ⊢
    have x0 : w6.cell? ⟨w1.heap.size, 0, none⟩ = some (.int .i64 f.a) := cell_of hx6 0
    have x1 : w6.cell? ⟨w1.heap.size, 1, none⟩ = some (.int .i64 f.b) := cell_of hx6 1
    have x2 : w6.cell? ⟨w1.heap.size, 2, none⟩ = some (.int .i64 f.c) := cell_of hx6 2
    have x3 : w6.cell? ⟨w1.heap.size, 3, none⟩ = some (.int .i64 f.d) := cell_of hx6 3
    have y0 : w6.cell? ⟨w5.heap.size, 0, none⟩ = some (.int .i64 q.a) := cell_of hy6 0
    have y1 : w6.cell? ⟨w5.heap.size, 1, none⟩ = some (.int .i64 q.b) := cell_of hy6 1
    have y2 : w6.cell? ⟨w5.heap.size, 2, none⟩ = some (.int .i64 q.c) := cell_of hy6 2
    have y3 : w6.cell? ⟨w5.heap.size, 3, none⟩ = some (.int .i64 q.d) := cell_of hy6 3
    clear hb6 P6 X5 Y5 hx6 hy6 ho hS6 S5
    by_cases hqf : q = f
    · have hY0 : Y = 0 := HQ.out.1 hqf
      subst hY0 hqf
      clear HQ
      go_wp2_with fail
      refine (Q.out).mono ?_; rintro e w7 ⟨rfl, hb7⟩
      have B7 := Lib.hid (B6.out.trans (hb7.mono B6.out.size))
      have W7 := Lib.hid (WK.out _ B7.out)
      clear hb7 Q WK
      go_wp2_with fail
      refine (W7.out).mono ?_; rintro e w8 ⟨rfl, hb8⟩
      have B8 := Lib.hid (B7.out.trans (hb8.mono B7.out.size))
      clear hb8 W7
      go_wp2_with fail
      go_ret
      exact ⟨rfl, B8.out⟩
    · have hY0 : ¬ Y = 0 := fun e => hqf (HQ.out.2 e)
      have ey : ((Y : Int) == 0) = false := by simp; omega
      have ey2 : (Y == 0) = false := by simp; omega
      have hc := cf_ne hqf
      clear HQ hqf
      rcases hc with h0 | ⟨h0, h1⟩ | ⟨h0, h1, h2⟩ | ⟨h0, h1, h2, h3⟩
      all_goals
        go_wp2_with fail
        refine (Q.out).mono ?_; rintro e w7 ⟨rfl, hb7⟩
        have B7 := Lib.hid (B6.out.trans (hb7.mono B6.out.size))
        have W7 := Lib.hid (WK.out _ B7.out)
        clear hb7 Q WK
        go_wp2_with fail
        refine (W7.out).mono ?_; rintro e w8 ⟨rfl, hb8⟩
        have B8 := Lib.hid (B7.out.trans (hb8.mono B7.out.size))
        clear hb8 W7
        go_wp2_with fail
        go_ret
        exact ⟨rfl, B8.out⟩
  · rw [if_neg hw] at HT
    rw [HT.out] at P5
    unfold GetR at P5
    dsimp only at P5
    have hY0 : ¬ Y = 0 := fun e => hw (by rw [SP.out.2.2.1.2 (HXY.out.2 e)]; exact FW.out)
    have ey : ((Y : Int) == 0) = false := by simp; omega
    have ey3 : ((Y : Int) != 0) = true := by simp; omega
    have ey2 : (Y == 0) = false := by simp; omega
    clear hw PP HT GO SP HXY
    simp only [zero] at P5
    go_wp2_with fail
    refine (P5.out).mono ?_; rintro e w5 ⟨rfl, hb5⟩
    have hb5' := hb5.alloc hb5.size (.cells #[.int .i64 0, .int .i64 0, .int .i64 0, .int .i64 0] 25)
    have B5 := Lib.hid (BW.out.trans (hb5'.mono BW.out.size))
    have W5 := Lib.hid (WK.out _ B5.out)
    clear hb5 hb5' P5 BW XW BS WK
    go_wp2_with fail
    refine (W5.out).mono ?_; rintro e w8 ⟨rfl, hb8⟩
    have B8 := Lib.hid (B5.out.trans (hb8.mono B5.out.size))
    clear hb8 W5
    go_wp2_with fail
    go_ret
    exact ⟨rfl, B8.out⟩
end Go.Proofs.YtabihdhgonnihaaDoor

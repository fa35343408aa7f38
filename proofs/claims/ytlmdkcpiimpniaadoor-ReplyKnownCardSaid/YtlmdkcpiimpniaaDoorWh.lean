/- ReplyGets: the walk. -/
import Derived.Test.YtlmdkcpiimpniaaDoorWf
import Derived.Test.YtlmdkcpiimpniaaDoorXf
import Derived.StillTailTactics
namespace Go.Proofs.YtlmdkcpiimpniaaDoor
open Go.ChangeShapes Go.WideShapes Go.ChangeAt Go.RowKit
set_option linter.unusedVariables false
set_option linter.unusedSimpArgs false

/-- A list of replies in memory. -/
structure Rps (w : World) (a : Option Addr) (n cap : Nat) (zs : List RV) : Prop where
  sl : IsSl 5 enc5 w a n cap zs
  ls : ∀ r ∈ zs, LsV w r
theorem Rps.below {w w' : World} {a : Option Addr} {n cap : Nat} {zs : List RV} (h : Rps w a n cap zs) (hb : Below w.heap.size w w') : Rps w' a n cap zs := ⟨h.sl.below hb, fun r hr => (h.ls r hr).keep hb⟩
theorem cell5 {w : World} {b off n cap : Nat} {zs : List RV} (h : IsSl 5 enc5 w (some ⟨b, off, none⟩) n cap zs) {i : Nat} (hi : i < zs.length) :
    w.cell? ⟨b, off + i * 5, none⟩ = some (.int .i64 zs[i].r.op) ∧ w.cell? ⟨b, off + i * 5 + 1, none⟩ = some (.int .i64 zs[i].r.er) ∧ w.cell? ⟨b, off + i * 5 + 2, none⟩ = some (.bool zs[i].r.yes) ∧ w.cell? ⟨b, off + i * 5 + 3, none⟩ = some (.slice zs[i].a zs[i].r.ids.length zs[i].c) ∧
      w.cell? ⟨b, off + i * 5 + 4, none⟩ = some (.slice zs[i].a' zs[i].r.nums.length zs[i].c') := by
  obtain ⟨b', off', e, _, hc⟩ := h.at_ (fun e => by rw [e] at hi; simp at hi)
  cases e
  exact ⟨hc i hi 0 (by omega), hc i hi 1 (by omega), hc i hi 2 (by omega), hc i hi 3 (by omega), hc i hi 4 (by omega)⟩
def GaS (w : World) (l : List Rp) (er : Int) (e : Ending) (w' : World) : Prop :=
  ∃ a n cp zs, e = .returned (.tuple #[.slice a n cp, .int .i64 er]) ∧ Below w.heap.size w w' ∧ Rps w' a n cp zs ∧ rs zs = l
theorem ga_sl {w w' : World} {R : Option (List Rp)} {e : Ending} (h : GaR w R e w') : GaS w (R.getD []) (if R.isSome = true then 0 else 15) e w' := by
  obtain ⟨v, zs, rfl, hB, ho, hc⟩ := h
  obtain ⟨a, cp, rfl⟩ := own_shape ho.out.row
  exact ⟨a, _, cp, zs, rfl, hB, ⟨IsSl.of_own enc5_len ho.out.row rfl, ho.ls⟩, hc⟩
def GeT (w : World) (q : Rp) (m er : Int) (e : Ending) (w' : World) : Prop :=
  ∃ a c a' c', e = .returned (.tuple #[.agg #[.int .i64 q.op, .int .i64 q.er, .bool q.yes, .slice a q.ids.length c, .slice a' q.nums.length c'], .int .i64 m, .int .i64 er]) ∧ LsR w' q a c a' c' ∧ Below w.heap.size w w'
theorem ge_t {w w' : World} {R : Option (Rp × Nat)} {e : Ending} (h : GeS w R e w') : GeT w ((R.map (·.1)).getD r0) (((R.map (·.2)).getD 0 : Nat) : Int) (if R.isSome = true then 0 else 15) e w' := by
  obtain ⟨a, c, a', c', rfl, hl, hb, _⟩ := h
  exact ⟨a, c, a', c', rfl, hl, hb⟩
def RsRel (w : World) (n : Nat) (v : Value) (wr : World) : Prop := ∃ i : Nat, i ≤ n ∧ v = .int .i64 (i : Int) ∧ Below w.heap.size w wr
set_option maxRecDepth 100000 in
set_option maxHeartbeats 16000000 in
theorem gets_walk (a : Option Addr) (n c : Nat) (zs : List Int) (w : World) (hE : Env w) (h : IsInts .u8 w a n c zs) :
    Calls Tryd.prog 9 #[.slice a n c] w fun e w' => e = .returned (.bool true) ∧ Below w.heap.size w w' := by
  obtain ⟨b, hS, hb⟩ := ints_u8 h
  obtain ⟨i0, hi, hz0, hz1, hz2⟩ := info_parts info5
  have hn := hS.u8; have hnc := hS.hle; have hmx := hS.hmax
  unfold maxLen at hmx
  have PW := Lib.hid (fun W (hb : Below w.heap.size w W) => pworks (hE.below hb))
  by_cases hl : 3000 < n
  · have e1 : decide ((3000 : Int) < (n : Int)) = true := by simp; omega
    have e2 : decide (3000 < n) = true := by simp; omega
    clear h hE hS hb hn
    go_enter Tryd.func9, Tryd.ntmps9
    go_wp2_with fail
    refine (PW.out _ (Below.refl _ _)).mono ?_; rintro e w1 ⟨rfl, hb⟩
    have B := Lib.hid hb
    clear hb
    go_wp2_with fail
    go_ret
    exact ⟨rfl, B.out⟩
  · have e1 : decide ((3000 : Int) < (n : Int)) = false := by simp; omega
    have e2 : decide (3000 < n) = false := by simp; omega
    have P16 := Lib.hid (fun W x y (hb1 : Below w.heap.size w W) (hs : IsK .u8 W x n y (ns b)) => (pget (hE.below hb1) hs hb (by omega)).mono (fun e w' h => ge_t h))
    have P27 := Lib.hid (fun W (hb1 : Below w.heap.size w W) => (rget (hS.below hb1) hb (by omega)).mono (fun e w' h => ge_t h))
    have P17 := Lib.hid (fun W x y (hb1 : Below w.heap.size w W) (hs : IsK .u8 W x n y (ns b)) => (pgetall (hE.below hb1) hs hb (by omega)).mono (fun e w' h => ga_sl h))
    have P28 := Lib.hid (fun W (hb1 : Below w.heap.size w W) => (rgetall (hS.below hb1) hb (by omega)).mono (fun e w' h => ga_sl h))
    have CV : Hid (∀ W p n q, IsK .u8 W p n q (ns b) → (convert 31 9 (.slice p n q)).run Tryd.prog W = .ok (.string ⟨(strB b).toArray⟩) W) := Lib.hid (fun W p n q h => conv_sl h hb)
    have HS := Lib.hid hS
    have hn3 : n ≤ 3000 := by omega
    have HBN : Hid ((ns b).length = n) := Lib.hid (by rw [ns_len, hn])
    have A1 := Lib.hid (Below.alloc (Below.refl w.heap.size w) (Nat.le_refl _) (.cells #[] 5))
    have E1 := Lib.hid (own_emptyK .u8 w 5 (Nat.le_refl w.heap.size))
    have S1 := Lib.hid (hS.below A1.out)
    generalize ((getR b).map (·.1)).getD r0 = q at *
    generalize (((getR b).map (·.2)).getD 0 : Nat) = m at *
    generalize (if (getR b).isSome = true then (0 : Int) else 15) = E at *
    generalize (getAllR b).getD [] = rl at *
    generalize (if (getAllR b).isSome = true then (0 : Int) else 15) = F at *
    clear h hE hS hb hn hl
    generalize strB b = SB at *
    unfold GeT at P16 P27
    unfold GaS at P17 P28
    go_enter Tryd.func9, Tryd.ntmps9
    go_wp2_with (at_builtin; refine wpList_appS rfl (.tmp 19) (.tmp 20) 31 rfl 5 i0 .u8 1 Tryd.underlying31 hi hz0 hz1 hz2 (by decide) rfl E1.out A1.out.size S1.out rfl (by simp; omega) ?_)
    intro v2 w2 h1 h2 h3 h4
    have O2 : Hid (OutR 1 (encK .u8) 5 w2 w.heap.size v2 (ns b)) := Lib.hid (by simpa using h1)
    have B2 := Lib.hid (A1.out.trans h3)
    obtain ⟨a2, c2, rfl, hS2⟩ := O2.out.sl
    rw [HBN.out] at hS2 ⊢
    have S2 := Lib.hid hS2
    have Q16 := Lib.hid (P16.out _ _ _ B2.out hS2)
    clear h1 h2 h3 h4 hS2 E1 A1 S1 O2 P16
    go_wp2_with fail
    refine (Q16.out).mono ?_; rintro e w3 ⟨xa, xc, xb, xd, rfl, hl3, hb3⟩
    have D3 := Lib.hid (Below.alloc (Below.refl w3.heap.size w3) (Nat.le_refl _) (.cells #[.int .i64 q.op, .int .i64 q.er, .bool q.yes, .slice xa q.ids.length xc, .slice xb q.nums.length xd] 27))
    have hb3' := hb3.trans (D3.out.mono hb3.size)
    have B3 := Lib.hid (B2.out.trans (hb3'.mono B2.out.size))
    have S3 := Lib.hid (S2.out.below hb3')
    have L3 := Lib.hid (hl3.keep D3.out)
    have X3 := Lib.hid (block_new w3 (.cells #[.int .i64 q.op, .int .i64 q.er, .bool q.yes, .slice xa q.ids.length xc, .slice xb q.nums.length xd] 27))
    have Q27 := Lib.hid (P27.out _ B3.out)
    clear hb3 hb3' hl3 Q16 P27 S2
    go_wp2_with fail
    refine (Q27.out).mono ?_; rintro e w4 ⟨ya, yc, yb, yd, rfl, hl4, hb4⟩
    have D4 := Lib.hid (Below.alloc (Below.refl w4.heap.size w4) (Nat.le_refl _) (.cells #[.int .i64 q.op, .int .i64 q.er, .bool q.yes, .slice ya q.ids.length yc, .slice yb q.nums.length yd] 27))
    have hb4' := hb4.trans (D4.out.mono hb4.size)
    have B4 := Lib.hid (B3.out.trans (hb4'.mono B3.out.size))
    have S4 := Lib.hid (S3.out.below hb4')
    have L4 := Lib.hid (L3.out.keep hb4')
    have M4 := Lib.hid (hl4.keep D4.out)
    have X4 := Lib.hid ((hb4'.block _ (lt_of_block X3.out)).trans X3.out)
    have Y4 := Lib.hid (block_new w4 (.cells #[.int .i64 q.op, .int .i64 q.er, .bool q.yes, .slice ya q.ids.length yc, .slice yb q.nums.length yd] 27))
    have Q17 := Lib.hid (P17.out _ _ _ B4.out S4.out)
    clear hb4 hb4' hl4 Q27 P17 S3 L3 X3
    go_wp2_with fail
    refine (Q17.out).mono ?_; rintro e w5 ⟨la, ln, lc, zs1, rfl, hb5, hr5, hz5⟩
    have B5 := Lib.hid (B4.out.trans (hb5.mono B4.out.size))
    have S5 := Lib.hid (S4.out.below hb5)
    have L5 := Lib.hid (L4.out.keep hb5)
    have M5 := Lib.hid (M4.out.keep hb5)
    have X5 := Lib.hid ((hb5.block _ (lt_of_block X4.out)).trans X4.out)
    have Y5 := Lib.hid ((hb5.block _ (lt_of_block Y4.out)).trans Y4.out)
    have R5 := Lib.hid hr5
    have Q28 := Lib.hid (P28.out _ B5.out)
    clear hb5 hr5 Q17 P28 S4 L4 M4 X4 Y4
    go_wp2_with fail
    refine (Q28.out).mono ?_; rintro e w6 ⟨ka, kn, kc, zs2, rfl, hb6, hr6, hz6⟩
    have B6 := Lib.hid (B5.out.trans (hb6.mono B5.out.size))
    have S6 := Lib.hid (S5.out.below hb6)
    have X6 := Lib.hid ((hb6.block _ (lt_of_block X5.out)).trans X5.out)
    have Y6 := Lib.hid ((hb6.block _ (lt_of_block Y5.out)).trans Y5.out)
    have R6 := Lib.hid (R5.out.below hb6)
    have T6 := Lib.hid hr6
    have hll : zs1.length = zs2.length := by have := congrArg List.length (hz5.trans hz6.symm); simpa [rs] using this
    have HEQ : Hid (∀ i (h1 : i < zs1.length) (h2 : i < zs2.length), zs1[i].r = zs2[i].r) := Lib.hid (fun i h1 h2 => by
      have h3 : (zs1.map RV.r)[i]? = (zs2.map RV.r)[i]? := by have := hz5.trans hz6.symm; unfold rs at this; rw [this]
      simpa [h1, h2] using h3)
    obtain rfl : ln = kn := by have := hr6.sl.hlen; have := R6.out.sl.hlen; omega
    have Q25 := Lib.hid (rsame (L5.out.keep hb6) (M5.out.keep hb6))
    rw [sameB_refl] at Q25
    unfold rpV at Q25
    have hlc := R6.out.sl.hle; have hlm := R6.out.sl.hmax
    have hkc := T6.out.sl.hle
    unfold maxLen at hlm
    have HL1 := Lib.hid R6.out.sl.hlen
    have HL2 := Lib.hid T6.out.sl.hlen
    obtain ⟨x0, x1, x2, x3, x4⟩ := at5_of X6.out
    obtain ⟨y0, y1, y2, y3, y4⟩ := at5_of Y6.out
    clear hb6 hr6 hz5 hz6 hll Q28 S5 L5 M5 X5 Y5 R5 X6 Y6
    go_wp2_with fail
    refine (Q25.out).mono ?_; rintro e w7 ⟨rfl, hb7⟩
    have B7 := Lib.hid (B6.out.trans (hb7.mono B6.out.size))
    have cv1 := CV.out _ _ _ _ (S6.out.below hb7)
    have cv2 := CV.out _ _ _ _ (HS.out.below B7.out)
    have R7 := Lib.hid (R6.out.below hb7)
    have T7 := Lib.hid (T6.out.below hb7)
    clear hb7 Q25 CV S6 HS R6 T6 x0 x1 x2 x3 x4 y0 y1 y2 y3 y4
    go_wp2_with fail
    clear cv1 cv2
    go_loopw [14] (fun v14 wr => RsRel w7 ln v14 wr) (fun v14 _ => ln - (intOf v14).toNat)
    case atStart => exact ⟨0, Nat.zero_le _, rfl, Below.refl _ _⟩
    case round =>
      obtain ⟨i, hil, rfl, hb⟩ := hrel
      have B := Lib.hid hb
      clear hb
      by_cases hlt : i < ln
      · have h1 : i < zs1.length := by have := HL1.out; omega
        have h2 : i < zs2.length := by have := HL2.out; omega
        obtain ⟨g, off, rfl, -, -⟩ := R7.out.sl.at_ (by intro e; rw [e] at h1; simp at h1)
        obtain ⟨g', off', rfl, -, -⟩ := T7.out.sl.at_ (by intro e; rw [e] at h2; simp at h2)
        have e := HEQ.out i h1 h2
        obtain ⟨x0, x1, x2, x3, x4⟩ := cell5 (R7.out.sl.below B.out) h1
        obtain ⟨y0, y1, y2, y3, y4⟩ := cell5 (T7.out.sl.below B.out) h2
        have l1 := (R7.out.ls zs1[i] (List.getElem_mem h1)).keep B.out
        have l2 := (T7.out.ls zs2[i] (List.getElem_mem h2)).keep B.out
        generalize zs1[i] = r at *
        generalize zs2[i] = r' at *
        obtain ⟨c, ad, cd, ab, cb⟩ := r
        obtain ⟨c', ad', cd', ab', cb'⟩ := r'
        simp only at e
        subst e
        have C := Lib.hid (rsame (l1.keep (Below.drew (Below.refl _ _))) (l2.keep (Below.drew (Below.refl _ _))))
        rw [sameB_refl] at C
        simp only at x0 x1 x2 x3 x4 y0 y1 y2 y3 y4
        unfold rpV at C
        dsimp only at C
        have hnot : ∀ (x : Bool) (w : World), (Op.unary .not (.bool x)).run Tryd.prog w = .ok (.bool (!x)) w := fun _ _ => rfl
        clear l1 l2 h1 h2
        go_wp2_with fail
        go_still_tail 8, (by kernel_rfl)
        go_wp2_with fail
        refine (C.out).mono ?_; rintro e w8 ⟨rfl, hb8⟩
        have B8 := Lib.hid ((Below.drew B.out).trans (hb8.mono B.out.size))
        clear hb8 C x0 x1 x2 x3 x4 y0 y1 y2 y3 y4
        go_wp2_with fail
        go_roundw
        case rel => exact ⟨i + 1, hlt, by go_num, B8.out⟩
        case measure => simp [intOf]; omega
      · have B9 := Lib.hid (B7.out.trans (B.out.mono B7.out.size))
        go_wp2_with fail
        refine (PW.out _ B9.out).mono ?_; rintro e w9 ⟨rfl, hb9⟩
        have B10 := Lib.hid (B9.out.trans (hb9.mono B9.out.size))
        clear hb9 PW
        go_wp2_with fail
        go_ret
        exact ⟨rfl, B10.out⟩
end Go.Proofs.YtlmdkcpiimpniaaDoor

/- ReplyCanons: the walk. -/
import Derived.Test.YtlmdkcpiimpniaaDoorWe
import Derived.Test.YtlmdkcpiimpniaaDoorXb
namespace Go.Proofs.YtlmdkcpiimpniaaDoor
open Go.ChangeShapes Go.WideShapes Go.ChangeAt Go.RowKit
set_option linter.unusedVariables false
set_option linter.unusedSimpArgs false

theorem ints_u8 {w : World} {a : Option Addr} {n c : Nat} {zs : List Int} (h : IsInts .u8 w a n c zs) : ∃ b : List Nat, IsK .u8 w a n c (ns b) ∧ By b := by
  have hw : ∀ x ∈ zs, 0 ≤ x ∧ x < 256 := fun x hx => by
    have := h.wf x hx
    simp only [Lit.wf, Bool.and_eq_true, decide_eq_true_eq] at this
    rw [show IntKind.u8.min = 0 from rfl, show IntKind.u8.max = 255 from rfl] at this
    omega
  have hz : zs = ns (zs.map Int.toNat) := by
    unfold ns
    rw [List.map_map]
    conv => lhs; rw [← List.map_id zs]
    refine List.map_congr_left (fun x hx => ?_)
    have := hw x hx
    show x = ((x.toNat : Nat) : Int)
    omega
  refine ⟨zs.map Int.toNat, by rw [← hz]; exact h.sl, fun x hx => ?_⟩
  obtain ⟨y, hy, rfl⟩ := List.mem_map.1 hx
  have := hw y hy
  omega
theorem str_cases (x : ByteArray) : ∃ s : Str, x = ⟨s.toArray⟩ := ⟨x.data.toList, ba_of x⟩
theorem ges_none {w w' : World} {R : Option (Rp × Nat)} {e : Ending} (hR : R = none) (h : GeS w R e w') : ∃ a c a' c', e = .returned (.tuple #[.agg #[.int .i64 0, .int .i64 0, .bool false, .slice a 0 c, .slice a' 0 c'], .int .i64 0, .int .i64 15]) ∧ Below w.heap.size w w' := by
  subst hR
  obtain ⟨a, c, a', c', rfl, _, hb, _⟩ := h
  exact ⟨a, c, a', c', rfl, hb⟩
theorem ges_some {w w' : World} {R : Option (Rp × Nat)} {r : Rp} {m : Nat} {e : Ending} (hR : R = some (r, m)) (h : GeS w R e w') : ∃ a c a' c', e = .returned (.tuple #[.agg #[.int .i64 r.op, .int .i64 r.er, .bool r.yes, .slice a r.ids.length c, .slice a' r.nums.length c'], .int .i64 (m : Int), .int .i64 0]) ∧ LsR w' r a c a' c' ∧ Below w.heap.size w w' := by
  subst hR
  obtain ⟨a, c, a', c', rfl, hl, hb, _⟩ := h
  exact ⟨a, c, a', c', rfl, hl, hb⟩
theorem pas_none {w w' : World} {R : Option Rp} {e : Ending} (hR : R = none) (h : PaS w R e w') : ∃ a c a' c', e = .returned (.tuple #[.agg #[.int .i64 0, .int .i64 0, .bool false, .slice a 0 c, .slice a' 0 c'], .int .i64 15]) ∧ Below w.heap.size w w' := by
  subst hR
  obtain ⟨a, c, a', c', rfl, _, hb⟩ := h
  exact ⟨a, c, a', c', rfl, hb⟩
theorem pas_some {w w' : World} {R : Option Rp} {r : Rp} {e : Ending} (hR : R = some r) (h : PaS w R e w') : ∃ a c a' c', e = .returned (.tuple #[.agg #[.int .i64 r.op, .int .i64 r.er, .bool r.yes, .slice a r.ids.length c, .slice a' r.nums.length c'], .int .i64 0]) ∧ LsR w' r a c a' c' ∧ Below w.heap.size w w' := by
  subst hR
  obtain ⟨a, c, a', c', rfl, hl, hb⟩ := h
  exact ⟨a, c, a', c', rfl, hl, hb⟩
theorem put_call {w : World} (hE : Env w) {r : Rp} {a a' : Option Addr} {c c' : Nat} (h : LsR w r a c a' c') (hI : RpIn r) (hk : chk r = 0) :
    Calls Tryd.prog 12 #[.agg #[.int .i64 r.op, .int .i64 r.er, .bool r.yes, .slice a r.ids.length c, .slice a' r.nums.length c']] w fun e w' => ∃ p n q, e = .returned (.tuple #[.slice p n q, .int .i64 0]) ∧ IsK .u8 w' p n q (ns (putR r)) ∧ Below w.heap.size w w' := by
  obtain ⟨_, h1, h2⟩ := chk_fits hk
  refine (pput hE h hI (by omega) (by omega)).mono ?_
  rintro e w' ⟨p, n, q, rfl, hs, hb⟩
  rw [hk]
  unfold putZ at hs
  rw [if_pos hk] at hs
  exact ⟨p, n, q, rfl, hs, hb⟩
theorem line_call {w : World} (hE : Env w) {r : Rp} {a a' : Option Addr} {c c' : Nat} (h : LsR w r a c a' c') (hI : RpIn r) (hk : chk r = 0) :
    Calls Tryd.prog 13 #[.agg #[.int .i64 r.op, .int .i64 r.er, .bool r.yes, .slice a r.ids.length c, .slice a' r.nums.length c']] w fun e w' => e = .returned (.tuple #[.string ⟨(lineS r).toArray⟩, .int .i64 0]) ∧ Below w.heap.size w w' := by
  obtain ⟨_, h1, h2⟩ := chk_fits hk
  refine (pline hE h hI (by omega) (by omega)).mono ?_
  rintro e w' ⟨he, hb⟩
  refine ⟨?_, hb⟩
  rw [he]
  unfold lineZ
  rw [if_pos hk, hk]
set_option maxRecDepth 100000 in
set_option maxHeartbeats 8000000 in
theorem canons_walk (a : Option Addr) (n c : Nat) (zs : List Int) (s0 : ByteArray) (w : World) (hE : Env w) (h : IsInts .u8 w a n c zs) :
    Calls Tryd.prog 8 #[.slice a n c, .string s0] w fun e w' => e = .returned (.bool true) ∧ Below w.heap.size w w' := by
  obtain ⟨s, rfl⟩ := str_cases s0
  obtain ⟨b, hS, hb⟩ := ints_u8 h
  have hn := hS.u8; have hnc := hS.hle; have hmx := hS.hmax
  unfold maxLen at hmx
  have PW := Lib.hid (fun W (hb : Below w.heap.size w W) => pworks (hE.below hb))
  by_cases hl : 3000 < n
  · have e1 : decide ((3000 : Int) < (n : Int)) = true := by simp; omega
    have e2 : decide (3000 < n) = true := by simp; omega
    clear h hE hS hb hn
    go_enter Tryd.func8, Tryd.ntmps8
    go_wp2_with fail
    refine (PW.out _ (Below.refl _ _)).mono ?_; rintro e w1 ⟨rfl, hb⟩
    have B := Lib.hid hb
    clear hb
    go_wp2_with fail
    go_ret
    exact ⟨rfl, B.out⟩
  · have e1 : decide ((3000 : Int) < (n : Int)) = false := by simp; omega
    have e2 : decide (3000 < n) = false := by simp; omega
    by_cases hls : 1000 < s.length
    · have e3 : decide ((1000 : Int) < (s.length : Int)) = true := by simp; omega
      have e4 : decide (1000 < s.length) = true := by simp; omega
      clear h hE hS hb hn
      go_enter Tryd.func8, Tryd.ntmps8
      go_wp2_with fail
      refine (PW.out _ (Below.refl _ _)).mono ?_; rintro e w1 ⟨rfl, hb⟩
      have B := Lib.hid hb
      clear hb
      go_wp2_with fail
      go_ret
      exact ⟨rfl, B.out⟩
    · have e3 : decide ((1000 : Int) < (s.length : Int)) = false := by simp; omega
      have e4 : decide (1000 < s.length) = false := by simp; omega
      cases hp : parseR s with
      | none =>
        have HE := Lib.hid hE
        have P15 : Hid (∀ W, Below w.heap.size w W → Calls Tryd.prog 15 #[.string ⟨s.toArray⟩] W fun e w' => ∃ a c a' c', e = .returned (.tuple #[.agg #[.int .i64 0, .int .i64 0, .bool false, .slice a 0 c, .slice a' 0 c'], .int .i64 15]) ∧ Below W.heap.size W w') := Lib.hid (fun W hb => (pparse (HE.out.below hb) (s := s) (by omega)).mono (fun e w' h => pas_none hp h))
        cases hg : getR b with
        | none =>
          have P16 : Hid (Calls Tryd.prog 16 #[.slice a n c] w fun e w' => ∃ a c a' c', e = .returned (.tuple #[.agg #[.int .i64 0, .int .i64 0, .bool false, .slice a 0 c, .slice a' 0 c'], .int .i64 0, .int .i64 15]) ∧ Below w.heap.size w w') := Lib.hid ((pget hE hS hb (by omega)).mono (fun e w' h => ges_none hg h))
          clear h hS hn hE hb hg hp HE
          go_enter Tryd.func8, Tryd.ntmps8
          go_wp2_with fail
          refine (P16.out).mono ?_; rintro e w1 ⟨ya, yc, yb, yd, rfl, hb1⟩
          have B1 := Lib.hid hb1
          have A2 := Lib.hid (Below.alloc (Below.refl w1.heap.size w1) (Nat.le_refl _) (.cells #[.int .i64 0, .int .i64 0, .bool false, .slice ya 0 yc, .slice yb 0 yd] 27))
          have B2 := Lib.hid (B1.out.trans (A2.out.mono B1.out.size))
          clear hb1 P16
          go_wp2_with fail
          refine (P15.out _ B2.out).mono ?_; rintro e w5 ⟨xa, xc, xb, xd, rfl, hb5⟩
          have B5 := Lib.hid (B2.out.trans (hb5.mono B2.out.size))
          have A5 := Lib.hid (Below.alloc (Below.refl w5.heap.size w5) (Nat.le_refl _) (.cells #[.int .i64 0, .int .i64 0, .bool false, .slice xa 0 xc, .slice xb 0 xd] 27))
          have B6 := Lib.hid (B5.out.trans (A5.out.mono B5.out.size))
          clear hb5
          go_wp2_with fail
          refine (PW.out _ B6.out).mono ?_; rintro e wz ⟨rfl, hbz⟩
          have BZ := Lib.hid (B6.out.trans (hbz.mono B6.out.size))
          clear hbz
          go_wp2_with fail
          go_ret
          exact ⟨rfl, BZ.out⟩
        | some p =>
          obtain ⟨r, m⟩ := p
          obtain ⟨g1, g2, g3, g4, g5, g6⟩ := get_inv hb hg
          have P16 : Hid (Calls Tryd.prog 16 #[.slice a n c] w fun e w' => ∃ a c a' c', e = .returned (.tuple #[.agg #[.int .i64 r.op, .int .i64 r.er, .bool r.yes, .slice a r.ids.length c, .slice a' r.nums.length c'], .int .i64 (m : Int), .int .i64 0]) ∧ LsR w' r a c a' c' ∧ Below w.heap.size w w') := Lib.hid ((pget hE hS hb (by omega)).mono (fun e w' h => ges_some hg h))
          have P12 := Lib.hid (fun W a c a' c' (hb : Below w.heap.size w W) (hl : LsR W r a c a' c') => put_call (HE.out.below hb) hl g2 g1)
          have hmn : m ≤ n := by rw [hn]; exact g6
          have hs1 := run_to Tryd.underlying31 size5x (a := a) (len := n) (cap := c) (h := (m : Int)) (k := m) rfl (by omega)
          have hSp := hS.part (l := 0) (r := m) (m := c) (by omega) hmn (by omega) (Nat.le_refl _)
          have hfr : (ns b).take m = ns (putR r) := by
            have : b.take m = putR r := by
              conv => lhs; rw [g4]
              rw [g3, List.take_left]
            rw [← this]; simp [ns, List.map_take]
          rw [List.drop_zero, hfr, Nat.sub_zero, Nat.sub_zero] at hSp
          have SP := Lib.hid hSp
          have HB := Lib.hid (put_byte g1)
          have CV : Hid (∀ W p n q, IsK .u8 W p n q (ns (putR r)) → (convert 31 9 (.slice p n q)).run Tryd.prog W = .ok (.string ⟨(strB (putR r)).toArray⟩) W) := Lib.hid (fun W p n q h => conv_sl h HB.out)
          have f1 : decide ((m : Int) < 1) = false := by simp; omega
          have f2 : decide (m < 1) = false := by simp; omega
          have f3 : decide ((n : Int) < (m : Int)) = false := by simp; omega
          have f4 : decide (n < m) = false := by simp; omega
          generalize part a 0 c 1 = pa at *
          clear h hS hn hE hb hg hp HE g1 g2 g3 g4 g5 g6 hmn hSp hfr
          generalize strB (putR r) = SB at *
          go_enter Tryd.func8, Tryd.ntmps8
          go_wp2_with fail
          refine (P16.out).mono ?_; rintro e w1 ⟨ya, yc, yb, yd, rfl, hl1, hb1⟩
          have B1 := Lib.hid hb1
          have A2 := Lib.hid (Below.alloc (Below.refl w1.heap.size w1) (Nat.le_refl _) (.cells #[.int .i64 r.op, .int .i64 r.er, .bool r.yes, .slice ya r.ids.length yc, .slice yb r.nums.length yd] 27))
          have B2 := Lib.hid (B1.out.trans (A2.out.mono B1.out.size))
          have Q12 := Lib.hid (P12.out _ _ _ _ _ B2.out (hl1.keep A2.out))
          clear hb1 hl1 P16 P12
          go_wp2_with fail
          refine (Q12.out).mono ?_; rintro e w3 ⟨pp, pn, pq, rfl, hk3, hb3⟩
          have B3 := Lib.hid (B2.out.trans (hb3.mono B2.out.size))
          have cv1 := fun N => CV.out _ _ _ _ (hk3.below (below_dn (Below.refl w3.heap.size w3) N))
          have cv2 := fun N => CV.out _ _ _ _ (SP.out.below (below_dn B3.out N))
          clear hb3 hk3 Q12 CV SP
          go_wp2_with fail
          go_quiet (fail)
          clear cv1 cv2 hs1 f1 f2 f3 f4
          have PN : Hid (∀ N, Calls Tryd.prog 15 #[.string ⟨s.toArray⟩] (w3.drewN N) fun e w' => ∃ a c a' c', e = .returned (.tuple #[.agg #[.int .i64 0, .int .i64 0, .bool false, .slice a 0 c, .slice a' 0 c'], .int .i64 15]) ∧ Below w3.heap.size w3 w') := Lib.hid (fun N => (P15.out _ (below_dn B3.out N)).mono (fun e w' h => by obtain ⟨a, c, a', c', he, hb'⟩ := h; exact ⟨a, c, a', c', he, (below_dn (Below.refl _ _) N).trans hb'⟩))
          go_wp2_with fail
          refine (PN.out _).mono ?_; rintro e w5 ⟨xa, xc, xb, xd, rfl, hb5⟩
          have B5 := Lib.hid (B3.out.trans (hb5.mono B3.out.size))
          have A5 := Lib.hid (Below.alloc (Below.refl w5.heap.size w5) (Nat.le_refl _) (.cells #[.int .i64 0, .int .i64 0, .bool false, .slice xa 0 xc, .slice xb 0 xd] 27))
          have B6 := Lib.hid (B5.out.trans (A5.out.mono B5.out.size))
          clear hb5
          go_wp2_with fail
          refine (PW.out _ B6.out).mono ?_; rintro e wz ⟨rfl, hbz⟩
          have BZ := Lib.hid (B6.out.trans (hbz.mono B6.out.size))
          clear hbz
          go_wp2_with fail
          go_ret
          exact ⟨rfl, BZ.out⟩
      | some q =>
        have HE := Lib.hid hE
        have P15 : Hid (∀ W, Below w.heap.size w W → Calls Tryd.prog 15 #[.string ⟨s.toArray⟩] W fun e w' => ∃ a c a' c', e = .returned (.tuple #[.agg #[.int .i64 q.op, .int .i64 q.er, .bool q.yes, .slice a q.ids.length c, .slice a' q.nums.length c'], .int .i64 0]) ∧ LsR w' q a c a' c' ∧ Below W.heap.size W w') := Lib.hid (fun W hb => (pparse (HE.out.below hb) (s := s) (by omega)).mono (fun e w' h => pas_some hp h))
        have P13 : Hid (∀ W a c a' c', Below w.heap.size w W → LsR W q a c a' c' → Calls Tryd.prog 13 #[.agg #[.int .i64 q.op, .int .i64 q.er, .bool q.yes, .slice a q.ids.length c, .slice a' q.nums.length c']] W fun e w' => e = .returned (.tuple #[.string ⟨s.toArray⟩, .int .i64 0]) ∧ Below W.heap.size W w') := Lib.hid (fun W a c a' c' hb hl => by
          have := line_call (HE.out.below hb) hl (parseR_in hp) (parseR_iff.1 hp).2
          rwa [lineS_parse hp] at this)
        cases hg : getR b with
        | none =>
          have P16 : Hid (Calls Tryd.prog 16 #[.slice a n c] w fun e w' => ∃ a c a' c', e = .returned (.tuple #[.agg #[.int .i64 0, .int .i64 0, .bool false, .slice a 0 c, .slice a' 0 c'], .int .i64 0, .int .i64 15]) ∧ Below w.heap.size w w') := Lib.hid ((pget hE hS hb (by omega)).mono (fun e w' h => ges_none hg h))
          clear h hS hn hE hb hg hp HE
          go_enter Tryd.func8, Tryd.ntmps8
          go_wp2_with fail
          refine (P16.out).mono ?_; rintro e w1 ⟨ya, yc, yb, yd, rfl, hb1⟩
          have B1 := Lib.hid hb1
          have A2 := Lib.hid (Below.alloc (Below.refl w1.heap.size w1) (Nat.le_refl _) (.cells #[.int .i64 0, .int .i64 0, .bool false, .slice ya 0 yc, .slice yb 0 yd] 27))
          have B2 := Lib.hid (B1.out.trans (A2.out.mono B1.out.size))
          clear hb1 P16
          go_wp2_with fail
          refine (P15.out _ B2.out).mono ?_; rintro e w5 ⟨xa, xc, xb, xd, rfl, hl5, hb5⟩
          have B5 := Lib.hid (B2.out.trans (hb5.mono B2.out.size))
          have A5 := Lib.hid (Below.alloc (Below.refl w5.heap.size w5) (Nat.le_refl _) (.cells #[.int .i64 q.op, .int .i64 q.er, .bool q.yes, .slice xa q.ids.length xc, .slice xb q.nums.length xd] 27))
          have B6 := Lib.hid (B5.out.trans (A5.out.mono B5.out.size))
          have Q13 := Lib.hid (P13.out _ _ _ _ _ B6.out (hl5.keep A5.out))
          clear hb5 hl5
          go_wp2_with fail
          refine (Q13.out).mono ?_; rintro e w7 ⟨rfl, hb7⟩
          have B7 := Lib.hid (B6.out.trans (hb7.mono B6.out.size))
          clear hb7 Q13
          go_wp2_with fail
          refine (PW.out _ B7.out).mono ?_; rintro e wz ⟨rfl, hbz⟩
          have BZ := Lib.hid (B7.out.trans (hbz.mono B7.out.size))
          clear hbz
          go_wp2_with fail
          go_ret
          exact ⟨rfl, BZ.out⟩
        | some p =>
          obtain ⟨r, m⟩ := p
          obtain ⟨g1, g2, g3, g4, g5, g6⟩ := get_inv hb hg
          have P16 : Hid (Calls Tryd.prog 16 #[.slice a n c] w fun e w' => ∃ a c a' c', e = .returned (.tuple #[.agg #[.int .i64 r.op, .int .i64 r.er, .bool r.yes, .slice a r.ids.length c, .slice a' r.nums.length c'], .int .i64 (m : Int), .int .i64 0]) ∧ LsR w' r a c a' c' ∧ Below w.heap.size w w') := Lib.hid ((pget hE hS hb (by omega)).mono (fun e w' h => ges_some hg h))
          have P12 := Lib.hid (fun W a c a' c' (hb : Below w.heap.size w W) (hl : LsR W r a c a' c') => put_call (HE.out.below hb) hl g2 g1)
          have hmn : m ≤ n := by rw [hn]; exact g6
          have hs1 := run_to Tryd.underlying31 size5x (a := a) (len := n) (cap := c) (h := (m : Int)) (k := m) rfl (by omega)
          have hSp := hS.part (l := 0) (r := m) (m := c) (by omega) hmn (by omega) (Nat.le_refl _)
          have hfr : (ns b).take m = ns (putR r) := by
            have : b.take m = putR r := by
              conv => lhs; rw [g4]
              rw [g3, List.take_left]
            rw [← this]; simp [ns, List.map_take]
          rw [List.drop_zero, hfr, Nat.sub_zero, Nat.sub_zero] at hSp
          have SP := Lib.hid hSp
          have HB := Lib.hid (put_byte g1)
          have CV : Hid (∀ W p n q, IsK .u8 W p n q (ns (putR r)) → (convert 31 9 (.slice p n q)).run Tryd.prog W = .ok (.string ⟨(strB (putR r)).toArray⟩) W) := Lib.hid (fun W p n q h => conv_sl h HB.out)
          have f1 : decide ((m : Int) < 1) = false := by simp; omega
          have f2 : decide (m < 1) = false := by simp; omega
          have f3 : decide ((n : Int) < (m : Int)) = false := by simp; omega
          have f4 : decide (n < m) = false := by simp; omega
          generalize part a 0 c 1 = pa at *
          clear h hS hn hE hb hg hp HE g1 g2 g3 g4 g5 g6 hmn hSp hfr
          generalize strB (putR r) = SB at *
          go_enter Tryd.func8, Tryd.ntmps8
          go_wp2_with fail
          refine (P16.out).mono ?_; rintro e w1 ⟨ya, yc, yb, yd, rfl, hl1, hb1⟩
          have B1 := Lib.hid hb1
          have A2 := Lib.hid (Below.alloc (Below.refl w1.heap.size w1) (Nat.le_refl _) (.cells #[.int .i64 r.op, .int .i64 r.er, .bool r.yes, .slice ya r.ids.length yc, .slice yb r.nums.length yd] 27))
          have B2 := Lib.hid (B1.out.trans (A2.out.mono B1.out.size))
          have Q12 := Lib.hid (P12.out _ _ _ _ _ B2.out (hl1.keep A2.out))
          clear hb1 hl1 P16 P12
          go_wp2_with fail
          refine (Q12.out).mono ?_; rintro e w3 ⟨pp, pn, pq, rfl, hk3, hb3⟩
          have B3 := Lib.hid (B2.out.trans (hb3.mono B2.out.size))
          have cv1 := fun N => CV.out _ _ _ _ (hk3.below (below_dn (Below.refl w3.heap.size w3) N))
          have cv2 := fun N => CV.out _ _ _ _ (SP.out.below (below_dn B3.out N))
          clear hb3 hk3 Q12 CV SP
          go_wp2_with fail
          go_quiet (fail)
          clear cv1 cv2 hs1 f1 f2 f3 f4
          have PN : Hid (∀ N, Calls Tryd.prog 15 #[.string ⟨s.toArray⟩] (w3.drewN N) fun e w' => ∃ a c a' c', e = .returned (.tuple #[.agg #[.int .i64 q.op, .int .i64 q.er, .bool q.yes, .slice a q.ids.length c, .slice a' q.nums.length c'], .int .i64 0]) ∧ LsR w' q a c a' c' ∧ Below w3.heap.size w3 w') := Lib.hid (fun N => (P15.out _ (below_dn B3.out N)).mono (fun e w' h => by obtain ⟨a, c, a', c', he, hl, hb'⟩ := h; exact ⟨a, c, a', c', he, hl, (below_dn (Below.refl _ _) N).trans hb'⟩))
          go_wp2_with fail
          refine (PN.out _).mono ?_; rintro e w5 ⟨xa, xc, xb, xd, rfl, hl5, hb5⟩
          have B5 := Lib.hid (B3.out.trans (hb5.mono B3.out.size))
          have A5 := Lib.hid (Below.alloc (Below.refl w5.heap.size w5) (Nat.le_refl _) (.cells #[.int .i64 q.op, .int .i64 q.er, .bool q.yes, .slice xa q.ids.length xc, .slice xb q.nums.length xd] 27))
          have B6 := Lib.hid (B5.out.trans (A5.out.mono B5.out.size))
          have Q13 := Lib.hid (P13.out _ _ _ _ _ B6.out (hl5.keep A5.out))
          clear hb5 hl5
          go_wp2_with fail
          refine (Q13.out).mono ?_; rintro e w7 ⟨rfl, hb7⟩
          have B7 := Lib.hid (B6.out.trans (hb7.mono B6.out.size))
          clear hb7 Q13
          go_wp2_with fail
          refine (PW.out _ B7.out).mono ?_; rintro e wz ⟨rfl, hbz⟩
          have BZ := Lib.hid (B7.out.trans (hbz.mono B7.out.size))
          clear hbz
          go_wp2_with fail
          go_ret
          exact ⟨rfl, BZ.out⟩
end Go.Proofs.YtlmdkcpiimpniaaDoor

/- slices.Equal at both instances; Same of the program. -/
import Derived.Test.YtlmdkcpiimpniaaDoorRb
import Derived.Test.YtlmdkcpiimpniaaDoorGb
import Derived.Deep.QuietTactic
namespace Go.Proofs.YtlmdkcpiimpniaaDoor
open Go.ChangeShapes Go.WideShapes Go.ChangeAt Go.RowKit
set_option linter.unusedVariables false
set_option linter.unusedSimpArgs false

def EqRel (w : World) (len : Nat) (zs ys : List Int) (vi : Value) (wr : World) : Prop := ∃ k : Nat, k ≤ len ∧ vi = .int .i64 k ∧ zs.take k = ys.take k ∧ Below w.heap.size w wr
set_option maxRecDepth 100000 in
set_option maxHeartbeats 2000000 in
theorem eq_u64 {w : World} {aa ab : Option Addr} {la lb ca cb : Nat} {zs ys : List Int} (ha : IsK .u64 w aa la ca zs) (hb : IsK .u64 w ab lb cb ys) :
    Calls Tryd.prog 45 #[.slice aa la ca, .slice ab lb cb] w fun e w' => e = .returned (.bool (decide (zs = ys))) ∧ Below w.heap.size w w' := by
  have hal := ha.hlen; have hac := ha.hle; have ham := ha.hmax; have hbl := hb.hlen; have hbc := hb.hle; have hbm := hb.hmax
  unfold maxLen at ham hbm
  have HA := Lib.hid ha; have HB := Lib.hid hb; have HAL := Lib.hid hal; have HBL := Lib.hid hbl
  obtain ⟨R, hR⟩ : ∃ R, R = decide (zs = ys) := ⟨_, rfl⟩
  rw [← hR]
  have HR := Lib.hid hR
  clear hR
  by_cases hne : la = lb
  · subst hne
    have HD : Hid (∀ k, zs.take k = ys.take k → la ≤ k → R = true) := Lib.hid (fun k h hk => by
      rw [HR.out]
      rw [List.take_of_length_le (by omega), List.take_of_length_le (by omega)] at h
      simp [h])
    have HN : Hid (∀ k, zs.getD k 0 ≠ ys.getD k 0 → R = false) := Lib.hid (fun k h => by rw [HR.out]; simp; intro e; rw [e] at h; exact h rfl)
    clear ha hb hal hbl
    go_enter Tryd.func45, Tryd.ntmps45
    go_wp2_with fail
    go_loopw [5, 13] (fun _ vi wr => EqRel w la zs ys vi wr) (fun _ vi _ => la - (intOf vi).toNat)
    case atStart => exact ⟨0, Nat.zero_le _, rfl, by simp, Below.refl _ _⟩
    case round =>
      obtain ⟨k, hk, rfl, htk, hbl⟩ := hrel
      have BL := Lib.hid hbl; have TK := Lib.hid htk; clear hbl htk
      by_cases hlt : k < la
      · have hkl : k < zs.length := by have := HAL.out; omega
        have hkl2 : k < ys.length := by have := HBL.out; omega
        obtain ⟨b, off, rfl, _, _⟩ := HA.out.at_ (by intro h; rw [h, List.length_nil] at hkl; omega)
        obtain ⟨b', off', rfl, _, _⟩ := HB.out.at_ (by intro h; rw [h, List.length_nil] at hkl2; omega)
        have x0 := (HA.out.below BL.out).cellK (i := k) hkl
        have y0 := (HB.out.below BL.out).cellK (i := k) hkl2
        by_cases he : zs.getD k 0 = ys.getD k 0
        · have TK2 : Hid (zs.take (k + 1) = ys.take (k + 1)) := Lib.hid (by
            rw [List.take_succ_eq_append_getElem hkl, List.take_succ_eq_append_getElem hkl2, TK.out]
            congr 2
            simpa [hkl, hkl2] using he)
          rw [he] at x0
          clear he
          generalize ys.getD k 0 = x at *
          go_wp2_with fail
          go_quiet (fail)
          go_wp2_with fail
          go_roundw
          case rel => exact ⟨k + 1, by omega, by go_num, TK2.out, below_drewN BL.out _⟩
          case measure => simp [intOf]; omega
        · have HF := Lib.hid (HN.out k he)
          generalize zs.getD k 0 = x at *
          generalize ys.getD k 0 = y at *
          have hxy : (x == y) = false := by simpa using he
          have hxy2 : (x != y) = true := by simpa using he
          clear HN HD HR he
          go_wp2_with fail
          go_quiet (fail)
          go_wp2_with fail
          go_ret
          exact ⟨ret_bool HF.out.symm, below_drewN BL.out _⟩
      · have HF := Lib.hid (HD.out k TK.out (by omega))
        clear HD HN HR
        go_wp2_with fail
        go_ret
        exact ⟨ret_bool HF.out.symm, BL.out⟩
  · have HF : Hid (R = false) := Lib.hid (by rw [HR.out]; simp; intro e; rw [e] at hal; omega)
    have hne2 : ((la : Int) == (lb : Int)) = false := by simp; omega
    have hne3 : (la == lb) = false := by simp; omega
    clear ha hb hal hbl HR
    go_enter Tryd.func45, Tryd.ntmps45
    go_wp2_with fail
    go_ret
    exact ⟨ret_bool HF.out.symm, Below.refl _ _⟩
set_option maxRecDepth 100000 in
set_option maxHeartbeats 2000000 in
theorem eq_i64 {w : World} {aa ab : Option Addr} {la lb ca cb : Nat} {zs ys : List Int} (ha : IsK .i64 w aa la ca zs) (hb : IsK .i64 w ab lb cb ys) :
    Calls Tryd.prog 46 #[.slice aa la ca, .slice ab lb cb] w fun e w' => e = .returned (.bool (decide (zs = ys))) ∧ Below w.heap.size w w' := by
  have hal := ha.hlen; have hac := ha.hle; have ham := ha.hmax; have hbl := hb.hlen; have hbc := hb.hle; have hbm := hb.hmax
  unfold maxLen at ham hbm
  have HA := Lib.hid ha; have HB := Lib.hid hb; have HAL := Lib.hid hal; have HBL := Lib.hid hbl
  obtain ⟨R, hR⟩ : ∃ R, R = decide (zs = ys) := ⟨_, rfl⟩
  rw [← hR]
  have HR := Lib.hid hR
  clear hR
  by_cases hne : la = lb
  · subst hne
    have HD : Hid (∀ k, zs.take k = ys.take k → la ≤ k → R = true) := Lib.hid (fun k h hk => by
      rw [HR.out]
      rw [List.take_of_length_le (by omega), List.take_of_length_le (by omega)] at h
      simp [h])
    have HN : Hid (∀ k, zs.getD k 0 ≠ ys.getD k 0 → R = false) := Lib.hid (fun k h => by rw [HR.out]; simp; intro e; rw [e] at h; exact h rfl)
    clear ha hb hal hbl
    go_enter Tryd.func46, Tryd.ntmps46
    go_wp2_with fail
    go_loopw [5, 13] (fun _ vi wr => EqRel w la zs ys vi wr) (fun _ vi _ => la - (intOf vi).toNat)
    case atStart => exact ⟨0, Nat.zero_le _, rfl, by simp, Below.refl _ _⟩
    case round =>
      obtain ⟨k, hk, rfl, htk, hbl⟩ := hrel
      have BL := Lib.hid hbl; have TK := Lib.hid htk; clear hbl htk
      by_cases hlt : k < la
      · have hkl : k < zs.length := by have := HAL.out; omega
        have hkl2 : k < ys.length := by have := HBL.out; omega
        obtain ⟨b, off, rfl, _, _⟩ := HA.out.at_ (by intro h; rw [h, List.length_nil] at hkl; omega)
        obtain ⟨b', off', rfl, _, _⟩ := HB.out.at_ (by intro h; rw [h, List.length_nil] at hkl2; omega)
        have x0 := (HA.out.below BL.out).cellK (i := k) hkl
        have y0 := (HB.out.below BL.out).cellK (i := k) hkl2
        by_cases he : zs.getD k 0 = ys.getD k 0
        · have TK2 : Hid (zs.take (k + 1) = ys.take (k + 1)) := Lib.hid (by
            rw [List.take_succ_eq_append_getElem hkl, List.take_succ_eq_append_getElem hkl2, TK.out]
            congr 2
            simpa [hkl, hkl2] using he)
          rw [he] at x0
          clear he
          generalize ys.getD k 0 = x at *
          go_wp2_with fail
          go_quiet (fail)
          go_wp2_with fail
          go_roundw
          case rel => exact ⟨k + 1, by omega, by go_num, TK2.out, below_drewN BL.out _⟩
          case measure => simp [intOf]; omega
        · have HF := Lib.hid (HN.out k he)
          generalize zs.getD k 0 = x at *
          generalize ys.getD k 0 = y at *
          have hxy : (x == y) = false := by simpa using he
          have hxy2 : (x != y) = true := by simpa using he
          clear HN HD HR he
          go_wp2_with fail
          go_quiet (fail)
          go_wp2_with fail
          go_ret
          exact ⟨ret_bool HF.out.symm, below_drewN BL.out _⟩
      · have HF := Lib.hid (HD.out k TK.out (by omega))
        clear HD HN HR
        go_wp2_with fail
        go_ret
        exact ⟨ret_bool HF.out.symm, BL.out⟩
  · have HF : Hid (R = false) := Lib.hid (by rw [HR.out]; simp; intro e; rw [e] at hal; omega)
    have hne2 : ((la : Int) == (lb : Int)) = false := by simp; omega
    have hne3 : (la == lb) = false := by simp; omega
    clear ha hb hal hbl HR
    go_enter Tryd.func46, Tryd.ntmps46
    go_wp2_with fail
    go_ret
    exact ⟨ret_bool HF.out.symm, Below.refl _ _⟩
end Go.Proofs.YtlmdkcpiimpniaaDoor
/- Same of the program. -/
namespace Go.Proofs.YtlmdkcpiimpniaaDoor
open Go.ChangeShapes Go.WideShapes Go.ChangeAt Go.RowKit
set_option linter.unusedVariables false
set_option linter.unusedSimpArgs false

/-- A reply's lists. -/
structure LsR (w : World) (r : Rp) (a : Option Addr) (c : Nat) (a' : Option Addr) (c' : Nat) : Prop where
  i : IsK .u64 w a r.ids.length c (ns r.ids)
  n : IsK .i64 w a' r.nums.length c' r.nums
theorem LsR.keep {w w' : World} {r : Rp} {a : Option Addr} {c : Nat} {a' : Option Addr} {c' : Nat} (h : LsR w r a c a' c') (hb : Below w.heap.size w w') : LsR w' r a c a' c' := ⟨h.i.below hb, h.n.below hb⟩
def sameB (r q : Rp) : Bool := r.op == q.op && r.er == q.er && r.yes == q.yes && decide (r.ids = q.ids) && decide (r.nums = q.nums)
theorem sameB_iff (r q : Rp) : sameB r q = true ↔ r = q := by
  obtain ⟨a, b, c, d, e⟩ := r
  obtain ⟨a', b', c', d', e'⟩ := q
  simp [sameB]
  constructor
  · rintro ⟨⟨⟨⟨h1, h2⟩, h3⟩, h4⟩, h5⟩; exact ⟨h1, h2, h3, h4, h5⟩
  · rintro ⟨h1, h2, h3, h4, h5⟩; exact ⟨⟨⟨⟨h1, h2⟩, h3⟩, h4⟩, h5⟩
theorem sameB_refl (r : Rp) : sameB r r = true := (sameB_iff r r).2 rfl
theorem ns_inj {p q : List Nat} : ns p = ns q ↔ p = q := by
  constructor
  · intro h
    have h2 := congrArg (List.map Int.toNat) h
    unfold ns at h2
    rw [List.map_map, List.map_map] at h2
    have e : (Int.toNat ∘ fun n : Nat => (n : Int)) = id := by funext x; simp
    rwa [e, List.map_id, List.map_id] at h2
  · rintro rfl; rfl
set_option maxRecDepth 100000 in
set_option maxHeartbeats 4000000 in
theorem psame {w : World} {r q : Rp} {a b a' b' : Option Addr} {c d c' d' : Nat} (hr : LsR w r a c a' c') (hq : LsR w q b d b' d') :
    Calls Tryd.prog 18 #[.agg (rpV r a c a' c'), .agg (rpV q b d b' d')] w fun e w' => e = .returned (.bool (sameB r q)) ∧ Below w.heap.size w w' := by
  have hA : Hid (Below w.heap.size w ((w.alloc (.cells (rpV r a c a' c') 27)).alloc (.cells (rpV q b d b' d') 27))) := Lib.hid ((Below.alloc (Below.refl _ _) (Nat.le_refl _) _).alloc (by simp) _)
  have P1 := Lib.hid (eq_u64 (hr.keep hA.out).i (hq.keep hA.out).i)
  have P2 := Lib.hid (fun w' (hb : Below w.heap.size w w') => eq_i64 (hr.keep hb).n (hq.keep hb).n)
  have X := Lib.hid (block_old (block_new w (.cells (rpV r a c a' c') 27)) (.cells (rpV q b d b' d') 27))
  have Y : Hid (((w.alloc (.cells (rpV r a c a' c') 27)).alloc (.cells (rpV q b d b' d') 27)).heap[w.heap.size + 1]? = some (.cells (rpV q b d b' d') 27 (0, 0))) := Lib.hid (by
    have := block_new (w.alloc (.cells (rpV r a c a' c') 27)) (.cells (rpV q b d b' d') 27)
    rwa [show (w.alloc (.cells (rpV r a c a' c') 27)).heap.size = w.heap.size + 1 by simp] at this)
  have hs : Hid (sameB r q = (r.op == q.op && r.er == q.er && r.yes == q.yes && decide (ns r.ids = ns q.ids) && decide (r.nums = q.nums))) := Lib.hid (by unfold sameB; simp only [ns_inj])
  generalize sameB r q = R at *
  clear hr hq
  unfold rpV at *
  obtain ⟨op, er, yes, ids, nums⟩ := r
  obtain ⟨op', er', yes', ids', nums'⟩ := q
  simp only at *
  generalize decide (ns ids = ns ids') = b4 at *
  generalize decide (nums = nums') = b5 at *
  generalize ids.length = li at *
  generalize nums.length = ln at *
  generalize ids'.length = li' at *
  generalize nums'.length = ln' at *
  have key : ∀ b1 b2 : Bool, (op == op') = b1 → (er == er') = b2 → Calls Tryd.prog 18 #[.agg #[.int .i64 op, .int .i64 er, .bool yes, .slice a li c, .slice a' ln c'], .agg #[.int .i64 op', .int .i64 er', .bool yes', .slice b li' d, .slice b' ln' d']] w fun e w' => e = .returned (.bool R) ∧ Below w.heap.size w w' := by
    intro b1 b2 q1 q2
    have HR : Hid (R = (b1 && b2 && (yes == yes') && b4 && b5)) := Lib.hid (by rw [hs.out, q1, q2])
    clear hs
    cases b1
    · clear P1 P2 X Y
      go_enter Tryd.func18, Tryd.ntmps18
      go_wp2_with fail
      go_ret
      exact ⟨by rw [HR.out]; rfl, hA.out⟩
    · cases b2
      · clear P1 P2 X Y
        go_enter Tryd.func18, Tryd.ntmps18
        go_wp2_with fail
        go_ret
        exact ⟨by rw [HR.out]; rfl, hA.out⟩
      · by_cases hy : yes = yes'
        · subst hy
          have HR2 : Hid (R = (b4 && b5)) := Lib.hid (by rw [HR.out]; simp)
          clear HR
          cases yes
          all_goals
            cases b4
            · clear P2 X Y
              go_enter Tryd.func18, Tryd.ntmps18
              go_wp2_with fail
              refine (P1.out).mono ?_; rintro e w1 ⟨rfl, hb1⟩
              have B := Lib.hid (hA.out.trans (hb1.mono hA.out.size))
              clear hb1
              go_wp2_with fail
              go_ret
              exact ⟨by rw [HR2.out]; rfl, B.out⟩
            · go_enter Tryd.func18, Tryd.ntmps18
              go_wp2_with fail
              refine (P1.out).mono ?_; rintro e w1 ⟨rfl, hb1⟩
              have B := Lib.hid (hA.out.trans (hb1.mono hA.out.size))
              have X1 := (hb1.block _ (lt_of_block X.out)).trans X.out
              have Y1 := (hb1.block _ (lt_of_block Y.out)).trans Y.out
              have x4 : w1.cell? ⟨w.heap.size, 4, none⟩ = some (.slice a' ln c') := cell_of X1 4
              have y4 : w1.cell? ⟨w.heap.size + 1, 4, none⟩ = some (.slice b' ln' d') := cell_of Y1 4
              have P3 := Lib.hid (P2.out w1 B.out)
              clear hb1 X1 Y1 P2 P1
              go_wp2_with fail
              refine (P3.out).mono ?_; rintro e w2 ⟨rfl, hb2⟩
              have B2 := Lib.hid (B.out.trans (hb2.mono B.out.size))
              clear hb2
              go_wp2_with fail
              go_ret
              exact ⟨by rw [HR2.out]; rfl, B2.out⟩
        · have HR2 : Hid (R = false) := Lib.hid (by rw [HR.out]; simp [hy])
          clear P1 P2 X Y HR
          cases yes <;> cases yes'
          · exact absurd rfl hy
          · go_enter Tryd.func18, Tryd.ntmps18
            go_wp2_with fail
            go_ret
            exact ⟨by rw [HR2.out]; rfl, hA.out⟩
          · go_enter Tryd.func18, Tryd.ntmps18
            go_wp2_with fail
            go_ret
            exact ⟨by rw [HR2.out]; rfl, hA.out⟩
          · exact absurd rfl hy
  exact key (op == op') (er == er') rfl rfl
end Go.Proofs.YtlmdkcpiimpniaaDoor
/- Same of the document. -/
namespace Go.Proofs.YtlmdkcpiimpniaaDoor
open Go.ChangeShapes Go.WideShapes Go.ChangeAt Go.RowKit
set_option linter.unusedVariables false
set_option linter.unusedSimpArgs false

/-- Two replies that lie in boxes, in whatever world behind W. -/
def Box2 (W : World) (g : Nat) (li : Nat) (a : Option Addr) (c : Nat) (ln : Nat) (a' : Option Addr) (c' : Nat) : Prop := ∀ w', Below W.heap.size W w' → w'.cell? ⟨g, 3, none⟩ = some (.slice a li c) ∧ w'.cell? ⟨g, 4, none⟩ = some (.slice a' ln c')
theorem box2_of {W : World} {g : Nat} {op er : Int} {yes : Bool} {li : Nat} {a : Option Addr} {c : Nat} {ln : Nat} {a' : Option Addr} {c' : Nat} (h : W.heap[g]? = some (.cells #[.int .i64 op, .int .i64 er, .bool yes, .slice a li c, .slice a' ln c'] 27 (0, 0))) : Box2 W g li a c ln a' c' := fun w' hb => by
  have h2 := (hb.block _ (lt_of_block h)).trans h
  exact ⟨cell_of h2 3, cell_of h2 4⟩
def SmRel (W : World) (len : Nat) (zs ys : List Int) (vi : Value) (wr : World) : Prop := ∃ k : Nat, k ≤ len ∧ vi = .int .i64 k ∧ zs.take k = ys.take k ∧ Below W.heap.size W wr
set_option maxRecDepth 100000 in
set_option maxHeartbeats 8000000 in
theorem rsame {w : World} {r q : Rp} {a b a' b' : Option Addr} {c d c' d' : Nat} (hr : LsR w r a c a' c') (hq : LsR w q b d b' d') :
    Calls Tryd.prog 25 #[.agg (rpV r a c a' c'), .agg (rpV q b d b' d')] w fun e w' => e = .returned (.bool (sameB r q)) ∧ Below w.heap.size w w' := by
  obtain ⟨W, hW⟩ : ∃ W, W = (w.alloc (.cells (rpV r a c a' c') 27)).alloc (.cells (rpV q b d b' d') 27) := ⟨_, rfl⟩
  have hA : Hid (Below w.heap.size w W) := Lib.hid (by rw [hW]; exact (Below.alloc (Below.refl _ _) (Nat.le_refl _) _).alloc (by simp) _)
  have X := Lib.hid (block_old (block_new w (.cells (rpV r a c a' c') 27)) (.cells (rpV q b d b' d') 27))
  have Y : Hid (((w.alloc (.cells (rpV r a c a' c') 27)).alloc (.cells (rpV q b d b' d') 27)).heap[w.heap.size + 1]? = some (.cells (rpV q b d b' d') 27 (0, 0))) := Lib.hid (by
    have := block_new (w.alloc (.cells (rpV r a c a' c') 27)) (.cells (rpV q b d b' d') 27)
    rwa [show (w.alloc (.cells (rpV r a c a' c') 27)).heap.size = w.heap.size + 1 by simp] at this)
  rw [← hW] at X Y
  have H1 := Lib.hid (hr.keep hA.out).i
  have H2 := Lib.hid (hr.keep hA.out).n
  have K1 := Lib.hid (hq.keep hA.out).i
  have K2 := Lib.hid (hq.keep hA.out).n
  have hs : Hid (sameB r q = (r.op == q.op && r.er == q.er && r.yes == q.yes && decide (ns r.ids = ns q.ids) && decide (r.nums = q.nums))) := Lib.hid (by unfold sameB; simp only [ns_inj])
  have m1 := hr.i.hle; have m2 := hr.i.hmax; have m3 := hr.n.hle; have m4 := hr.n.hmax
  have m5 := hq.i.hle; have m6 := hq.i.hmax; have m7 := hq.n.hle; have m8 := hq.n.hmax
  unfold maxLen at m2 m4 m6 m8
  generalize sameB r q = R at *
  have HW := Lib.hid hW
  clear hr hq hW
  unfold rpV at *
  obtain ⟨op, er, yes, ids, nums⟩ := r
  obtain ⟨op', er', yes', ids', nums'⟩ := q
  simp only at *
  have L1 : Hid ((ns ids).length = ids.length ∧ (ns ids').length = ids'.length) := Lib.hid ⟨ns_len _, ns_len _⟩
  have L2 : Hid (nums.length = nums.length ∧ nums'.length = nums'.length) := Lib.hid ⟨rfl, rfl⟩
  generalize ns ids = zi at *
  generalize ns ids' = zi' at *
  generalize hli : ids.length = li at *
  generalize hln : nums.length = ln at *
  generalize hli' : ids'.length = li' at *
  generalize hln' : nums'.length = ln' at *
  have LN := Lib.hid (show nums.length = ln ∧ nums'.length = ln' from ⟨hln, hln'⟩)
  clear hli hln hli' hln' L2
  have key : ∀ b1 b2 b3 b4 : Bool, (op == op') = b1 → (er == er') = b2 → (li == li') = b3 → ((li : Int) == (li' : Int)) = b3 → (ln == ln') = b4 → ((ln : Int) == (ln' : Int)) = b4 → (b3 = true → li = li') → (b4 = true → ln = ln') → (b3 = false → zi ≠ zi') → (b4 = false → nums ≠ nums') →
      Calls Tryd.prog 25 #[.agg #[.int .i64 op, .int .i64 er, .bool yes, .slice a li c, .slice a' ln c'], .agg #[.int .i64 op', .int .i64 er', .bool yes', .slice b li' d, .slice b' ln' d']] w fun e w' => e = .returned (.bool R) ∧ Below w.heap.size w w' := by
    intro b1 b2 b3 b4 q1 q2 q3 q4 q5 q6 q7 q8 q9 q10
    have p1 : (op != op') = !b1 := by rw [← q1]; rfl
    have p2 : (er != er') = !b2 := by rw [← q2]; rfl
    have p3 : (li != li') = !b3 := by rw [← q3]; rfl
    have p4 : ((li : Int) != (li' : Int)) = !b3 := by rw [← q4]; rfl
    have p5 : (ln != ln') = !b4 := by rw [← q5]; rfl
    have p6 : ((ln : Int) != (ln' : Int)) = !b4 := by rw [← q6]; rfl
    have HR : Hid (R = (b1 && b2 && (yes == yes') && decide (zi = zi') && decide (nums = nums'))) := Lib.hid (by rw [hs.out, q1, q2])
    have Q7 := Lib.hid q7; have Q8 := Lib.hid q8; have Q9 := Lib.hid q9; have Q10 := Lib.hid q10
    clear hs q7 q8 q9 q10
    have E1 : Hid (b1 = false ∨ b2 = false ∨ yes ≠ yes' ∨ b3 = false ∨ b4 = false → R = false) := Lib.hid (fun h => by
      rw [HR.out]
      rcases h with h | h | h | h | h
      · simp [h]
      · simp [h]
      · simp [h]
      · have := Q9.out h; simp [this]
      · have := Q10.out h; simp [this])
    cases b1
    · have hr := Lib.hid (E1.out (Or.inl rfl))
      go_enter Tryd.func25, Tryd.ntmps25
      go_wp2_with fail
      go_ret
      exact ⟨by rw [hr.out]; rfl, by rw [← HW.out]; exact hA.out⟩
    · cases b2
      · have hr := Lib.hid (E1.out (Or.inr (Or.inl rfl)))
        go_enter Tryd.func25, Tryd.ntmps25
        go_wp2_with fail
        go_ret
        exact ⟨by rw [hr.out]; rfl, by rw [← HW.out]; exact hA.out⟩
      · by_cases hy : yes = yes'
        · subst hy
          cases b3
          · have hr := Lib.hid (E1.out (Or.inr (Or.inr (Or.inr (Or.inl rfl)))))
            cases yes
            all_goals
              go_enter Tryd.func25, Tryd.ntmps25
              go_wp2_with fail
              go_ret
              exact ⟨by rw [hr.out]; rfl, by rw [← HW.out]; exact hA.out⟩
          · cases b4
            · have hr := Lib.hid (E1.out (Or.inr (Or.inr (Or.inr (Or.inr rfl)))))
              cases yes
              all_goals
                go_enter Tryd.func25, Tryd.ntmps25
                go_wp2_with fail
                go_ret
                exact ⟨by rw [hr.out]; rfl, by rw [← HW.out]; exact hA.out⟩
            · obtain rfl : op = op' := by simpa using q1
              obtain rfl : er = er' := by simpa using q2
              obtain rfl := Q7.out rfl
              obtain rfl := Q8.out rfl
              have HR2 : Hid (R = (decide (zi = zi') && decide (nums = nums'))) := Lib.hid (by rw [HR.out]; simp)
              have BX := Lib.hid (box2_of X.out)
              have BY := Lib.hid (box2_of Y.out)
              clear q1 q2 q3 q4 q5 q6 Q7 Q8 Q9 Q10 E1 HR X Y p1 p2 p3 p4 p5 p6
              have HN1 : Hid (∀ k, zi.getD k 0 ≠ zi'.getD k 0 → R = false) := Lib.hid (fun k h => by rw [HR2.out]; simp; intro e; rw [e] at h; exact absurd rfl h)
              have HN2 : Hid (∀ k, nums.getD k 0 ≠ nums'.getD k 0 → R = false) := Lib.hid (fun k h => by rw [HR2.out]; simp; intro _ e; rw [e] at h; exact absurd rfl h)
              have HY : Hid (zi.take li = zi'.take li → nums.take ln = nums'.take ln → R = true) := Lib.hid (fun h1 h2 => by
                have l1 := L1.out; have l2 := LN.out
                rw [List.take_of_length_le (by omega), List.take_of_length_le (by omega)] at h1
                rw [List.take_of_length_le (by omega), List.take_of_length_le (by omega)] at h2
                rw [HR2.out]; simp [h1, h2])
              clear HR2
              cases yes
              all_goals
                go_enter Tryd.func25, Tryd.ntmps25
                go_wp2_with fail
                rw [← HW.out]
                go_loopw [5] (fun vi wr => SmRel W li zi zi' vi wr) (fun vi _ => li - (intOf vi).toNat)
                case atStart => exact ⟨0, Nat.zero_le _, rfl, by simp, Below.refl _ _⟩
                case round =>
                  obtain ⟨k, hk, rfl, htk, hbl⟩ := hrel
                  have BL := Lib.hid hbl; have TK := Lib.hid htk; clear hbl htk
                  obtain ⟨x3, x4⟩ := BX.out wr BL.out
                  obtain ⟨y3, y4⟩ := BY.out wr BL.out
                  by_cases hlt : k < li
                  · have hkl : k < zi.length := by have := L1.out; omega
                    have hkl2 : k < zi'.length := by have := L1.out; omega
                    obtain ⟨b, off, rfl, _, _⟩ := H1.out.at_ (by intro h; rw [h, List.length_nil] at hkl; omega)
                    obtain ⟨b', off', rfl, _, _⟩ := K1.out.at_ (by intro h; rw [h, List.length_nil] at hkl2; omega)
                    have x0 := (H1.out.below BL.out).cellK (i := k) hkl
                    have y0 := (K1.out.below BL.out).cellK (i := k) hkl2
                    by_cases he : zi.getD k 0 = zi'.getD k 0
                    · have TK2 : Hid (zi.take (k + 1) = zi'.take (k + 1)) := Lib.hid (by
                        rw [List.take_succ_eq_append_getElem hkl, List.take_succ_eq_append_getElem hkl2, TK.out]
                        congr 2
                        simpa [hkl, hkl2] using he)
                      rw [he] at x0
                      clear he
                      generalize zi'.getD k 0 = x at *
                      go_wp2_with fail
                      go_quiet (fail)
                      go_wp2_with fail
                      go_roundw
                      case rel => exact ⟨k + 1, by omega, by go_num, TK2.out, below_drewN BL.out _⟩
                      case measure => simp [intOf]; omega
                    · have HF := Lib.hid (HN1.out k he)
                      generalize zi.getD k 0 = x at *
                      generalize zi'.getD k 0 = y at *
                      have hxy : (x == y) = false := by simpa using he
                      have hxy2 : (x != y) = true := by simpa using he
                      clear he
                      go_wp2_with fail
                      go_quiet (fail)
                      go_wp2_with fail
                      go_ret
                      exact ⟨ret_bool HF.out.symm, hA.out.trans ((below_drewN BL.out _).mono hA.out.size)⟩
                  · have TKI : Hid (zi.take li = zi'.take li) := Lib.hid (by rw [show li = k by omega]; exact TK.out)
                    have BW := Lib.hid BL.out
                    have H2w := Lib.hid (H2.out.below BL.out)
                    have K2w := Lib.hid (K2.out.below BL.out)
                    have BXW : Hid (Box2 wr w.heap.size li a c ln a' c') := Lib.hid (fun w' hb => BX.out w' (BL.out.trans (hb.mono BL.out.size)))
                    have BYW : Hid (Box2 wr (w.heap.size + 1) li b d ln b' d') := Lib.hid (fun w' hb => BY.out w' (BL.out.trans (hb.mono BL.out.size)))
                    clear TK BL hk
                    go_wp2_with fail
                    generalize wr = V at *
                    go_loopw [6] (fun vi wr => SmRel V ln nums nums' vi wr) (fun vi _ => ln - (intOf vi).toNat)
                    case atStart => exact ⟨0, Nat.zero_le _, rfl, by simp, Below.refl _ _⟩
                    case round =>
                      clear x3 x4 y3 y4 hlt
                      obtain ⟨k2, hk2, rfl, htk, hbl⟩ := hrel
                      have BL := Lib.hid hbl; have TK := Lib.hid htk; clear hbl htk
                      obtain ⟨x3, x4⟩ := BXW.out wr BL.out
                      obtain ⟨y3, y4⟩ := BYW.out wr BL.out
                      have BF := Lib.hid (hA.out.trans ((BW.out.trans (BL.out.mono BW.out.size)).mono hA.out.size))
                      by_cases hlt : k2 < ln
                      · have hkl : k2 < nums.length := by have := LN.out; omega
                        have hkl2 : k2 < nums'.length := by have := LN.out; omega
                        obtain ⟨b, off, rfl, _, _⟩ := H2w.out.at_ (by intro h; rw [h, List.length_nil] at hkl; omega)
                        obtain ⟨b', off', rfl, _, _⟩ := K2w.out.at_ (by intro h; rw [h, List.length_nil] at hkl2; omega)
                        have x0 := (H2w.out.below BL.out).cellK (i := k2) hkl
                        have y0 := (K2w.out.below BL.out).cellK (i := k2) hkl2
                        by_cases he : nums.getD k2 0 = nums'.getD k2 0
                        · have TK2 : Hid (nums.take (k2 + 1) = nums'.take (k2 + 1)) := Lib.hid (by
                            rw [List.take_succ_eq_append_getElem hkl, List.take_succ_eq_append_getElem hkl2, TK.out]
                            congr 2
                            simpa [hkl, hkl2] using he)
                          rw [he] at x0
                          clear he
                          generalize nums'.getD k2 0 = x at *
                          go_wp2_with fail
                          go_quiet (fail)
                          go_wp2_with fail
                          go_roundw
                          case rel => exact ⟨k2 + 1, by omega, by go_num, TK2.out, below_drewN BL.out _⟩
                          case measure => simp [intOf]; omega
                        · have HF := Lib.hid (HN2.out k2 he)
                          generalize nums.getD k2 0 = x at *
                          generalize nums'.getD k2 0 = y at *
                          have hxy : (x == y) = false := by simpa using he
                          have hxy2 : (x != y) = true := by simpa using he
                          clear he
                          go_wp2_with fail
                          go_quiet (fail)
                          go_wp2_with fail
                          go_ret
                          exact ⟨ret_bool HF.out.symm, below_drewN BF.out _⟩
                      · have hr := Lib.hid (HY.out TKI.out (by rw [show ln = k2 by omega]; exact TK.out))
                        clear TK TKI
                        go_wp2_with fail
                        go_ret
                        exact ⟨by rw [hr.out]; rfl, BF.out⟩
        · have hr := Lib.hid (E1.out (Or.inr (Or.inr (Or.inl hy))))
          clear E1
          cases yes <;> cases yes'
          · exact absurd rfl hy
          · go_enter Tryd.func25, Tryd.ntmps25
            go_wp2_with fail
            go_ret
            exact ⟨by rw [hr.out]; rfl, by rw [← HW.out]; exact hA.out⟩
          · go_enter Tryd.func25, Tryd.ntmps25
            go_wp2_with fail
            go_ret
            exact ⟨by rw [hr.out]; rfl, by rw [← HW.out]; exact hA.out⟩
          · exact absurd rfl hy
  refine key (op == op') (er == er') (li == li') (ln == ln') rfl rfl rfl ?_ rfl ?_ ?_ ?_ ?_ ?_
  · rw [Bool.eq_iff_iff]; simp; omega
  · rw [Bool.eq_iff_iff]; simp; omega
  · intro h; simpa using h
  · intro h; simpa using h
  · intro h e; have := L1.out; rw [e] at this; simp at h; omega
  · intro h e; have := LN.out; rw [e] at this; simp at h; omega
end Go.Proofs.YtlmdkcpiimpniaaDoor
/- few and Copied of the statements. -/
namespace Go.Proofs.YtlmdkcpiimpniaaDoor
open Go.ChangeShapes Go.WideShapes Go.ChangeAt Go.RowKit
set_option linter.unusedVariables false
set_option linter.unusedSimpArgs false

def fewB (r : Rp) : Bool := decide (r.ids.length ≤ 300) && decide (r.nums.length ≤ 300)
theorem few_iff {r : Rp} : fewB r = true ↔ r.ids.length ≤ 300 ∧ r.nums.length ≤ 300 := by simp [fewB]
theorem pfew (w : World) (r : Rp) (a a' : Option Addr) (c c' : Nat) : Calls Tryd.prog 20 #[.agg (rpV r a c a' c')] w fun e w' => e = .returned (.bool (fewB r)) ∧ Below w.heap.size w w' := by
  have hA : Hid (Below w.heap.size w (w.alloc (.cells (rpV r a c a' c') 27))) := Lib.hid (Below.alloc (Below.refl _ _) (Nat.le_refl _) _)
  unfold rpV fewB at *
  obtain ⟨op, er, yes, ids, nums⟩ := r
  simp only at *
  generalize ids.length = li at *
  generalize nums.length = ln at *
  obtain ⟨R, hR⟩ : ∃ R, R = (decide (li ≤ 300) && decide (ln ≤ 300)) := ⟨_, rfl⟩
  rw [← hR]
  have d1 : decide ((li : Int) ≤ 300) = decide (li ≤ 300) := by rw [Bool.eq_iff_iff]; simp; omega
  have d2 : decide ((ln : Int) ≤ 300) = decide (ln ≤ 300) := by rw [Bool.eq_iff_iff]; simp; omega
  by_cases h1 : li ≤ 300
  · by_cases h2 : ln ≤ 300
    · have HR : Hid (R = true) := Lib.hid (by rw [hR]; simp [h1, h2])
      rw [decide_eq_true h1] at d1
      rw [decide_eq_true h2] at d2
      clear hR
      go_enter Tryd.func20, Tryd.ntmps20
      go_wp2_with fail
      go_ret
      exact ⟨by rw [HR.out]; rfl, hA.out⟩
    · have HR : Hid (R = false) := Lib.hid (by rw [hR]; simp [h2])
      rw [decide_eq_true h1] at d1
      rw [decide_eq_false h2] at d2
      clear hR
      go_enter Tryd.func20, Tryd.ntmps20
      go_wp2_with fail
      go_ret
      exact ⟨by rw [HR.out]; rfl, hA.out⟩
  · have HR : Hid (R = false) := Lib.hid (by rw [hR]; simp [h1])
    rw [decide_eq_false h1] at d1
    clear hR
    go_enter Tryd.func20, Tryd.ntmps20
    go_wp2_with fail
    go_ret
    exact ⟨by rw [HR.out]; rfl, hA.out⟩
theorem info28 : (Tryd.prog.info? 28).map (fun i => (i.zero, i.size, i.bytes)) = some (some (.int .u64 0), 1, 8) := by kernel_rfl
theorem info2 : (Tryd.prog.info? 2).map (fun i => (i.zero, i.size, i.bytes)) = some (some (.int .i64 0), 1, 8) := by kernel_rfl
theorem own_emptyK (k : IntKind) (w : World) (e : TypeId) {B : Nat} (hB : B ≤ w.heap.size) : OutR 1 (encK k) e (w.alloc (.cells #[] e)) B (.slice (some ⟨w.heap.size, 0, none⟩) 0 0) [] :=
  ⟨⟨rfl, Or.inr ⟨w.heap.size, 0, #[], rfl, Nat.zero_le _, block_new _ _, Nat.le_refl _, Nat.zero_le _, rfl, rfl⟩⟩, fun g hg => by cases hg; exact hB⟩
def zeroV : Array Value := #[.int .i64 0, .int .i64 0, .bool false, .slice none 0 0, .slice none 0 0]
def CpR (w : World) (r : Rp) (e : Ending) (w' : World) : Prop := ∃ a c a' c', e = .returned (.agg (rpV r a c a' c')) ∧ LsR w' r a c a' c' ∧ Below w.heap.size w w'
set_option maxRecDepth 100000 in
set_option maxHeartbeats 4000000 in
theorem pcopied {w : World} {r : Rp} {a a' : Option Addr} {c c' : Nat} (h : LsR w r a c a' c') (hl1 : r.ids.length ≤ 1000000) (hl2 : r.nums.length ≤ 1000000) :
    Calls Tryd.prog 21 #[.agg (rpV r a c a' c')] w (CpR w r) := by
  obtain ⟨i0, hi, hz0, hz1, hz2⟩ := info_parts info28
  obtain ⟨j0, hj, hy0, hy1, hy2⟩ := info_parts info2
  obtain ⟨W, hW⟩ : ∃ W, W = (w.alloc (.cells (rpV r a c a' c') 27)).alloc (.cells zeroV 27) := ⟨_, rfl⟩
  have hA : Hid (Below w.heap.size w W) := Lib.hid (by rw [hW]; exact (Below.alloc (Below.refl _ _) (Nat.le_refl _) _).alloc (by simp) _)
  have X := Lib.hid (block_old (block_new w (.cells (rpV r a c a' c') 27)) (.cells zeroV 27))
  have Y : Hid (((w.alloc (.cells (rpV r a c a' c') 27)).alloc (.cells zeroV 27)).heap[w.heap.size + 1]? = some (.cells zeroV 27 (0, 0))) := Lib.hid (by
    have := block_new (w.alloc (.cells (rpV r a c a' c') 27)) (.cells zeroV 27)
    rwa [show (w.alloc (.cells (rpV r a c a' c') 27)).heap.size = w.heap.size + 1 by simp] at this)
  have hsz : W.heap.size = w.heap.size + 2 := by rw [hW]; simp
  rw [← hW] at X Y
  have HS := Lib.hid hsz
  have HW := Lib.hid hW
  have H1 := Lib.hid (h.keep (hA.out.alloc hA.out.size (.cells #[] 28))).i
  have H2 : Hid (∀ w', Below w.heap.size w w' → IsK .i64 w' a' r.nums.length c' r.nums) := Lib.hid (fun w' hb => (h.keep hb).n)
  have E1 : Hid (OutR 1 (encK .u64) 28 (W.alloc (.cells #[] 28)) W.heap.size (.slice (some ⟨w.heap.size + 2, 0, none⟩) 0 0) []) := Lib.hid (by
    have := own_emptyK .u64 W 28 (Nat.le_refl W.heap.size)
    rwa [hsz] at this ⊢)
  clear h hW hsz
  unfold rpV zeroV at *
  obtain ⟨op, er, yes, ids, nums⟩ := r
  simp only at *
  have LI := Lib.hid (ns_len ids)
  obtain ⟨li, hli⟩ : ∃ li, ids.length = li := ⟨_, rfl⟩
  obtain ⟨ln, hln⟩ : ∃ ln, nums.length = ln := ⟨_, rfl⟩
  have HLI := Lib.hid hli; have HLN := Lib.hid hln
  rw [hli] at hl1
  rw [hln] at hl2
  rw [hli] at H1
  rw [hln] at H2
  rw [hli, hln] at X HW
  go_enter Tryd.func21, Tryd.ntmps21
  rw [hli, hln]
  clear hli hln
  go_wp2_with (at_builtin; rw [← HW.out]; refine wpList_appS rfl (.tmp 3) (.tmp 5) 25 rfl 28 i0 .u64 8 Tryd.underlying25 hi hz0 hz1 hz2 (by decide) rfl E1.out (by simp) H1.out rfl (by simp; omega) ?_)
  intro v5 w5 h1 h2 h3 h4
  have O5 : Hid (OutR 1 (encK .u64) 28 w5 W.heap.size v5 (ns ids)) := Lib.hid (by simpa using h1)
  have B5 := Lib.hid (show Below W.heap.size W w5 from (Below.alloc (Below.refl _ _) (Nat.le_refl _) _).trans h3)
  have X5 := (B5.out.block _ (lt_of_block X.out)).trans X.out
  have Y5 := Lib.hid ((B5.out.block _ (lt_of_block Y.out)).trans Y.out)
  obtain ⟨a5, q5, rfl, hS5⟩ := O5.out.sl
  rw [LI.out, HLI.out] at hS5 ⊢
  have S5 := Lib.hid hS5
  have B5w := Lib.hid (hA.out.trans (B5.out.mono hA.out.size))
  obtain ⟨W6, hW6⟩ : ∃ W6, W6 = w5.setCell ⟨w.heap.size, 3, none⟩ (.slice a5 li q5) := ⟨_, rfl⟩
  have g1 : w.heap.size < w5.heap.size := by have := B5.out.size; have := HS.out; omega
  have hs6 : W6.heap.size = w5.heap.size := by rw [hW6]; simp
  have X6 : W6.heap[w.heap.size]? = some (.cells #[.int .i64 op, .int .i64 er, .bool yes, .slice a5 li q5, .slice a' ln c'] 27 (0, 0)) := by rw [hW6]; exact set_of X5 3 _
  have Y6 : W6.heap[w.heap.size + 1]? = some (.cells #[.int .i64 0, .int .i64 0, .bool false, .slice none 0 0, .slice none 0 0] 27 (0, 0)) := by rw [hW6]; exact block_set Y5.out (by simp) _
  have T6 : Touch (fun b => b = w.heap.size) w5 W6 := by rw [hW6]; exact (Touch.refl (fun b => b = w.heap.size) w5).setCell (p := ⟨w.heap.size, 3, none⟩) (fun _ => rfl) _
  have B6 : Below w.heap.size w W6 := by rw [hW6]; exact B5w.out.setCell (Nat.le_refl _) _
  have S6 : IsK .u64 W6 a5 li q5 (ns ids) := S5.out.keep T6 (fun hne x hx e => by
    have h1 := O5.out.blk x.block (by rw [hx]; rfl)
    have := HS.out
    omega)
  have HW6 := Lib.hid hW6; have HS6 := Lib.hid hs6; have HX6 := Lib.hid X6; have HY6 := Lib.hid Y6; have HB6 := Lib.hid B6; have HS6u := Lib.hid S6
  have H2w := Lib.hid (H2.out (W6.alloc (.cells #[] 2)) (B6.alloc B6.size _))
  have E2 : Hid (OutR 1 (encK .i64) 2 (W6.alloc (.cells #[] 2)) W6.heap.size (.slice (some ⟨w5.heap.size, 0, none⟩) 0 0) []) := Lib.hid (by
    have := own_emptyK .i64 W6 2 (Nat.le_refl W6.heap.size)
    rwa [hs6] at this ⊢)
  have x3 : w5.cell? ⟨w.heap.size, 3, none⟩ = some (.slice a li c) := cell_of X5 3
  have x4 : w5.cell? ⟨w.heap.size, 4, none⟩ = some (.slice a' ln c') := cell_of X5 4
  have f3 : w5.frozen? ⟨w.heap.size, 3, none⟩ = false := free_of X5 3
  have f4 : w5.frozen? ⟨w.heap.size, 4, none⟩ = false := free_of X5 4
  clear h1 h2 h3 h4 E1 H1 H2 hS5 X5 hW6 hs6 X6 Y6 T6 B6 S6
  go_wp2_with (at_builtin; rw [← HW6.out]; refine wpList_appS rfl (.tmp 8) (.tmp 10) 23 rfl 2 j0 .i64 8 Tryd.underlying23 hj hy0 hy1 hy2 (by decide) rfl E2.out (by simp) H2w.out rfl (by simp; omega) ?_)
  intro v7 w7 h1 h2 h3 h4
  have B7 := Lib.hid (show Below W6.heap.size W6 w7 from (Below.alloc (Below.refl _ _) (Nat.le_refl _) _).trans h3)
  have X7 := (B7.out.block _ (lt_of_block HX6.out)).trans HX6.out
  have Y7 := (B7.out.block _ (lt_of_block HY6.out)).trans HY6.out
  have O7 : OutR 1 (encK .i64) 2 w7 W6.heap.size v7 nums := by simpa using h1
  obtain ⟨a7, q7, rfl, hS7⟩ := O7.sl
  rw [HLN.out] at hS7 ⊢
  have hB7 := HB6.out.trans (B7.out.mono HB6.out.size)
  have fin : ∀ F : World, Touch (fun b => b = w.heap.size ∨ b = w.heap.size + 1) w7 F → Below w.heap.size w F → LsR F ⟨op, er, yes, ids, nums⟩ a5 q5 a7 q7 := fun F hT hb => by
    refine ⟨?_, ?_⟩
    · show IsK .u64 F a5 ids.length q5 (ns ids)
      rw [HLI.out]
      refine (HS6u.out.below B7.out).keep hT (fun hne x hx e => ?_)
      have h1 := O5.out.blk x.block (by rw [hx]; rfl)
      have := HS.out
      omega
    · show IsK .i64 F a7 nums.length q7 nums
      rw [HLN.out]
      refine hS7.keep hT (fun hne x hx e => ?_)
      have h1 := O7.blk x.block (by rw [hx]; rfl)
      have := HS6.out
      have := B5.out.size
      have := HS.out
      omega
  have FIN := Lib.hid fin; have HB7 := Lib.hid hB7
  have x0 : w7.cell? ⟨w.heap.size, 0, none⟩ = some (.int .i64 op) := cell_of X7 0
  have x1 : w7.cell? ⟨w.heap.size, 1, none⟩ = some (.int .i64 er) := cell_of X7 1
  have x2 : w7.cell? ⟨w.heap.size, 2, none⟩ = some (.bool yes) := cell_of X7 2
  have z3 : w7.cell? ⟨w.heap.size, 3, none⟩ = some (.slice a5 li q5) := cell_of X7 3
  have z4 : w7.cell? ⟨w.heap.size, 4, none⟩ = some (.slice a' ln c') := cell_of X7 4
  have fx4 : w7.frozen? ⟨w.heap.size, 4, none⟩ = false := free_of X7 4
  have y0 : w7.cell? ⟨w.heap.size + 1, 0, none⟩ = some (.int .i64 0) := cell_of Y7 0
  have y1 : w7.cell? ⟨w.heap.size + 1, 1, none⟩ = some (.int .i64 0) := cell_of Y7 1
  have y2 : w7.cell? ⟨w.heap.size + 1, 2, none⟩ = some (.bool false) := cell_of Y7 2
  have y3 : w7.cell? ⟨w.heap.size + 1, 3, none⟩ = some (.slice none 0 0) := cell_of Y7 3
  have y4 : w7.cell? ⟨w.heap.size + 1, 4, none⟩ = some (.slice none 0 0) := cell_of Y7 4
  have fy0 : w7.frozen? ⟨w.heap.size + 1, 0, none⟩ = false := free_of Y7 0
  have fy1 : w7.frozen? ⟨w.heap.size + 1, 1, none⟩ = false := free_of Y7 1
  have fy2 : w7.frozen? ⟨w.heap.size + 1, 2, none⟩ = false := free_of Y7 2
  have fy3 : w7.frozen? ⟨w.heap.size + 1, 3, none⟩ = false := free_of Y7 3
  have fy4 : w7.frozen? ⟨w.heap.size + 1, 4, none⟩ = false := free_of Y7 4
  clear h1 h2 h3 h4 X7 Y7 O7 hS7 hB7 fin x3 x4 f3 f4 E2 H2w
  go_wp2_with fail
  have hT := Lib.hid ((((((((Touch.refl (fun b => b = w.heap.size ∨ b = w.heap.size + 1) w7).setCell (p := ⟨w.heap.size, 4, none⟩) (fun _ => Or.inl rfl) (.slice a7 ln q7)).setCell (p := ⟨w.heap.size + 1, 0, none⟩) (fun _ => Or.inr rfl) (.int .i64 op)).setCell (p := ⟨w.heap.size + 1, 1, none⟩) (fun _ => Or.inr rfl) (.int .i64 er)).setCell (p := ⟨w.heap.size + 1, 2, none⟩) (fun _ => Or.inr rfl) (.bool yes)).setCell (p := ⟨w.heap.size + 1, 3, none⟩) (fun _ => Or.inr rfl) (.slice a5 li q5)).setCell (p := ⟨w.heap.size + 1, 4, none⟩) (fun _ => Or.inr rfl) (.slice a7 ln q7)))
  have hB := Lib.hid (((((((HB7.out.setCell (p := ⟨w.heap.size, 4, none⟩) (Nat.le_refl _) (.slice a7 ln q7)).setCell (p := ⟨w.heap.size + 1, 0, none⟩) (Nat.le_succ _) (.int .i64 op)).setCell (p := ⟨w.heap.size + 1, 1, none⟩) (Nat.le_succ _) (.int .i64 er)).setCell (p := ⟨w.heap.size + 1, 2, none⟩) (Nat.le_succ _) (.bool yes)).setCell (p := ⟨w.heap.size + 1, 3, none⟩) (Nat.le_succ _) (.slice a5 li q5)).setCell (p := ⟨w.heap.size + 1, 4, none⟩) (Nat.le_succ _) (.slice a7 ln q7)))
  refine bodyPost_ret (v := .agg #[.int .i64 op, .int .i64 er, .bool yes, .slice a5 li q5, .slice a7 ln q7]) (by simp [results, Tryd.results21, go_sem, y0, y1, y2, y3, y4]) rfl ?_
  refine ⟨a5, q5, a7, q7, ?_, FIN.out _ hT.out hB.out, hB.out⟩
  unfold rpV
  rw [HLI.out, HLN.out]
end Go.Proofs.YtlmdkcpiimpniaaDoor

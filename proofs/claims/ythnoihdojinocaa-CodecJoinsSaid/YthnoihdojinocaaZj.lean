/- The document's Get. -/
import Derived.Test.YthnoihdojinocaaZi
import Derived.Test.YthnoihdojinocaaY
namespace Go.Proofs.Ythnoihdojinocaa
open Go.ChangeShapes Go.WideShapes Go.ChangeAt Go.RowKit
set_option linter.unusedVariables false
set_option linter.unusedSimpArgs false

set_option maxRecDepth 100000 in
set_option maxHeartbeats 8000000 in
theorem rget_1 {w : World} {a : Option Addr} {n c : Nat} {b : List Nat} (h : IsK .u8 w a n c (ns b)) (hb : By b) (hg : gu b = none) :
    Calls Try.prog 22 #[.slice a n c] w (GetR w (getV none)) := by
  have A : Hid (Below w.heap.size w (w.alloc (.cells #[.int .i64 0, .int .u64 0, .int .u64 0, .int .i64 0, .int .i64 0, .slice none 0 0, .slice none 0 0] 27))) := Lib.hid (Below.alloc (Below.refl _ _) (Nat.le_refl _) _)
  have P := Lib.hid (rgu (h.below A.out) hb)
  rw [hg] at P
  clear h hb hg
  go_enter Try.func22, Try.ntmps22
  go_wp2_with fail
  refine (P.out).mono ?_; rintro e w1 ⟨rfl, rfl⟩
  unfold guV
  go_wp2_with fail
  refine bodyPost_ret (v := .tuple #[.agg #[.int .i64 0, .int .u64 0, .int .u64 0, .int .i64 0, .int .i64 0, .slice none 0 0, .slice none 0 0], .int .i64 0, .int .i64 15]) ?_ rfl ?_
  · simp [results, Try.results22, go_sem]
  · exact get_no A.out
set_option maxRecDepth 100000 in
set_option maxHeartbeats 8000000 in
theorem rget_2 {w : World} {a : Option Addr} {n c : Nat} {b : List Nat} (h : IsK .u8 w a n c (ns b)) (hb : By b) {l m : Nat} (hg : gu b = some (l, m)) (hl : b.length - m < l) :
    Calls Try.prog 22 #[.slice a n c] w (GetR w (getV none)) := by
  have A : Hid (Below w.heap.size w (w.alloc (.cells #[.int .i64 0, .int .u64 0, .int .u64 0, .int .i64 0, .int .i64 0, .slice none 0 0, .slice none 0 0] 27))) := Lib.hid (Below.alloc (Below.refl _ _) (Nat.le_refl _) _)
  have P := Lib.hid (rgu (h.below A.out) hb)
  rw [hg] at P
  have hn := h.u8
  have hml := (gu_le hb hg).2.1
  have hl64 := (gu_some hb hg).1
  have hnc := h.hle; have hmx := h.hmax
  unfold maxLen at hmx
  have e1 : decide ((n : Int) - (m : Int) < (l : Int)) = true := by simp; omega
  have hmn : m ≤ n := by omega
  have hsub : ((n - m : Nat) : Int) = (n : Int) - (m : Int) := by omega
  clear h hb hg hn hml hl
  go_enter Try.func22, Try.ntmps22
  go_wp2_with fail
  refine (P.out).mono ?_; rintro e w1 ⟨rfl, rfl⟩
  unfold guV
  go_wp2_with fail
  refine bodyPost_ret (v := .tuple #[.agg #[.int .i64 0, .int .u64 0, .int .u64 0, .int .i64 0, .int .i64 0, .slice none 0 0, .slice none 0 0], .int .i64 0, .int .i64 15]) ?_ rfl ?_
  · simp [results, Try.results22, go_sem]
  · exact get_no A.out
theorem below_q {w W1 w2 W3 w' : World} {b8 : Nat} (h1 : Below w.heap.size w W1) (h2 : Below W1.heap.size W1 w2) (hq : w.heap.size < b8) (h3 : Below b8 w2 W3) (ht : Touch (fun i => i = w.heap.size) W3 w') : Below w.heap.size w w' := by
  have h4 := h1.trans (h2.mono h1.size)
  have h5 := h4.trans (h3.mono (Nat.le_of_lt hq))
  exact h5.trans (ht.below h5.size (fun i hi e => by omega))
theorem rc_no {oc : Option Cm} {cc : Cm} (h : match oc with | some c => false = true ∧ cc = c | none => false = false) : oc = none := by
  cases oc with
  | none => rfl
  | some c => exact absurd h.1 (by simp)
theorem rc_yes {oc : Option Cm} {cc : Cm} (h : match oc with | some c => true = true ∧ cc = c | none => true = false) : oc = some cc := by
  cases oc with
  | none => exact absurd h (by simp)
  | some c => rw [h.2]
set_option maxRecDepth 100000 in
set_option maxHeartbeats 8000000 in
theorem rget_3 {w : World} {a : Option Addr} {n c : Nat} {b : List Nat} (h : IsK .u8 w a n c (ns b)) (hb : By b) (hbl : b.length ≤ 900000) {l m : Nat} (hg : gu b = some (l, m)) (hl : ¬ b.length - m < l) :
    Calls Try.prog 22 #[.slice a n c] w (GetR w (getV (match cmdOf ((b.drop m).take l) with | none => none | some c => some (c, m + l)))) := by
  obtain ⟨W1, hW1⟩ : ∃ W1, W1 = w.alloc (.cells #[.int .i64 0, .int .u64 0, .int .u64 0, .int .i64 0, .int .i64 0, .slice none 0 0, .slice none 0 0] 27) := ⟨_, rfl⟩
  have A : Hid (Below w.heap.size w W1) := Lib.hid (by rw [hW1]; exact Below.alloc (Below.refl _ _) (Nat.le_refl _) _)
  have HW1 := Lib.hid hW1
  have HQ : Hid (W1.heap[w.heap.size]? = some (.cells zc 27 (0, 0))) := Lib.hid (by rw [hW1]; exact block_new _ _)
  have HQ1 : Hid (w.heap.size < W1.heap.size) := Lib.hid (lt_of_block HQ.out)
  have P := Lib.hid (rgu (h.below A.out) hb)
  rw [hg] at P
  have hn := h.u8
  have hml := (gu_le hb hg).2.1
  have hl64 := (gu_some hb hg).1
  have hnc := h.hle; have hmx := h.hmax
  unfold maxLen at hmx
  have e1 : decide ((n : Int) - (m : Int) < (l : Int)) = false := by simp; omega
  have hmn : m + l ≤ n := by omega
  have hmn1 : m ≤ n := by omega
  have hsub : ((n - m : Nat) : Int) = (n : Int) - (m : Int) := by omega
  have hs := run_lh Try.underlying29 size1 (a := a) (len := n) (cap := c) (l := (m : Int)) (h := (m : Int) + (l : Int)) (k := m) (m := m + l) rfl (by simp) (by omega) (by omega)
  rw [Nat.add_sub_cancel_left] at hs
  have hS := (h.below A.out).part (l := m) (r := m + l) (m := c) (by omega) hmn (by omega) (Nat.le_refl _)
  rw [Nat.add_sub_cancel_left, show ((ns b).take (m + l)).drop m = ns ((b.drop m).take l) by rw [List.drop_take, Nat.add_sub_cancel_left]; simp [ns, List.map_drop, List.map_take]] at hS
  have CM := Lib.hid (rcommand hS ((hb.drop m).take l) (by simp; omega))
  generalize part a m c 1 = pa at *
  have hl' : l ≤ n := by omega
  have hn9 : n ≤ 900000 := by omega
  clear h hb hg hn hml hl hS hW1 hbl
  generalize cmdOf ((b.drop m).take l) = oc at *
  obtain ⟨V, hV⟩ : ∃ V, V = getV (match oc with | none => none | some c => some (c, m + l)) := ⟨_, rfl⟩
  rw [← hV]
  have HV := Lib.hid hV
  clear hV
  go_enter Try.func22, Try.ntmps22
  go_wp2_with fail
  rw [← HW1.out]
  refine (P.out).mono ?_; rintro e w1 ⟨rfl, rfl⟩
  unfold guV
  clear P
  go_wp2_with fail
  refine (CM.out).mono ?_; rintro e w2 ⟨cc, ad, cd, ab, cb, ok, rfl, hls, hb2, hl1, hl2, hok⟩
  have LQ := Lib.hid (And.intro hl1 hl2)
  clear hl1 hl2
  have LS := Lib.hid hls; have B2 := Lib.hid hb2; have OK := Lib.hid hok
  have hq2 := (hb2.block _ (lt_of_block HQ.out)).trans HQ.out
  have HQ2 := Lib.hid hq2
  have hqw := lt_of_block hq2
  have HQW := Lib.hid hqw
  have hnot : ∀ (x : Bool) (w : World), (Op.unary .not (.bool x)).run Try.prog w = .ok (.bool (!x)) w := fun _ _ => rfl
  clear hls hb2 hok hq2
  unfold cmV
  have AL := Lib.hid (Below.alloc (Below.refl w2.heap.size w2) (Nat.le_refl _) (.cells #[.int .i64 cc.op, .int .u64 cc.u, .int .u64 cc.v, .int .i64 cc.w, .int .i64 cc.t, .slice ad cc.d.length cd, .slice ab cc.b.length cb] 27))
  have LS3 := Lib.hid (LS.out.keep AL.out)
  have hn3 := block_new w2 (.cells #[.int .i64 cc.op, .int .u64 cc.u, .int .u64 cc.v, .int .i64 cc.w, .int .i64 cc.t, .slice ad cc.d.length cd, .slice ab cc.b.length cb] 27)
  have hq3 := block_old HQ2.out (.cells #[.int .i64 cc.op, .int .u64 cc.u, .int .u64 cc.v, .int .i64 cc.w, .int .i64 cc.t, .slice ad cc.d.length cd, .slice ab cc.b.length cb] 27)
  have hne : ¬ (w.heap.size = w2.heap.size) := by omega
  have hne2 : ¬ (w2.heap.size = w.heap.size) := by omega
  clear hqw
  cases ok
  · have HO := Lib.hid (rc_no OK.out)
    clear OK
    go_upto_region 5 with fail
    generalize w2.alloc (.cells #[.int .i64 cc.op, .int .u64 cc.u, .int .u64 cc.v, .int .i64 cc.w, .int .i64 cc.t, .slice ad cc.d.length cd, .slice ab cc.b.length cb] 27) = W3 at *
    generalize w2.heap.size = b8 at *
    have y0 : W3.cell? ⟨b8, 0, none⟩ = some (.int .i64 cc.op) := cell_of hn3 0
    have y1 : W3.cell? ⟨b8, 1, none⟩ = some (.int .u64 cc.u) := cell_of hn3 1
    have y2 : W3.cell? ⟨b8, 2, none⟩ = some (.int .u64 cc.v) := cell_of hn3 2
    have y3 : W3.cell? ⟨b8, 3, none⟩ = some (.int .i64 cc.w) := cell_of hn3 3
    have y4 : W3.cell? ⟨b8, 4, none⟩ = some (.int .i64 cc.t) := cell_of hn3 4
    have y5 : W3.cell? ⟨b8, 5, none⟩ = some (.slice ad cc.d.length cd) := cell_of hn3 5
    have y6 : W3.cell? ⟨b8, 6, none⟩ = some (.slice ab cc.b.length cb) := cell_of hn3 6
    have z0 : W3.cell? ⟨w.heap.size, 0, none⟩ = some (.int .i64 0) := cell_of hq3 0
    have z1 : W3.cell? ⟨w.heap.size, 1, none⟩ = some (.int .u64 0) := cell_of hq3 1
    have z2 : W3.cell? ⟨w.heap.size, 2, none⟩ = some (.int .u64 0) := cell_of hq3 2
    have z3 : W3.cell? ⟨w.heap.size, 3, none⟩ = some (.int .i64 0) := cell_of hq3 3
    have z4 : W3.cell? ⟨w.heap.size, 4, none⟩ = some (.int .i64 0) := cell_of hq3 4
    have z5 : W3.cell? ⟨w.heap.size, 5, none⟩ = some (.slice none 0 0) := cell_of hq3 5
    have z6 : W3.cell? ⟨w.heap.size, 6, none⟩ = some (.slice none 0 0) := cell_of hq3 6
    have qf : ∀ i, W3.frozen? ⟨w.heap.size, i, none⟩ = false := fun i => free_of hq3 i
    have HN3 := Lib.hid hn3; have HQ3 := Lib.hid hq3
    clear hn3 hq3
    go_wp2_with fail
    have h7 := set7 HQ3.out rfl (.int .i64 0) (.int .u64 0) (.int .u64 0) (.int .i64 0) (.int .i64 0) (.slice none 0 0) (.slice none 0 0)
    have t7 := touch7 W3 w.heap.size (.int .i64 0) (.int .u64 0) (.int .u64 0) (.int .i64 0) (.int .i64 0) (.slice none 0 0) (.slice none 0 0)
    have q0 := cell_of h7 0
    have q1 := cell_of h7 1
    have q2 := cell_of h7 2
    have q3 := cell_of h7 3
    have q4 := cell_of h7 4
    have q5 := cell_of h7 5
    have q6 := cell_of h7 6
    have T7 := Lib.hid t7
    refine bodyPost_ret (v := .tuple #[.agg #[.int .i64 0, .int .u64 0, .int .u64 0, .int .i64 0, .int .i64 0, .slice none 0 0, .slice none 0 0], .int .i64 0, .int .i64 15]) ?_ rfl ?_
    · clear h7 t7 y0 y1 y2 y3 y4 y5 y6 z0 z1 z2 z3 z4 z5 z6 qf
      simp [results, Try.results22, go_sem, q0, q1, q2, q3, q4, q5, q6]
    · rw [HV.out, HO.out]; exact get_no (below_q A.out B2.out HQW.out AL.out T7.out)
  · have HO := Lib.hid (rc_yes OK.out)
    clear OK
    go_upto_region 5 with fail
    generalize w2.alloc (.cells #[.int .i64 cc.op, .int .u64 cc.u, .int .u64 cc.v, .int .i64 cc.w, .int .i64 cc.t, .slice ad cc.d.length cd, .slice ab cc.b.length cb] 27) = W3 at *
    generalize w2.heap.size = b8 at *
    have y0 : W3.cell? ⟨b8, 0, none⟩ = some (.int .i64 cc.op) := cell_of hn3 0
    have y1 : W3.cell? ⟨b8, 1, none⟩ = some (.int .u64 cc.u) := cell_of hn3 1
    have y2 : W3.cell? ⟨b8, 2, none⟩ = some (.int .u64 cc.v) := cell_of hn3 2
    have y3 : W3.cell? ⟨b8, 3, none⟩ = some (.int .i64 cc.w) := cell_of hn3 3
    have y4 : W3.cell? ⟨b8, 4, none⟩ = some (.int .i64 cc.t) := cell_of hn3 4
    have y5 : W3.cell? ⟨b8, 5, none⟩ = some (.slice ad cc.d.length cd) := cell_of hn3 5
    have y6 : W3.cell? ⟨b8, 6, none⟩ = some (.slice ab cc.b.length cb) := cell_of hn3 6
    have z0 : W3.cell? ⟨w.heap.size, 0, none⟩ = some (.int .i64 0) := cell_of hq3 0
    have z1 : W3.cell? ⟨w.heap.size, 1, none⟩ = some (.int .u64 0) := cell_of hq3 1
    have z2 : W3.cell? ⟨w.heap.size, 2, none⟩ = some (.int .u64 0) := cell_of hq3 2
    have z3 : W3.cell? ⟨w.heap.size, 3, none⟩ = some (.int .i64 0) := cell_of hq3 3
    have z4 : W3.cell? ⟨w.heap.size, 4, none⟩ = some (.int .i64 0) := cell_of hq3 4
    have z5 : W3.cell? ⟨w.heap.size, 5, none⟩ = some (.slice none 0 0) := cell_of hq3 5
    have z6 : W3.cell? ⟨w.heap.size, 6, none⟩ = some (.slice none 0 0) := cell_of hq3 6
    have qf : ∀ i, W3.frozen? ⟨w.heap.size, i, none⟩ = false := fun i => free_of hq3 i
    have HN3 := Lib.hid hn3; have HQ3 := Lib.hid hq3
    clear hn3 hq3
    go_wp2_with fail
    have h7 := set7 HQ3.out rfl (.int .i64 cc.op) (.int .u64 cc.u) (.int .u64 cc.v) (.int .i64 cc.w) (.int .i64 cc.t) (.slice ad cc.d.length cd) (.slice ab cc.b.length cb)
    have t7 := touch7 W3 w.heap.size (.int .i64 cc.op) (.int .u64 cc.u) (.int .u64 cc.v) (.int .i64 cc.w) (.int .i64 cc.t) (.slice ad cc.d.length cd) (.slice ab cc.b.length cb)
    have q0 := cell_of h7 0
    have q1 := cell_of h7 1
    have q2 := cell_of h7 2
    have q3 := cell_of h7 3
    have q4 := cell_of h7 4
    have q5 := cell_of h7 5
    have q6 := cell_of h7 6
    have T7 := Lib.hid t7
    refine bodyPost_ret (v := .tuple #[.agg #[.int .i64 cc.op, .int .u64 cc.u, .int .u64 cc.v, .int .i64 cc.w, .int .i64 cc.t, .slice ad cc.d.length cd, .slice ab cc.b.length cb], .int .i64 ((m : Int) + (l : Int)), .int .i64 0]) ?_ rfl ?_
    · clear h7 t7 y0 y1 y2 y3 y4 y5 y6 z0 z1 z2 z3 z4 z5 z6 qf
      simp [results, Try.results22, go_sem, q0, q1, q2, q3, q4, q5, q6]
    · rw [HV.out, HO.out]; exact get_yes (LS3.out.keepT T7.out (fun y hy e => by have := LQ.out.1 y hy; have := HQ1.out; omega) (fun y hy e => by have := LQ.out.2 y hy; have := HQ1.out; omega)) (below_q A.out B2.out HQW.out AL.out T7.out)
/-- The frame at the beginning of some bytes is read by the document. -/
theorem rget {w : World} {a : Option Addr} {n c : Nat} {b : List Nat} (h : IsK .u8 w a n c (ns b)) (hb : By b) (hbl : b.length ≤ 900000) : Calls Try.prog 22 #[.slice a n c] w (GetR w (getV (get b))) := by
  unfold get
  cases hg : gu b with
  | none => exact rget_1 h hb hg
  | some p =>
    obtain ⟨l, m⟩ := p
    simp only []
    by_cases hl : b.length - m < l
    · rw [if_pos hl]; exact rget_2 h hb hg hl
    · rw [if_neg hl]
      exact rget_3 h hb hbl hg hl
end Go.Proofs.Ythnoihdojinocaa

/- Lists are read from a reader. -/
import Derived.Test.YthnoihdojinocaaU
namespace Go.Proofs.Ythnoihdojinocaa
open Go.ChangeShapes Go.WideShapes Go.ChangeAt Go.RowKit
set_option linter.unusedVariables false
set_option linter.unusedSimpArgs false

theorem ent71 : ∀ (args : Array Value) (w : World), (callFunc 71 args).run Try.prog w = .ok (.enter 71 args) w := enters_of Try.func71 (by kernel_rfl) rfl
theorem ent70 : ∀ (args : Array Value) (w : World), (callFunc 70 args).run Try.prog w = .ok (.enter 70 args) w := enters_of Try.func70 (by kernel_rfl) rfl
theorem info23 : (Try.prog.info? 23).map (fun i => (i.zero, i.size, i.bytes)) = some (some (.int .u64 0), 1, 8) := by kernel_rfl
theorem info2 : (Try.prog.info? 2).map (fun i => (i.zero, i.size, i.bytes)) = some (some (.int .i64 0), 1, 8) := by kernel_rfl
def KRl (w0 : World) (k : Nat) (w : World) {α : Type} (ik : IntKind) (g : List α → List Int) (res : Option (List α × List Nat)) (e : Ending) (w' : World) : Prop := match res with
  | none => e = PN ∧ Touch (fun i => i = k) w0 w'
  | some (l, r') => ∃ a c, e = .returned (.slice a l.length c) ∧ KR w0 k r' w' ∧ IsK ik w' a l.length c (g l) ∧ Touch (fun i => i = k) w w' ∧ (∀ y, a = some y → w.heap.size ≤ y.block)
theorem krl_no {w0 w w' : World} {k : Nat} {α : Type} {ik : IntKind} {g : List α → List Int} (h : Touch (fun i => i = k) w0 w') : KRl w0 k w ik g none PN w' := ⟨rfl, h⟩
theorem ret_sl {a : Option Addr} {n m c : Nat} (h : n = m) : Ending.returned (.slice a n c) = .returned (.slice a m c) := by rw [h]
theorem set_next (z : List Int) (m : Nat) (x : Int) : (z ++ List.replicate (m + 1) (0 : Int)).set z.length x = (z ++ [x]) ++ List.replicate m 0 := by
  rw [List.set_append_right _ _ (Nat.le_refl _)]
  simp [List.replicate_succ]
/-- What a row that is being read leaves. -/
def putL {α : Type} (done : List α) (o : Option (List α × List Nat)) : Option (List α × List Nat) := match o with
  | none => none
  | some (l, r) => some (done ++ l, r)
theorem putL_nil {α : Type} (o : Option (List α × List Nat)) : putL [] o = o := by cases o <;> rfl
theorem getN_next {α : Type} {f : Nat → α} {n x m : Nat} {r : List Nat} (h : gu r = some (x, m)) (done : List α) : putL done (getN f (n + 1) r) = putL (done ++ [f x]) (getN f n (r.drop m)) := by
  rw [getN, h]
  simp only []
  cases getN f n (r.drop m) with
  | none => rfl
  | some p => simp [putL]
theorem getN_no {α : Type} {f : Nat → α} {n : Nat} {r : List Nat} (h : gu r = none) (done : List α) : putL done (getN f (n + 1) r) = none := by
  rw [getN, h]; rfl
theorem getN_len {α : Type} {f : Nat → α} : ∀ {n : Nat} {r r' : List Nat} {l : List α}, getN f n r = some (l, r') → l.length = n
  | 0, r, r', l, h => by cases h; rfl
  | n + 1, r, r', l, h => by
    unfold getN at h
    split at h
    · cases h
    · split at h
      · cases h
      · rename_i h1; cases h; simp [getN_len h1]
def RaRel (w0 w : World) (k g n : Nat) (res : Option (List Nat × List Nat)) (_v9 v33 : Value) (wr : World) : Prop :=
  ∃ (i : Nat) (done : List Nat) (ri : List Nat), i ≤ n ∧ done.length = i ∧ v33 = .int .i64 i ∧ KR w0 k ri wr ∧ Blk .u64 23 wr g n (ns done ++ List.replicate (n - i) 0) ∧ Touch (fun i => i = k) w wr ∧ putL done (getN id (n - i) ri) = res
theorem make_u64 (n : Nat) (hm : n ≤ 16777216) : ∀ w, (Instr.makeSlice 24 (.int .u64 (n : Int)) (.int .u64 (n : Int))).run Try.prog w = .ok (.slice (some ⟨w.heap.size, 0, none⟩) n n) (w.alloc (.cells (madeCells #[Value.int .u64 0] n) 23)) := fun w => by
  obtain ⟨i0, hi, hz0, hz1, hz2⟩ := info_parts info23
  have hr := run_make (P := Try.prog) w 24 23 i0 (.int .u64 0) Try.underlying24 hi hz0 .u64 .u64 n n (by omega) (by omega) (by rw [hz2]; omega) (by omega)
  rw [hz1] at hr
  simpa [Value.cells] using hr
set_option maxRecDepth 100000 in
set_option maxHeartbeats 8000000 in
theorem kr_all {w0 w : World} {k : Nat} {r : List Nat} (h : KR w0 k r w) :
    Calls Try.prog 73 #[.pointer (some ⟨k, 0, none⟩), .int .u64 16384, .func (.func 71) #[.pointer (some ⟨k, 0, none⟩)] #[]] w (KRl w0 k w .u64 ns (getL id 16384 r)) := by
  have HW := Lib.hid h.below.size
  have hkw : k < w.heap.size := by obtain ⟨⟨a, n, c, h1, _⟩, _⟩ := h; exact lt_of_block h1
  have hne : w.heap.size ≠ k := by omega
  have P := Lib.hid (kr_u (h.alloc (.cells #[.int .u64 0] 23)) (block_new w (.cells #[.int .u64 0] 23)) (o := 0) (by simp) hne (Nat.le_trans h.below.size (Nat.le_refl _)))
  have H := Lib.hid h
  unfold KRu at P
  unfold getL
  cases hg : gu r with
  | none =>
    rw [hg] at P
    clear h hg
    go_enter Try.func73, Try.ntmps73
    go_wp2_with fail
    refine (P.out).mono ?_; rintro e w1 ⟨rfl, hb⟩
    have B := Lib.hid hb; clear hb
    go_wp2_with fail
    exact ⟨rfl, krl_no B.out⟩
  | some p =>
    obtain ⟨n, m⟩ := p
    rw [hg] at P
    have hn64 := (gu_some h.bytes hg).1
    have hb := h.bytes
    clear h hg
    simp only []
    generalize hR : (if 16384 < n ∨ (r.drop m).length < n then none else getN id n (r.drop m)) = R
    have HR := Lib.hid hR
    clear hR
    go_enter Try.func73, Try.ntmps73
    go_wp2_with fail
    refine (P.out).mono ?_; rintro e w1 ⟨rfl, hk, hc, ht⟩
    have K := Lib.hid hk
    have n0 : w1.cell? ⟨w.heap.size, 0, none⟩ = some (.int .u64 (n : Int)) := cell_of hc 0
    obtain ⟨a1, n1, c1, hk1, hS1, -⟩ := hk.row
    have k0 : w1.cell? ⟨k, 0, none⟩ = some (.slice a1 n1 c1) := cell_of hk1 0
    have hn1 := hS1.u8; have hc1 := hS1.hle; have hmx := hS1.hmax
    have T1 : Hid (Touch (fun i => i = k) w w1) := Lib.hid ((Touch.refl _ w).alloc (.cells #[.int .u64 0] 23) |>.trans' ht (fun i hi e => e.elim (fun e => absurd hi (by omega)) id))
    unfold maxLen at hmx
    clear hk hc ht hk1 hS1
    by_cases hbad : 16384 < n ∨ (r.drop m).length < n
    · have hR := HR.out
      rw [if_pos hbad] at hR
      subst hR
      clear HR
      have B := Lib.hid K.out.below
      by_cases h1 : 16384 < n
      · have e1 : decide ((16384 : Int) < (n : Int)) = true := by simp; omega
        have e2 : decide (16384 < n) = true := by simp; omega
        clear hbad hn1
        go_wp2_with fail
        go_quiet (fail)
        go_wp2_with fail
        exact ⟨rfl, krl_no (touch_drewN B.out _)⟩
      · have e1 : decide ((16384 : Int) < (n : Int)) = false := by simp; omega
        have e2 : decide (16384 < n) = false := by simp; omega
        have e3 : decide ((n1 : Int) < (n : Int)) = true := by simp; omega
        have e4 : decide (n1 < n) = true := by simp; omega
        clear hbad hn1
        go_wp2_with fail
        go_quiet (fail)
        go_wp2_with fail
        exact ⟨rfl, krl_no (touch_drewN B.out _)⟩
    · have hR := HR.out
      rw [if_neg hbad] at hR
      clear HR
      have HR := Lib.hid hR
      have HRL : Hid (n1 = (r.drop m).length) := Lib.hid hn1
      clear hR hn1
      have e1 : decide ((16384 : Int) < (n : Int)) = false := by simp; omega
      have e2 : decide (16384 < n) = false := by simp; omega
      have e3 : decide ((n1 : Int) < (n : Int)) = false := by have := HRL.out; simp; omega
      have e4 : decide (n1 < n) = false := by have := HRL.out; simp; omega
      have hn1k : n ≤ 16384 := by omega
      clear hbad
      by_cases hn0 : n = 0
      · subst hn0
        have hR := HR.out
        subst hR
        clear HR
        go_wp2_with fail
        go_quiet (fail)
        go_wp2_with fail
        go_ret
        exact ⟨none, 0, rfl, (K.out).drewN _, IsSl.nil _, T1.out.trans (Touch.of_below (below_drewN (Below.refl _ _) _) _), fun y h => by cases h⟩
      · have m1 := make_u64 n (by omega)
        obtain ⟨CI, hCI⟩ : ∃ C, C = madeCells #[Value.int .u64 0] n := ⟨_, rfl⟩
        rw [← hCI] at m1
        have HCI := Lib.hid hCI
        have e5 : ((n : Int) == 0) = false := by simp; omega
        have e6 : (n == 0) = false := by simp; omega
        have eE := ent71
        have HN0 := Lib.hid hn0
        have HW1 : Hid (w.heap.size ≤ w1.heap.size) := Lib.hid T1.out.size
        have HGK : Hid (w1.heap.size ≠ k) := Lib.hid (by have := HW1.out; omega)
        have HG0 : Hid (w0.heap.size ≤ w1.heap.size) := Lib.hid K.out.below.size
        clear hCI hn0
        go_wp2_with fail
        go_quiet (fail)
        go_wp2_with fail
        go_loopw [9, 33] (fun v9 v33 wr => RaRel w0 w k w1.heap.size n R v9 v33 wr) (fun _ v33 _ => n - (intOf v33).toNat)
        case atStart =>
          refine ⟨0, [], r.drop m, Nat.zero_le _, rfl, rfl, ((K.out).drewN _).alloc _, ?_, (T1.out.trans (Touch.of_below (below_drewN (Below.refl _ _) _) _)).alloc _, ?_⟩
          · rw [HCI.out]
            have := Blk.new (k := .u64) (e := 23) (w1.drewN nq) n (by unfold maxLen; omega)
            rw [drewN_heap] at this
            exact this
          · rw [putL_nil]; exact HR.out
        case round =>
          clear HCI HR K n0 k0 m1 e1 e2 e3 e4 e5 e6 HRL
          clear CI
          obtain ⟨i, done, ri, hi, hdl, rfl, hk, hblk, ht, hput⟩ := hrel
          have K := Lib.hid hk; have TT := Lib.hid ht; have PU := Lib.hid hput; have DL := Lib.hid hdl
          by_cases hlt : i < n
          · obtain ⟨q, hq⟩ : ∃ q, n - i = q + 1 := ⟨n - i - 1, by omega⟩
            have hq2 : n - (i + 1) = q := by omega
            have hml : (ns done).length = i := by simp [ns]; exact hdl
            rw [hq] at hblk PU
            obtain ⟨rest, q1, q2, q3⟩ := hblk
            have P2 := Lib.hid (kr_u hk q3 (o := i) (by rw [List.size_toArray, List.length_append, vs_len, List.length_append, hml, List.length_replicate]; omega) HGK.out HG0.out)
            have NB : Hid (∀ (w5 : World) (x : Int), w5.heap[w1.heap.size]? = some (.cells ((vs .u64 (ns done ++ List.replicate (q + 1) 0) ++ rest).toArray.setIfInBounds i (.int .u64 x)) 23 (0, 0)) → Blk .u64 23 w5 w1.heap.size n ((ns done ++ [x]) ++ List.replicate q 0)) := Lib.hid (fun w5 x h => by
              refine ⟨rest, ?_, q2, ?_⟩
              · rw [List.length_append, hml, List.length_replicate] at q1; rw [List.length_append, List.length_append, hml, List.length_replicate, List.length_singleton]; omega
              · rw [h, vs_set _ _ _ _ _ (by rw [List.length_append, hml, List.length_replicate]; omega), ← hml, set_next])
            have HQ := Lib.hid hq; have HQ2 := Lib.hid hq2
            clear hk ht hput hdl q1 q2 q3 hml hq hq2
            unfold KRu at P2
            cases hg : gu ri with
            | none =>
              rw [hg] at P2
              have hR := PU.out
              rw [getN_no hg] at hR
              subst hR
              clear PU hg NB
              go_wp2_with fail
              refine (P2.out).mono ?_; rintro e w5 ⟨rfl, hb5⟩
              have B5 := Lib.hid hb5; clear hb5
              go_wp2_with fail
              exact ⟨rfl, krl_no B5.out⟩
            | some p =>
              obtain ⟨x, mm⟩ := p
              rw [hg] at P2
              have hR := PU.out
              rw [getN_next hg, ← HQ2.out] at hR
              have PU2 := Lib.hid hR
              clear PU hR hg HQ
              go_wp2_with fail
              refine (P2.out).mono ?_; rintro e w5 ⟨rfl, hk5, hc5, ht5⟩
              have K5 := Lib.hid hk5
              have B5 := Lib.hid (NB.out _ _ hc5)
              have T5 : Hid (Touch (fun i => i = k) w w5) := Lib.hid (TT.out.trans' ht5 (fun i hi e => e.elim (fun e => absurd hi (by have := HW1.out; omega)) id))
              clear hk5 hc5 ht5
              go_wp2_with fail
              go_roundw
              case rel => exact ⟨i + 1, done ++ [x], ri.drop mm, by omega, by rw [List.length_append, DL.out]; rfl, by go_num, K5.out, by rw [HQ2.out, ← ns_app]; exact B5.out, T5.out, PU2.out⟩
              case measure => simp [intOf]; omega
          · have hin : n = i := by omega
            have hR := PU.out
            have hmk : (ns done).length = n := by simp [ns]; omega
            rw [show n - i = 0 by omega] at hR hblk
            have BK : Hid (IsK .u64 wr (some ⟨w1.heap.size, 0, none⟩) n n (ns done)) := Lib.hid (by
              rw [List.replicate_zero, List.append_nil] at hblk
              exact hblk.sl hmk.symm)
            have hR2 : some (done, ri) = R := by rw [← hR]; simp [putL, getN]
            subst hR2
            have HDN : Hid (n = done.length) := Lib.hid (by omega)
            clear hR PU hblk hmk hdl hk ht hput DL hin
            go_wp2_with fail
            go_ret
            have hdn := HDN.out
            exact ⟨_, n, ret_sl hdn, K.out, by have := BK.out; rw [← hdn]; exact this, TT.out, fun y hy => by cases hy; exact HW1.out⟩
def RbRel (w0 w : World) (k g n : Nat) (res : Option (List Int × List Nat)) (_v9 v33 : Value) (wr : World) : Prop :=
  ∃ (i : Nat) (done : List Int) (ri : List Nat), i ≤ n ∧ done.length = i ∧ v33 = .int .i64 i ∧ KR w0 k ri wr ∧ Blk .i64 2 wr g n (id done ++ List.replicate (n - i) 0) ∧ Touch (fun i => i = k) w wr ∧ putL done (getN unf (n - i) ri) = res
theorem make_i64 (n : Nat) (hm : n ≤ 16777216) : ∀ w, (Instr.makeSlice 25 (.int .u64 (n : Int)) (.int .u64 (n : Int))).run Try.prog w = .ok (.slice (some ⟨w.heap.size, 0, none⟩) n n) (w.alloc (.cells (madeCells #[Value.int .i64 0] n) 2)) := fun w => by
  obtain ⟨i0, hi, hz0, hz1, hz2⟩ := info_parts info2
  have hr := run_make (P := Try.prog) w 25 2 i0 (.int .i64 0) Try.underlying25 hi hz0 .u64 .u64 n n (by omega) (by omega) (by rw [hz2]; omega) (by omega)
  rw [hz1] at hr
  simpa [Value.cells] using hr
set_option maxRecDepth 100000 in
set_option maxHeartbeats 8000000 in
theorem kr_alls {w0 w : World} {k : Nat} {r : List Nat} (h : KR w0 k r w) :
    Calls Try.prog 72 #[.pointer (some ⟨k, 0, none⟩), .int .u64 1024, .func (.func 70) #[.pointer (some ⟨k, 0, none⟩)] #[]] w (KRl w0 k w .i64 id (getL unf 1024 r)) := by
  have HW := Lib.hid h.below.size
  have hkw : k < w.heap.size := by obtain ⟨⟨a, n, c, h1, _⟩, _⟩ := h; exact lt_of_block h1
  have hne : w.heap.size ≠ k := by omega
  have P := Lib.hid (kr_u (h.alloc (.cells #[.int .u64 0] 23)) (block_new w (.cells #[.int .u64 0] 23)) (o := 0) (by simp) hne (Nat.le_trans h.below.size (Nat.le_refl _)))
  have H := Lib.hid h
  unfold KRu at P
  unfold getL
  cases hg : gu r with
  | none =>
    rw [hg] at P
    clear h hg
    go_enter Try.func72, Try.ntmps72
    go_wp2_with fail
    refine (P.out).mono ?_; rintro e w1 ⟨rfl, hb⟩
    have B := Lib.hid hb; clear hb
    go_wp2_with fail
    exact ⟨rfl, krl_no B.out⟩
  | some p =>
    obtain ⟨n, m⟩ := p
    rw [hg] at P
    have hn64 := (gu_some h.bytes hg).1
    have hb := h.bytes
    clear h hg
    simp only []
    generalize hR : (if 1024 < n ∨ (r.drop m).length < n then none else getN unf n (r.drop m)) = R
    have HR := Lib.hid hR
    clear hR
    go_enter Try.func72, Try.ntmps72
    go_wp2_with fail
    refine (P.out).mono ?_; rintro e w1 ⟨rfl, hk, hc, ht⟩
    have K := Lib.hid hk
    have n0 : w1.cell? ⟨w.heap.size, 0, none⟩ = some (.int .u64 (n : Int)) := cell_of hc 0
    obtain ⟨a1, n1, c1, hk1, hS1, -⟩ := hk.row
    have k0 : w1.cell? ⟨k, 0, none⟩ = some (.slice a1 n1 c1) := cell_of hk1 0
    have hn1 := hS1.u8; have hc1 := hS1.hle; have hmx := hS1.hmax
    have T1 : Hid (Touch (fun i => i = k) w w1) := Lib.hid ((Touch.refl _ w).alloc (.cells #[.int .u64 0] 23) |>.trans' ht (fun i hi e => e.elim (fun e => absurd hi (by omega)) id))
    unfold maxLen at hmx
    clear hk hc ht hk1 hS1
    by_cases hbad : 1024 < n ∨ (r.drop m).length < n
    · have hR := HR.out
      rw [if_pos hbad] at hR
      subst hR
      clear HR
      have B := Lib.hid K.out.below
      by_cases h1 : 1024 < n
      · have e1 : decide ((1024 : Int) < (n : Int)) = true := by simp; omega
        have e2 : decide (1024 < n) = true := by simp; omega
        clear hbad hn1
        go_wp2_with fail
        go_quiet (fail)
        go_wp2_with fail
        exact ⟨rfl, krl_no (touch_drewN B.out _)⟩
      · have e1 : decide ((1024 : Int) < (n : Int)) = false := by simp; omega
        have e2 : decide (1024 < n) = false := by simp; omega
        have e3 : decide ((n1 : Int) < (n : Int)) = true := by simp; omega
        have e4 : decide (n1 < n) = true := by simp; omega
        clear hbad hn1
        go_wp2_with fail
        go_quiet (fail)
        go_wp2_with fail
        exact ⟨rfl, krl_no (touch_drewN B.out _)⟩
    · have hR := HR.out
      rw [if_neg hbad] at hR
      clear HR
      have HR := Lib.hid hR
      have HRL : Hid (n1 = (r.drop m).length) := Lib.hid hn1
      clear hR hn1
      have e1 : decide ((1024 : Int) < (n : Int)) = false := by simp; omega
      have e2 : decide (1024 < n) = false := by simp; omega
      have e3 : decide ((n1 : Int) < (n : Int)) = false := by have := HRL.out; simp; omega
      have e4 : decide (n1 < n) = false := by have := HRL.out; simp; omega
      have hn1k : n ≤ 1024 := by omega
      clear hbad
      by_cases hn0 : n = 0
      · subst hn0
        have hR := HR.out
        subst hR
        clear HR
        go_wp2_with fail
        go_quiet (fail)
        go_wp2_with fail
        go_ret
        exact ⟨none, 0, rfl, (K.out).drewN _, IsSl.nil _, T1.out.trans (Touch.of_below (below_drewN (Below.refl _ _) _) _), fun y h => by cases h⟩
      · have m1 := make_i64 n (by omega)
        obtain ⟨CI, hCI⟩ : ∃ C, C = madeCells #[Value.int .i64 0] n := ⟨_, rfl⟩
        rw [← hCI] at m1
        have HCI := Lib.hid hCI
        have e5 : ((n : Int) == 0) = false := by simp; omega
        have e6 : (n == 0) = false := by simp; omega
        have eE := ent70
        have HN0 := Lib.hid hn0
        have HW1 : Hid (w.heap.size ≤ w1.heap.size) := Lib.hid T1.out.size
        have HGK : Hid (w1.heap.size ≠ k) := Lib.hid (by have := HW1.out; omega)
        have HG0 : Hid (w0.heap.size ≤ w1.heap.size) := Lib.hid K.out.below.size
        clear hCI hn0
        go_wp2_with fail
        go_quiet (fail)
        go_wp2_with fail
        go_loopw [9, 33] (fun v9 v33 wr => RbRel w0 w k w1.heap.size n R v9 v33 wr) (fun _ v33 _ => n - (intOf v33).toNat)
        case atStart =>
          refine ⟨0, [], r.drop m, Nat.zero_le _, rfl, rfl, ((K.out).drewN _).alloc _, ?_, (T1.out.trans (Touch.of_below (below_drewN (Below.refl _ _) _) _)).alloc _, ?_⟩
          · rw [HCI.out]
            have := Blk.new (k := .i64) (e := 2) (w1.drewN nq) n (by unfold maxLen; omega)
            rw [drewN_heap] at this
            exact this
          · rw [putL_nil]; exact HR.out
        case round =>
          clear HCI HR K n0 k0 m1 e1 e2 e3 e4 e5 e6 HRL
          clear CI
          obtain ⟨i, done, ri, hi, hdl, rfl, hk, hblk, ht, hput⟩ := hrel
          have K := Lib.hid hk; have TT := Lib.hid ht; have PU := Lib.hid hput; have DL := Lib.hid hdl
          by_cases hlt : i < n
          · obtain ⟨q, hq⟩ : ∃ q, n - i = q + 1 := ⟨n - i - 1, by omega⟩
            have hq2 : n - (i + 1) = q := by omega
            have hml : (id done).length = i := by simp [id]; exact hdl
            rw [hq] at hblk PU
            obtain ⟨rest, q1, q2, q3⟩ := hblk
            have P2 := Lib.hid (kr_s hk q3 (o := i) (by rw [List.size_toArray, List.length_append, vs_len, List.length_append, hml, List.length_replicate]; omega) HGK.out HG0.out)
            have NB : Hid (∀ (w5 : World) (x : Int), w5.heap[w1.heap.size]? = some (.cells ((vs .i64 (id done ++ List.replicate (q + 1) 0) ++ rest).toArray.setIfInBounds i (.int .i64 x)) 2 (0, 0)) → Blk .i64 2 w5 w1.heap.size n ((id done ++ [x]) ++ List.replicate q 0)) := Lib.hid (fun w5 x h => by
              refine ⟨rest, ?_, q2, ?_⟩
              · rw [List.length_append, hml, List.length_replicate] at q1; rw [List.length_append, List.length_append, hml, List.length_replicate, List.length_singleton]; omega
              · rw [h, vs_set _ _ _ _ _ (by rw [List.length_append, hml, List.length_replicate]; omega), ← hml, set_next])
            have HQ := Lib.hid hq; have HQ2 := Lib.hid hq2
            clear hk ht hput hdl q1 q2 q3 hml hq hq2
            unfold KRu at P2
            cases hg : gu ri with
            | none =>
              rw [hg] at P2
              have hR := PU.out
              rw [getN_no hg] at hR
              subst hR
              clear PU hg NB
              go_wp2_with fail
              refine (P2.out).mono ?_; rintro e w5 ⟨rfl, hb5⟩
              have B5 := Lib.hid hb5; clear hb5
              go_wp2_with fail
              exact ⟨rfl, krl_no B5.out⟩
            | some p =>
              obtain ⟨x, mm⟩ := p
              rw [hg] at P2
              have hR := PU.out
              rw [getN_next hg, ← HQ2.out] at hR
              have PU2 := Lib.hid hR
              clear PU hR hg HQ
              go_wp2_with fail
              refine (P2.out).mono ?_; rintro e w5 ⟨rfl, hk5, hc5, ht5⟩
              have K5 := Lib.hid hk5
              have B5 := Lib.hid (NB.out _ _ hc5)
              have T5 : Hid (Touch (fun i => i = k) w w5) := Lib.hid (TT.out.trans' ht5 (fun i hi e => e.elim (fun e => absurd hi (by have := HW1.out; omega)) id))
              clear hk5 hc5 ht5
              go_wp2_with fail
              go_roundw
              case rel => exact ⟨i + 1, done ++ [unf x], ri.drop mm, by omega, by rw [List.length_append, DL.out]; rfl, by go_num, K5.out, by rw [HQ2.out]; exact B5.out, T5.out, PU2.out⟩
              case measure => simp [intOf]; omega
          · have hin : n = i := by omega
            have hR := PU.out
            have hmk : (id done).length = n := by simp [id]; omega
            rw [show n - i = 0 by omega] at hR hblk
            have BK : Hid (IsK .i64 wr (some ⟨w1.heap.size, 0, none⟩) n n (id done)) := Lib.hid (by
              rw [List.replicate_zero, List.append_nil] at hblk
              exact hblk.sl hmk.symm)
            have hR2 : some (done, ri) = R := by rw [← hR]; simp [putL, getN]
            subst hR2
            have HDN : Hid (n = done.length) := Lib.hid (by omega)
            clear hR PU hblk hmk hdl hk ht hput DL hin
            go_wp2_with fail
            go_ret
            have hdn := HDN.out
            exact ⟨_, n, ret_sl hdn, K.out, by have := BK.out; rw [← hdn]; exact this, TT.out, fun y hy => by cases hy; exact HW1.out⟩
def KRd (w0 : World) (k b o : Nat) (cs : Array Value) (t : TypeId) {α : Type} (ik : IntKind) (g : List α → List Int) (res : Option (List α × List Nat)) (e : Ending) (w' : World) : Prop := match res with
  | none => e = PN ∧ Touch (fun i => i = k) w0 w'
  | some (l, r') => ∃ a c, e = .returned (.tuple #[]) ∧ KR w0 k r' w' ∧ w'.heap[b]? = some (.cells (cs.setIfInBounds o (.slice a l.length c)) t (0, 0)) ∧ IsK ik w' a l.length c (g l) ∧ (∀ y, a = some y → w0.heap.size ≤ y.block)
theorem krd_no {w0 w' : World} {k b o : Nat} {cs : Array Value} {t : TypeId} {α : Type} {ik : IntKind} {g : List α → List Int} (h : Touch (fun i => i = k) w0 w') : KRd w0 k b o cs t ik g none PN w' := ⟨rfl, h⟩
set_option maxRecDepth 100000 in
theorem kr_d {w0 w : World} {k b o : Nat} {r : List Nat} {cs : Array Value} {t : TypeId} (h : KR w0 k r w) (hc : w.heap[b]? = some (.cells cs t (0, 0))) (ho : o < cs.size) (hne : b ≠ k) (hb : w0.heap.size ≤ b) :
    Calls Try.prog 69 #[.pointer (some ⟨k, 0, none⟩), .pointer (some ⟨b, o, none⟩)] w (KRd w0 k b o cs t .u64 ns (getL id 16384 r)) := by
  have P := Lib.hid (kr_all h)
  have hmf : ∀ (fn : Fn) (first cap : Array Value) (w : World), (Instr.makeFunc fn first cap).run Try.prog w = .ok (.func fn first cap) w := fun _ _ _ _ => rfl
  have HC := Lib.hid hc
  have HS0 := Lib.hid h.below.size
  have hbw := lt_of_block hc
  clear h hc
  generalize getL id 16384 r = R at *
  cases R with
  | none =>
    go_enter Try.func69, Try.ntmps69
    go_wp2_with fail
    refine (P.out).mono ?_; rintro e w1 ⟨rfl, hb⟩
    have B := Lib.hid hb; clear hb
    go_wp2_with fail
    exact ⟨rfl, krd_no B.out⟩
  | some p =>
    obtain ⟨l, r'⟩ := p
    have HNE : Hid (∀ (a : Option Addr) (w1 : World), (∀ y, a = some y → w.heap.size ≤ y.block) → ∀ x, a = some x → ¬ (x.block = b)) := Lib.hid (fun a w1 h x hx e => by have := h x hx; omega)
    go_enter Try.func69, Try.ntmps69
    go_wp2_with fail
    refine (P.out).mono ?_; rintro e w1 ⟨a, c, rfl, hk, hs, ht, hl⟩
    have K := Lib.hid hk; have S := Lib.hid hs; have LL := Lib.hid hl
    have hc1 := ht.keep HC.out hne
    have HC1 := Lib.hid hc1
    have b0 : w1.cell? ⟨b, o, none⟩ = some cs[o] := by rw [cell_of hc1]; simp [ho]
    have bf : w1.frozen? ⟨b, o, none⟩ = false := free_of hc1 o
    clear hk hs ht hl hc1
    go_wp2_with fail
    go_end0
    exact ⟨a, c, rfl, K.out.other (p := ⟨b, o, none⟩) hne hb _, set_of HC1.out o _, S.out.keep ((Touch.refl (fun i => i = b) w1).setCell (p := ⟨b, o, none⟩) (fun _ => rfl) _) (fun _ x hx e => HNE.out a w1 LL.out x hx e), fun y hy => Nat.le_trans HS0.out (LL.out y hy)⟩
set_option maxRecDepth 100000 in
theorem kr_b {w0 w : World} {k b o : Nat} {r : List Nat} {cs : Array Value} {t : TypeId} (h : KR w0 k r w) (hc : w.heap[b]? = some (.cells cs t (0, 0))) (ho : o < cs.size) (hne : b ≠ k) (hb : w0.heap.size ≤ b) :
    Calls Try.prog 68 #[.pointer (some ⟨k, 0, none⟩), .pointer (some ⟨b, o, none⟩)] w (KRd w0 k b o cs t .i64 id (getL unf 1024 r)) := by
  have P := Lib.hid (kr_alls h)
  have hmf : ∀ (fn : Fn) (first cap : Array Value) (w : World), (Instr.makeFunc fn first cap).run Try.prog w = .ok (.func fn first cap) w := fun _ _ _ _ => rfl
  have HC := Lib.hid hc
  have HS0 := Lib.hid h.below.size
  have hbw := lt_of_block hc
  clear h hc
  generalize getL unf 1024 r = R at *
  cases R with
  | none =>
    go_enter Try.func68, Try.ntmps68
    go_wp2_with fail
    refine (P.out).mono ?_; rintro e w1 ⟨rfl, hb⟩
    have B := Lib.hid hb; clear hb
    go_wp2_with fail
    exact ⟨rfl, krd_no B.out⟩
  | some p =>
    obtain ⟨l, r'⟩ := p
    have HNE : Hid (∀ (a : Option Addr) (w1 : World), (∀ y, a = some y → w.heap.size ≤ y.block) → ∀ x, a = some x → ¬ (x.block = b)) := Lib.hid (fun a w1 h x hx e => by have := h x hx; omega)
    go_enter Try.func68, Try.ntmps68
    go_wp2_with fail
    refine (P.out).mono ?_; rintro e w1 ⟨a, c, rfl, hk, hs, ht, hl⟩
    have K := Lib.hid hk; have S := Lib.hid hs; have LL := Lib.hid hl
    have hc1 := ht.keep HC.out hne
    have HC1 := Lib.hid hc1
    have b0 : w1.cell? ⟨b, o, none⟩ = some cs[o] := by rw [cell_of hc1]; simp [ho]
    have bf : w1.frozen? ⟨b, o, none⟩ = false := free_of hc1 o
    clear hk hs ht hl hc1
    go_wp2_with fail
    go_end0
    exact ⟨a, c, rfl, K.out.other (p := ⟨b, o, none⟩) hne hb _, set_of HC1.out o _, S.out.keep ((Touch.refl (fun i => i = b) w1).setCell (p := ⟨b, o, none⟩) (fun _ => rfl) _) (fun _ x hx e => HNE.out a w1 LL.out x hx e), fun y hy => Nat.le_trans HS0.out (LL.out y hy)⟩
end Go.Proofs.Ythnoihdojinocaa

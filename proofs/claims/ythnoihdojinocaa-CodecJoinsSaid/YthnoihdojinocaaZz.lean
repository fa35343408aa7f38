/- Get of both, with the stronger summary: the lists that come back lie in fresh blocks. -/
import Derived.Test.YthnoihdojinocaaZj
namespace Go.Proofs.Ythnoihdojinocaa
open Go.ChangeShapes Go.WideShapes Go.ChangeAt Go.RowKit
set_option linter.unusedVariables false
set_option linter.unusedSimpArgs false

def GetF (w : World) (v : Cm × Nat × Int) (e : Ending) (w' : World) : Prop :=
  ∃ ad cd ab cb, e = .returned (.tuple #[.agg (cmV v.1 (.slice ad v.1.d.length cd) (.slice ab v.1.b.length cb)), .int .i64 v.2.1, .int .i64 v.2.2]) ∧ LsAt w' v.1 ad cd ab cb ∧ Below w.heap.size w w' ∧ (∀ y, ad = some y → w.heap.size ≤ y.block) ∧ (∀ y, ab = some y → w.heap.size ≤ y.block)
theorem get_noF {w w' : World} (h : Below w.heap.size w w') : GetF w (getV none) (.returned (.tuple #[.agg #[.int .i64 0, .int .u64 0, .int .u64 0, .int .i64 0, .int .i64 0, .slice none 0 0, .slice none 0 0], .int .i64 0, .int .i64 15])) w' := ⟨none, 0, none, 0, rfl, ⟨IsSl.nil _, IsSl.nil _⟩, h, (fun _ hy => by cases hy), (fun _ hy => by cases hy)⟩
theorem get_yesF {w w' : World} {cm : Cm} {m l : Nat} {ad ab : Option Addr} {cd cb : Nat} (hl : LsAt w' cm ad cd ab cb) (h : Below w.heap.size w w') (h1 : ∀ y, ad = some y → w.heap.size ≤ y.block) (h2 : ∀ y, ab = some y → w.heap.size ≤ y.block) :
    GetF w (getV (some (cm, m + l))) (.returned (.tuple #[.agg #[.int .i64 cm.op, .int .u64 cm.u, .int .u64 cm.v, .int .i64 cm.w, .int .i64 cm.t, .slice ad cm.d.length cd, .slice ab cm.b.length cb], .int .i64 ((m : Int) + (l : Int)), .int .i64 0])) w' := ⟨ad, cd, ab, cb, by simp [getV, cmV], hl, h, h1, h2⟩
set_option maxRecDepth 100000 in
set_option maxHeartbeats 8000000 in
theorem pgetF_1 {w : World} {a : Option Addr} {n c : Nat} {b : List Nat} (h : IsK .u8 w a n c (ns b)) (hb : By b) (hg : gu b = none) :
    Calls Try.prog 21 #[.slice a n c] w (GetF w (getV none)) := by
  have A : Hid (Below w.heap.size w (((w.alloc (.cells #[.int .i64 0, .int .u64 0, .int .u64 0, .int .i64 0, .int .i64 0, .slice none 0 0, .slice none 0 0] 27)).alloc (.cells #[.int .i64 0] 3)).alloc (.cells #[.int .i64 0] 30))) := Lib.hid (((Below.alloc (Below.refl _ _) (Nat.le_refl _) _).alloc (by simp) _).alloc (by simp; omega) _)
  have P := Lib.hid (pgu (h.below A.out) hb)
  rw [hg] at P
  have hmf : ∀ (fn : Fn) (first cap : Array Value) (w : World), (Instr.makeFunc fn first cap).run Try.prog w = .ok (.func fn first cap) w := fun _ _ _ _ => rfl
  have A2 : Hid (Below w.heap.size w (((w.alloc (.cells #[.int .i64 0, .int .u64 0, .int .u64 0, .int .i64 0, .int .i64 0, .slice none 0 0, .slice none 0 0] 27)).alloc (.cells #[.int .i64 0] 3)).alloc (.cells #[.int .i64 15] 30))) := Lib.hid (((Below.alloc (Below.refl _ _) (Nat.le_refl _) _).alloc (by simp) _).alloc (by simp; omega) _)
  clear h hb hg A
  go_enter_defers Try.func21, Try.ntmps21
  go_wp2_with fail
  refine (P.out).mono ?_; rintro e w1 ⟨rfl, rfl⟩
  unfold guV
  go_wp2_with fail
  refine leaves_cons (f := 42) (args := #[.pointer (some ⟨w.heap.size, 0, none⟩), .pointer (some ⟨w.heap.size + 1, 0, none⟩), .pointer (some ⟨w.heap.size + 1 + 1, 0, none⟩)]) (by simp) (by simp [go_sem]) ?_
  refine (catch_idle _ _ _ _).mono ?_
  rintro e u' w'' ⟨rfl, rfl, rfl⟩
  simp [Leaves, settle, results, Try.results21, go_sem]
  exact get_noF A2.out
set_option maxRecDepth 100000 in
set_option maxHeartbeats 8000000 in
theorem pgetF_2 {w : World} {a : Option Addr} {n c : Nat} {b : List Nat} (h : IsK .u8 w a n c (ns b)) (hb : By b) {l m : Nat} (hg : gu b = some (l, m)) (hl : b.length - m < l) :
    Calls Try.prog 21 #[.slice a n c] w (GetF w (getV none)) := by
  have A : Hid (Below w.heap.size w (((w.alloc (.cells #[.int .i64 0, .int .u64 0, .int .u64 0, .int .i64 0, .int .i64 0, .slice none 0 0, .slice none 0 0] 27)).alloc (.cells #[.int .i64 0] 3)).alloc (.cells #[.int .i64 0] 30))) := Lib.hid (((Below.alloc (Below.refl _ _) (Nat.le_refl _) _).alloc (by simp) _).alloc (by simp; omega) _)
  have P := Lib.hid (pgu (h.below A.out) hb)
  rw [hg] at P
  have hmf : ∀ (fn : Fn) (first cap : Array Value) (w : World), (Instr.makeFunc fn first cap).run Try.prog w = .ok (.func fn first cap) w := fun _ _ _ _ => rfl
  have A2 : Hid (Below w.heap.size w (((w.alloc (.cells #[.int .i64 0, .int .u64 0, .int .u64 0, .int .i64 0, .int .i64 0, .slice none 0 0, .slice none 0 0] 27)).alloc (.cells #[.int .i64 0] 3)).alloc (.cells #[.int .i64 15] 30))) := Lib.hid (((Below.alloc (Below.refl _ _) (Nat.le_refl _) _).alloc (by simp) _).alloc (by simp; omega) _)
  have hn := h.u8
  have hml := (gu_le hb hg).2.1
  have hl64 := (gu_some hb hg).1
  have hnc := h.hle; have hmx := h.hmax
  unfold maxLen at hmx
  have e1 : decide ((n : Int) - (m : Int) < (l : Int)) = true := by simp; omega
  have hmn : m ≤ n := by omega
  have hsub : ((n - m : Nat) : Int) = (n : Int) - (m : Int) := by omega
  clear h hb hg A hn hml
  go_enter_defers Try.func21, Try.ntmps21
  go_wp2_with fail
  refine (P.out).mono ?_; rintro e w1 ⟨rfl, rfl⟩
  unfold guV
  go_wp2_with fail
  refine leaves_cons (f := 42) (args := #[.pointer (some ⟨w.heap.size, 0, none⟩), .pointer (some ⟨w.heap.size + 1, 0, none⟩), .pointer (some ⟨w.heap.size + 1 + 1, 0, none⟩)]) (by simp) (by simp [go_sem]) ?_
  refine (catch_idle _ _ _ _).mono ?_
  rintro e u' w'' ⟨rfl, rfl, rfl⟩
  simp [Leaves, settle, results, Try.results21, go_sem]
  exact get_noF A2.out
set_option maxRecDepth 100000 in
set_option maxHeartbeats 8000000 in
theorem pgetF_3 {w : World} {a : Option Addr} {n c : Nat} {b : List Nat} (h : IsK .u8 w a n c (ns b)) (hb : By b) {l m : Nat} (hg : gu b = some (l, m)) (hl : ¬ b.length - m < l) (hcm : cmdOf ((b.drop m).take l) = none) :
    Calls Try.prog 21 #[.slice a n c] w (GetF w (getV (none))) := by
  have A : Hid (Below w.heap.size w (((w.alloc (.cells #[.int .i64 0, .int .u64 0, .int .u64 0, .int .i64 0, .int .i64 0, .slice none 0 0, .slice none 0 0] 27)).alloc (.cells #[.int .i64 0] 3)).alloc (.cells #[.int .i64 0] 30))) := Lib.hid (((Below.alloc (Below.refl _ _) (Nat.le_refl _) _).alloc (by simp) _).alloc (by simp; omega) _)
  have P := Lib.hid (pgu (h.below A.out) hb)
  rw [hg] at P
  have hmf : ∀ (fn : Fn) (first cap : Array Value) (w : World), (Instr.makeFunc fn first cap).run Try.prog w = .ok (.func fn first cap) w := fun _ _ _ _ => rfl
  have hn := h.u8
  have hml := (gu_le hb hg).2.1
  have hl64 := (gu_some hb hg).1
  have hnc := h.hle; have hmx := h.hmax
  unfold maxLen at hmx
  have e1 : decide ((n : Int) - (m : Int) < (l : Int)) = false := by simp; omega
  have hmn : m + l ≤ n := by omega
  have hmn1 : m ≤ n := by omega
  have hsub : ((n - m : Nat) : Int) = (n : Int) - (m : Int) := by omega
  have hs := run_lh Try.underlying29 size1 (a := a) (len := n) (cap := c) (l := (m : Int)) (h := (m : Int) + (l : Int)) (k := m) (m := m + l) rfl (by simp) (by omega) (by omega)
  rw [Nat.add_sub_cancel_left] at hs
  obtain ⟨W3, hW3⟩ : ∃ W, W = ((w.alloc (.cells #[.int .i64 0, .int .u64 0, .int .u64 0, .int .i64 0, .int .i64 0, .slice none 0 0, .slice none 0 0] 27)).alloc (.cells #[.int .i64 ((m : Int) + (l : Int))] 3)).alloc (.cells #[.int .i64 0] 30) := ⟨_, rfl⟩
  have HW3 := Lib.hid hW3
  have A3 : Hid (Below w.heap.size w W3) := Lib.hid (by rw [hW3]; exact ((Below.alloc (Below.refl _ _) (Nat.le_refl _) _).alloc (by simp) _).alloc (by simp; omega) _)
  have KN := Lib.hid (pcommand ((kr_new (h.below A3.out) hb hmn).drew))
  generalize part a m c 1 = pa at *
  clear h hb hg A hn hml hl hW3
  go_enter_defers Try.func21, Try.ntmps21
  go_wp2_with fail
  refine (P.out).mono ?_; rintro e w1 ⟨rfl, rfl⟩
  unfold guV
  go_wp2_with fail
  have hsz : W3.heap.size = w.heap.size + 1 + 1 + 1 := by rw [HW3.out]; simp
  have R0 : Hid (R3 w.heap.size #[.int .i64 0, .int .u64 0, .int .u64 0, .int .i64 0, .int .i64 0, .slice none 0 0, .slice none 0 0] ((m : Int) + (l : Int)) 0 W3) := Lib.hid (by
    rw [HW3.out]
    refine ⟨block_old (block_old (block_new _ _) _) _, block_old ?_ _, ?_⟩
    · have := block_new (w.alloc (.cells #[.int .i64 0, .int .u64 0, .int .u64 0, .int .i64 0, .int .i64 0, .slice none 0 0, .slice none 0 0] 27)) (.cells #[.int .i64 ((m : Int) + (l : Int))] 3)
      rwa [show (w.alloc (.cells #[.int .i64 0, .int .u64 0, .int .u64 0, .int .i64 0, .int .i64 0, .slice none 0 0, .slice none 0 0] 27)).heap.size = w.heap.size + 1 by simp] at this
    · have := block_new ((w.alloc (.cells #[.int .i64 0, .int .u64 0, .int .u64 0, .int .i64 0, .int .i64 0, .slice none 0 0, .slice none 0 0] 27)).alloc (.cells #[.int .i64 ((m : Int) + (l : Int))] 3)) (.cells #[.int .i64 0] 30)
      rwa [show ((w.alloc (.cells #[.int .i64 0, .int .u64 0, .int .u64 0, .int .i64 0, .int .i64 0, .slice none 0 0, .slice none 0 0] 27)).alloc (.cells #[.int .i64 ((m : Int) + (l : Int))] 3)).heap.size = w.heap.size + 2 by simp] at this)
  have HSZ := Lib.hid hsz
  rw [← HW3.out]
  rw [hsz] at KN
  clear P HW3
  have RR : Hid (∀ w', Touch (fun i => i = w.heap.size + 1 + 1 + 1) W3 w' → R3 w.heap.size #[.int .i64 0, .int .u64 0, .int .u64 0, .int .i64 0, .int .i64 0, .slice none 0 0, .slice none 0 0] ((m : Int) + (l : Int)) 0 w') := Lib.hid (fun w' ht => R0.out.keep ht (fun i hi e => by omega))
  have R4 := Lib.hid (RR.out (W3.alloc (.cells #[.slice pa l (c - m)] 67)) ((Touch.refl _ _).alloc _))
  have n4 : (W3.alloc (.cells #[.slice pa l (c - m)] 67)).cell? ⟨w.heap.size + 1, 0, none⟩ = some (.int .i64 ((m : Int) + (l : Int))) := cell_of R4.out.n 0
  generalize hW4 : W3.alloc (.cells #[.slice pa l (c - m)] 67) = W4 at *
  clear hW4 hsz
  rw [hcm] at KN
  clear hcm
  refine wp_region_any (by kernel_rfl) ?_
  try (change wpAny _ _ _ _ _ _ _ (World.drew _))
  refine wpAny_ready (rs := [0, 2]) (by kernel_rfl) (by simp) ?_
  refine AllReady.cons rfl (fun K hK => ?_) ?_
  · go_simp
    refine hK _ _ ?_; clear hK K
    refine wpAny_ready (rs := [1, 2]) (by kernel_rfl) (by simp) ?_
    refine AllReady.cons rfl (fun K hK => ?_) ?_
    · go_simp
      refine (KN.out).mono ?_; rintro e w2 ⟨rfl, ht⟩
      have R5 := Lib.hid (RR.out _ ht); have HT := Lib.hid ht; clear ht
      refine leaves_cons (f := 42) (args := #[.pointer (some ⟨w.heap.size, 0, none⟩), .pointer (some ⟨w.heap.size + 1, 0, none⟩), .pointer (some ⟨w.heap.size + 1 + 1, 0, none⟩)]) (by simp) (by simp [go_sem]) ?_
      refine (catch_panicking R5.out rfl 87 _ []).mono ?_
      rintro e u' w'' ⟨rfl, rfl, hr, ht2⟩
      have BB := Lib.hid (A3.out.trans (below_of HT.out ht2 HSZ.out))
      have q0 := cell_of hr.c 0
      have q1 := cell_of hr.c 1
      have q2 := cell_of hr.c 2
      have q3 := cell_of hr.c 3
      have q4 := cell_of hr.c 4
      have q5 := cell_of hr.c 5
      have q6 := cell_of hr.c 6
      have q7 := cell_of hr.n 0
      have q8 : w''.cell? ⟨w.heap.size + 1 + 1, 0, none⟩ = _ := cell_of hr.e 0
      simp only [zc] at q0 q1 q2 q3 q4 q5 q6
      clear hr ht2 n4
      simp [Leaves, settle, results, Try.results21, go_sem, q0, q1, q2, q3, q4, q5, q6, q7, q8]
      exact get_noF BB.out
    · refine AllReady.cons rfl (fun K hK => ?_) AllReady.nil
      go_simp
      refine hK _ _ ?_; clear hK K
      refine wpAny_ready (rs := [1]) (by kernel_rfl) (by simp) ?_
      refine AllReady.cons rfl (fun K hK => ?_) AllReady.nil
      go_simp
      refine (KN.out).mono ?_; rintro e w2 ⟨rfl, ht⟩
      have R5 := Lib.hid (RR.out _ ht); have HT := Lib.hid ht; clear ht
      refine leaves_cons (f := 42) (args := #[.pointer (some ⟨w.heap.size, 0, none⟩), .pointer (some ⟨w.heap.size + 1, 0, none⟩), .pointer (some ⟨w.heap.size + 1 + 1, 0, none⟩)]) (by simp) (by simp [go_sem]) ?_
      refine (catch_panicking R5.out rfl 87 _ []).mono ?_
      rintro e u' w'' ⟨rfl, rfl, hr, ht2⟩
      have BB := Lib.hid (A3.out.trans (below_of HT.out ht2 HSZ.out))
      have q0 := cell_of hr.c 0
      have q1 := cell_of hr.c 1
      have q2 := cell_of hr.c 2
      have q3 := cell_of hr.c 3
      have q4 := cell_of hr.c 4
      have q5 := cell_of hr.c 5
      have q6 := cell_of hr.c 6
      have q7 := cell_of hr.n 0
      have q8 : w''.cell? ⟨w.heap.size + 1 + 1, 0, none⟩ = _ := cell_of hr.e 0
      simp only [zc] at q0 q1 q2 q3 q4 q5 q6
      clear hr ht2 n4
      simp [Leaves, settle, results, Try.results21, go_sem, q0, q1, q2, q3, q4, q5, q6, q7, q8]
      exact get_noF BB.out
  · refine AllReady.cons rfl (fun K hK => ?_) AllReady.nil
    go_simp
    refine hK _ _ ?_; clear hK K
    refine wpAny_ready (rs := [0]) (by kernel_rfl) (by simp) ?_
    refine AllReady.cons rfl (fun K hK => ?_) AllReady.nil
    go_simp
    refine hK _ _ ?_; clear hK K
    refine wpAny_ready (rs := [1]) (by kernel_rfl) (by simp) ?_
    refine AllReady.cons rfl (fun K hK => ?_) AllReady.nil
    go_simp
    refine (KN.out).mono ?_; rintro e w2 ⟨rfl, ht⟩
    have R5 := Lib.hid (RR.out _ ht); have HT := Lib.hid ht; clear ht
    refine leaves_cons (f := 42) (args := #[.pointer (some ⟨w.heap.size, 0, none⟩), .pointer (some ⟨w.heap.size + 1, 0, none⟩), .pointer (some ⟨w.heap.size + 1 + 1, 0, none⟩)]) (by simp) (by simp [go_sem]) ?_
    refine (catch_panicking R5.out rfl 87 _ []).mono ?_
    rintro e u' w'' ⟨rfl, rfl, hr, ht2⟩
    have BB := Lib.hid (A3.out.trans (below_of HT.out ht2 HSZ.out))
    have q0 := cell_of hr.c 0
    have q1 := cell_of hr.c 1
    have q2 := cell_of hr.c 2
    have q3 := cell_of hr.c 3
    have q4 := cell_of hr.c 4
    have q5 := cell_of hr.c 5
    have q6 := cell_of hr.c 6
    have q7 := cell_of hr.n 0
    have q8 : w''.cell? ⟨w.heap.size + 1 + 1, 0, none⟩ = _ := cell_of hr.e 0
    simp only [zc] at q0 q1 q2 q3 q4 q5 q6
    clear hr ht2 n4
    simp [Leaves, settle, results, Try.results21, go_sem, q0, q1, q2, q3, q4, q5, q6, q7, q8]
    exact get_noF BB.out
set_option maxRecDepth 100000 in
set_option maxHeartbeats 8000000 in
theorem pgetF_4 {w : World} {a : Option Addr} {n c : Nat} {b : List Nat} (h : IsK .u8 w a n c (ns b)) (hb : By b) {l m : Nat} (hg : gu b = some (l, m)) (hl : ¬ b.length - m < l) {cm : Cm} (hcm : cmdOf ((b.drop m).take l) = some cm) :
    Calls Try.prog 21 #[.slice a n c] w (GetF w (getV (some (cm, m + l)))) := by
  have A : Hid (Below w.heap.size w (((w.alloc (.cells #[.int .i64 0, .int .u64 0, .int .u64 0, .int .i64 0, .int .i64 0, .slice none 0 0, .slice none 0 0] 27)).alloc (.cells #[.int .i64 0] 3)).alloc (.cells #[.int .i64 0] 30))) := Lib.hid (((Below.alloc (Below.refl _ _) (Nat.le_refl _) _).alloc (by simp) _).alloc (by simp; omega) _)
  have P := Lib.hid (pgu (h.below A.out) hb)
  rw [hg] at P
  have hmf : ∀ (fn : Fn) (first cap : Array Value) (w : World), (Instr.makeFunc fn first cap).run Try.prog w = .ok (.func fn first cap) w := fun _ _ _ _ => rfl
  have hn := h.u8
  have hml := (gu_le hb hg).2.1
  have hl64 := (gu_some hb hg).1
  have hnc := h.hle; have hmx := h.hmax
  unfold maxLen at hmx
  have e1 : decide ((n : Int) - (m : Int) < (l : Int)) = false := by simp; omega
  have hmn : m + l ≤ n := by omega
  have hmn1 : m ≤ n := by omega
  have hsub : ((n - m : Nat) : Int) = (n : Int) - (m : Int) := by omega
  have hs := run_lh Try.underlying29 size1 (a := a) (len := n) (cap := c) (l := (m : Int)) (h := (m : Int) + (l : Int)) (k := m) (m := m + l) rfl (by simp) (by omega) (by omega)
  rw [Nat.add_sub_cancel_left] at hs
  obtain ⟨W3, hW3⟩ : ∃ W, W = ((w.alloc (.cells #[.int .i64 0, .int .u64 0, .int .u64 0, .int .i64 0, .int .i64 0, .slice none 0 0, .slice none 0 0] 27)).alloc (.cells #[.int .i64 ((m : Int) + (l : Int))] 3)).alloc (.cells #[.int .i64 0] 30) := ⟨_, rfl⟩
  have HW3 := Lib.hid hW3
  have A3 : Hid (Below w.heap.size w W3) := Lib.hid (by rw [hW3]; exact ((Below.alloc (Below.refl _ _) (Nat.le_refl _) _).alloc (by simp) _).alloc (by simp; omega) _)
  have KN := Lib.hid (pcommand ((kr_new (h.below A3.out) hb hmn).drew))
  generalize part a m c 1 = pa at *
  clear h hb hg A hn hml hl hW3
  go_enter_defers Try.func21, Try.ntmps21
  go_wp2_with fail
  refine (P.out).mono ?_; rintro e w1 ⟨rfl, rfl⟩
  unfold guV
  go_wp2_with fail
  have hsz : W3.heap.size = w.heap.size + 1 + 1 + 1 := by rw [HW3.out]; simp
  have R0 : Hid (R3 w.heap.size #[.int .i64 0, .int .u64 0, .int .u64 0, .int .i64 0, .int .i64 0, .slice none 0 0, .slice none 0 0] ((m : Int) + (l : Int)) 0 W3) := Lib.hid (by
    rw [HW3.out]
    refine ⟨block_old (block_old (block_new _ _) _) _, block_old ?_ _, ?_⟩
    · have := block_new (w.alloc (.cells #[.int .i64 0, .int .u64 0, .int .u64 0, .int .i64 0, .int .i64 0, .slice none 0 0, .slice none 0 0] 27)) (.cells #[.int .i64 ((m : Int) + (l : Int))] 3)
      rwa [show (w.alloc (.cells #[.int .i64 0, .int .u64 0, .int .u64 0, .int .i64 0, .int .i64 0, .slice none 0 0, .slice none 0 0] 27)).heap.size = w.heap.size + 1 by simp] at this
    · have := block_new ((w.alloc (.cells #[.int .i64 0, .int .u64 0, .int .u64 0, .int .i64 0, .int .i64 0, .slice none 0 0, .slice none 0 0] 27)).alloc (.cells #[.int .i64 ((m : Int) + (l : Int))] 3)) (.cells #[.int .i64 0] 30)
      rwa [show ((w.alloc (.cells #[.int .i64 0, .int .u64 0, .int .u64 0, .int .i64 0, .int .i64 0, .slice none 0 0, .slice none 0 0] 27)).alloc (.cells #[.int .i64 ((m : Int) + (l : Int))] 3)).heap.size = w.heap.size + 2 by simp] at this)
  have HSZ := Lib.hid hsz
  rw [← HW3.out]
  rw [hsz] at KN
  clear P HW3
  have RR : Hid (∀ w', Touch (fun i => i = w.heap.size + 1 + 1 + 1) W3 w' → R3 w.heap.size #[.int .i64 0, .int .u64 0, .int .u64 0, .int .i64 0, .int .i64 0, .slice none 0 0, .slice none 0 0] ((m : Int) + (l : Int)) 0 w') := Lib.hid (fun w' ht => R0.out.keep ht (fun i hi e => by omega))
  have R4 := Lib.hid (RR.out (W3.alloc (.cells #[.slice pa l (c - m)] 67)) ((Touch.refl _ _).alloc _))
  have n4 : (W3.alloc (.cells #[.slice pa l (c - m)] 67)).cell? ⟨w.heap.size + 1, 0, none⟩ = some (.int .i64 ((m : Int) + (l : Int))) := cell_of R4.out.n 0
  generalize hW4 : W3.alloc (.cells #[.slice pa l (c - m)] 67) = W4 at *
  clear hW4 hsz
  rw [hcm] at KN
  clear hcm
  refine wp_region_any (by kernel_rfl) ?_
  try (change wpAny _ _ _ _ _ _ _ (World.drew _))
  refine wpAny_ready (rs := [0, 2]) (by kernel_rfl) (by simp) ?_
  refine AllReady.cons rfl (fun K hK => ?_) ?_
  · go_simp
    refine hK _ _ ?_; clear hK K
    refine wpAny_ready (rs := [1, 2]) (by kernel_rfl) (by simp) ?_
    refine AllReady.cons rfl (fun K hK => ?_) ?_
    · go_simp
      go_wp2_with (go_at_call 43; refine (KN.out).mono ?_; rintro e w2 ⟨ad, cd, ab, cb, rfl, hls, ht, hq1, hq2⟩; have r5 := RR.out _ ht; have n5 : w2.cell? ⟨w.heap.size + 1, 0, none⟩ = some (.int .i64 ((m : Int) + (l : Int))) := cell_of r5.n 0; have f5 : w2.frozen? ⟨w.heap.size + 1, 0, none⟩ = false := free_of r5.n 0; have e5 : w2.cell? ⟨w.heap.size + 1 + 1, 0, none⟩ = some (.int .i64 0) := cell_of r5.e 0; have ef5 : w2.frozen? ⟨w.heap.size + 1 + 1, 0, none⟩ = false := free_of r5.e 0; have cf5 : ∀ i, w2.frozen? ⟨w.heap.size, i, none⟩ = false := fun i => free_of r5.c i; have c50 : w2.cell? ⟨w.heap.size, 0, none⟩ = some (.int .i64 0) := cell_of r5.c 0; have c51 : w2.cell? ⟨w.heap.size, 1, none⟩ = some (.int .u64 0) := cell_of r5.c 1; have c52 : w2.cell? ⟨w.heap.size, 2, none⟩ = some (.int .u64 0) := cell_of r5.c 2; have c53 : w2.cell? ⟨w.heap.size, 3, none⟩ = some (.int .i64 0) := cell_of r5.c 3; have c54 : w2.cell? ⟨w.heap.size, 4, none⟩ = some (.int .i64 0) := cell_of r5.c 4; have c55 : w2.cell? ⟨w.heap.size, 5, none⟩ = some (.slice none 0 0) := cell_of r5.c 5; have c56 : w2.cell? ⟨w.heap.size, 6, none⟩ = some (.slice none 0 0) := cell_of r5.c 6; have R5 := Lib.hid r5; have LS := Lib.hid hls; have HT := Lib.hid ht; have Q1 := Lib.hid hq1; have Q2 := Lib.hid hq2; clear r5 hls ht hq1 hq2; unfold cmV)
      try (refine hK _ _ ?_; clear hK K)
      refine wpAny_ready (rs := [2, 3]) (by kernel_rfl) (by simp) ?_
      refine AllReady.cons rfl (fun K hK => ?_) ?_
      · go_simp
        refine hK _ _ ?_; clear hK K
        refine wpAny_ready (rs := [3]) (by kernel_rfl) (by simp) ?_
        refine AllReady.cons rfl (fun K hK => ?_) AllReady.nil
        go_simp
        refine hK _ _ ?_; clear hK K
        refine wpAny_ready (rs := [4]) (by kernel_rfl) (by simp) ?_
        refine AllReady.cons rfl (fun K hK => ?_) AllReady.nil
        go_simp
        refine hK _ _ ?_; clear hK K
        refine wpAny_ready (rs := [5]) (by kernel_rfl) (by simp) ?_
        refine AllReady.cons rfl (fun K hK => ?_) AllReady.nil
        go_simp
        refine hK _ _ ?_; clear hK K
        refine wpAny_done (by kernel_rfl) ?_ _
        go_wp2_with fail
        refine leaves_cons (f := 42) (args := #[.pointer (some ⟨w.heap.size, 0, none⟩), .pointer (some ⟨w.heap.size + 1, 0, none⟩), .pointer (some ⟨w.heap.size + 1 + 1, 0, none⟩)]) (by simp) (by simp [go_sem]) ?_
        refine (catch_idle _ _ _ _).mono ?_
        rintro e u' w'' ⟨rfl, rfl, rfl⟩
        obtain ⟨hr, ht2⟩ := r3_zero' R5.out rfl (.int .i64 cm.op) (.int .u64 cm.u) (.int .u64 cm.v) (.int .i64 cm.w) (.int .i64 cm.t) (.slice ad cm.d.length cd) (.slice ab cm.b.length cb) ((m : Int) + (l : Int)) 0
        have BB := Lib.hid (A3.out.trans (below_of HT.out ht2 HSZ.out))
        have LL := Lib.hid (LS.out.keepT ht2 (fun y hy e => by have := Q1.out y hy; have := HSZ.out; unfold S3 at e; omega) (fun y hy e => by have := Q2.out y hy; have := HSZ.out; unfold S3 at e; omega))
        have q0 := cell_of hr.c 0
        have q1 := cell_of hr.c 1
        have q2 := cell_of hr.c 2
        have q3 := cell_of hr.c 3
        have q4 := cell_of hr.c 4
        have q5 := cell_of hr.c 5
        have q6 := cell_of hr.c 6
        have q7 := cell_of hr.n 0
        have q8 := cell_e hr
        clear hr ht2 n4 n5 f5 e5 ef5 cf5 c50 c51 c52 c53 c54 c55 c56
        simp [Leaves, settle, results, Try.results21, go_sem, q0, q1, q2, q3, q4, q5, q6, q7, q8]
        exact get_yesF LL.out BB.out (fun y hy => by have := Q1.out y hy; have := HSZ.out; omega) (fun y hy => by have := Q2.out y hy; have := HSZ.out; omega)
      · refine AllReady.cons rfl (fun K hK => ?_) AllReady.nil
        go_simp
        refine hK _ _ ?_; clear hK K
        refine wpAny_ready (rs := [2]) (by kernel_rfl) (by simp) ?_
        refine AllReady.cons rfl (fun K hK => ?_) AllReady.nil
        go_simp
        refine hK _ _ ?_; clear hK K
        refine wpAny_ready (rs := [4]) (by kernel_rfl) (by simp) ?_
        refine AllReady.cons rfl (fun K hK => ?_) AllReady.nil
        go_simp
        refine hK _ _ ?_; clear hK K
        refine wpAny_ready (rs := [5]) (by kernel_rfl) (by simp) ?_
        refine AllReady.cons rfl (fun K hK => ?_) AllReady.nil
        go_simp
        refine hK _ _ ?_; clear hK K
        refine wpAny_done (by kernel_rfl) ?_ _
        go_wp2_with fail
        refine leaves_cons (f := 42) (args := #[.pointer (some ⟨w.heap.size, 0, none⟩), .pointer (some ⟨w.heap.size + 1, 0, none⟩), .pointer (some ⟨w.heap.size + 1 + 1, 0, none⟩)]) (by simp) (by simp [go_sem]) ?_
        refine (catch_idle _ _ _ _).mono ?_
        rintro e u' w'' ⟨rfl, rfl, rfl⟩
        obtain ⟨hr, ht2⟩ := r3_zero' R5.out rfl (.int .i64 cm.op) (.int .u64 cm.u) (.int .u64 cm.v) (.int .i64 cm.w) (.int .i64 cm.t) (.slice ad cm.d.length cd) (.slice ab cm.b.length cb) ((m : Int) + (l : Int)) 0
        have BB := Lib.hid (A3.out.trans (below_of HT.out ht2 HSZ.out))
        have LL := Lib.hid (LS.out.keepT ht2 (fun y hy e => by have := Q1.out y hy; have := HSZ.out; unfold S3 at e; omega) (fun y hy e => by have := Q2.out y hy; have := HSZ.out; unfold S3 at e; omega))
        have q0 := cell_of hr.c 0
        have q1 := cell_of hr.c 1
        have q2 := cell_of hr.c 2
        have q3 := cell_of hr.c 3
        have q4 := cell_of hr.c 4
        have q5 := cell_of hr.c 5
        have q6 := cell_of hr.c 6
        have q7 := cell_of hr.n 0
        have q8 := cell_e hr
        clear hr ht2 n4 n5 f5 e5 ef5 cf5 c50 c51 c52 c53 c54 c55 c56
        simp [Leaves, settle, results, Try.results21, go_sem, q0, q1, q2, q3, q4, q5, q6, q7, q8]
        exact get_yesF LL.out BB.out (fun y hy => by have := Q1.out y hy; have := HSZ.out; omega) (fun y hy => by have := Q2.out y hy; have := HSZ.out; omega)
    · refine AllReady.cons rfl (fun K hK => ?_) AllReady.nil
      go_simp
      refine hK _ _ ?_; clear hK K
      refine wpAny_ready (rs := [1]) (by kernel_rfl) (by simp) ?_
      refine AllReady.cons rfl (fun K hK => ?_) AllReady.nil
      go_simp
      go_wp2_with (go_at_call 43; refine (KN.out).mono ?_; rintro e w2 ⟨ad, cd, ab, cb, rfl, hls, ht, hq1, hq2⟩; have r5 := RR.out _ ht; have n5 : w2.cell? ⟨w.heap.size + 1, 0, none⟩ = some (.int .i64 ((m : Int) + (l : Int))) := cell_of r5.n 0; have f5 : w2.frozen? ⟨w.heap.size + 1, 0, none⟩ = false := free_of r5.n 0; have e5 : w2.cell? ⟨w.heap.size + 1 + 1, 0, none⟩ = some (.int .i64 0) := cell_of r5.e 0; have ef5 : w2.frozen? ⟨w.heap.size + 1 + 1, 0, none⟩ = false := free_of r5.e 0; have cf5 : ∀ i, w2.frozen? ⟨w.heap.size, i, none⟩ = false := fun i => free_of r5.c i; have c50 : w2.cell? ⟨w.heap.size, 0, none⟩ = some (.int .i64 0) := cell_of r5.c 0; have c51 : w2.cell? ⟨w.heap.size, 1, none⟩ = some (.int .u64 0) := cell_of r5.c 1; have c52 : w2.cell? ⟨w.heap.size, 2, none⟩ = some (.int .u64 0) := cell_of r5.c 2; have c53 : w2.cell? ⟨w.heap.size, 3, none⟩ = some (.int .i64 0) := cell_of r5.c 3; have c54 : w2.cell? ⟨w.heap.size, 4, none⟩ = some (.int .i64 0) := cell_of r5.c 4; have c55 : w2.cell? ⟨w.heap.size, 5, none⟩ = some (.slice none 0 0) := cell_of r5.c 5; have c56 : w2.cell? ⟨w.heap.size, 6, none⟩ = some (.slice none 0 0) := cell_of r5.c 6; have R5 := Lib.hid r5; have LS := Lib.hid hls; have HT := Lib.hid ht; have Q1 := Lib.hid hq1; have Q2 := Lib.hid hq2; clear r5 hls ht hq1 hq2; unfold cmV)
      try (refine hK _ _ ?_; clear hK K)
      refine wpAny_ready (rs := [3]) (by kernel_rfl) (by simp) ?_
      refine AllReady.cons rfl (fun K hK => ?_) AllReady.nil
      go_simp
      refine hK _ _ ?_; clear hK K
      refine wpAny_ready (rs := [4]) (by kernel_rfl) (by simp) ?_
      refine AllReady.cons rfl (fun K hK => ?_) AllReady.nil
      go_simp
      refine hK _ _ ?_; clear hK K
      refine wpAny_ready (rs := [5]) (by kernel_rfl) (by simp) ?_
      refine AllReady.cons rfl (fun K hK => ?_) AllReady.nil
      go_simp
      refine hK _ _ ?_; clear hK K
      refine wpAny_done (by kernel_rfl) ?_ _
      go_wp2_with fail
      refine leaves_cons (f := 42) (args := #[.pointer (some ⟨w.heap.size, 0, none⟩), .pointer (some ⟨w.heap.size + 1, 0, none⟩), .pointer (some ⟨w.heap.size + 1 + 1, 0, none⟩)]) (by simp) (by simp [go_sem]) ?_
      refine (catch_idle _ _ _ _).mono ?_
      rintro e u' w'' ⟨rfl, rfl, rfl⟩
      obtain ⟨hr, ht2⟩ := r3_zero' R5.out rfl (.int .i64 cm.op) (.int .u64 cm.u) (.int .u64 cm.v) (.int .i64 cm.w) (.int .i64 cm.t) (.slice ad cm.d.length cd) (.slice ab cm.b.length cb) ((m : Int) + (l : Int)) 0
      have BB := Lib.hid (A3.out.trans (below_of HT.out ht2 HSZ.out))
      have LL := Lib.hid (LS.out.keepT ht2 (fun y hy e => by have := Q1.out y hy; have := HSZ.out; unfold S3 at e; omega) (fun y hy e => by have := Q2.out y hy; have := HSZ.out; unfold S3 at e; omega))
      have q0 := cell_of hr.c 0
      have q1 := cell_of hr.c 1
      have q2 := cell_of hr.c 2
      have q3 := cell_of hr.c 3
      have q4 := cell_of hr.c 4
      have q5 := cell_of hr.c 5
      have q6 := cell_of hr.c 6
      have q7 := cell_of hr.n 0
      have q8 := cell_e hr
      clear hr ht2 n4 n5 f5 e5 ef5 cf5 c50 c51 c52 c53 c54 c55 c56
      simp [Leaves, settle, results, Try.results21, go_sem, q0, q1, q2, q3, q4, q5, q6, q7, q8]
      exact get_yesF LL.out BB.out (fun y hy => by have := Q1.out y hy; have := HSZ.out; omega) (fun y hy => by have := Q2.out y hy; have := HSZ.out; omega)
  · refine AllReady.cons rfl (fun K hK => ?_) AllReady.nil
    go_simp
    refine hK _ _ ?_; clear hK K
    refine wpAny_ready (rs := [0]) (by kernel_rfl) (by simp) ?_
    refine AllReady.cons rfl (fun K hK => ?_) AllReady.nil
    go_simp
    refine hK _ _ ?_; clear hK K
    refine wpAny_ready (rs := [1]) (by kernel_rfl) (by simp) ?_
    refine AllReady.cons rfl (fun K hK => ?_) AllReady.nil
    go_simp
    go_wp2_with (go_at_call 43; refine (KN.out).mono ?_; rintro e w2 ⟨ad, cd, ab, cb, rfl, hls, ht, hq1, hq2⟩; have r5 := RR.out _ ht; have n5 : w2.cell? ⟨w.heap.size + 1, 0, none⟩ = some (.int .i64 ((m : Int) + (l : Int))) := cell_of r5.n 0; have f5 : w2.frozen? ⟨w.heap.size + 1, 0, none⟩ = false := free_of r5.n 0; have e5 : w2.cell? ⟨w.heap.size + 1 + 1, 0, none⟩ = some (.int .i64 0) := cell_of r5.e 0; have ef5 : w2.frozen? ⟨w.heap.size + 1 + 1, 0, none⟩ = false := free_of r5.e 0; have cf5 : ∀ i, w2.frozen? ⟨w.heap.size, i, none⟩ = false := fun i => free_of r5.c i; have c50 : w2.cell? ⟨w.heap.size, 0, none⟩ = some (.int .i64 0) := cell_of r5.c 0; have c51 : w2.cell? ⟨w.heap.size, 1, none⟩ = some (.int .u64 0) := cell_of r5.c 1; have c52 : w2.cell? ⟨w.heap.size, 2, none⟩ = some (.int .u64 0) := cell_of r5.c 2; have c53 : w2.cell? ⟨w.heap.size, 3, none⟩ = some (.int .i64 0) := cell_of r5.c 3; have c54 : w2.cell? ⟨w.heap.size, 4, none⟩ = some (.int .i64 0) := cell_of r5.c 4; have c55 : w2.cell? ⟨w.heap.size, 5, none⟩ = some (.slice none 0 0) := cell_of r5.c 5; have c56 : w2.cell? ⟨w.heap.size, 6, none⟩ = some (.slice none 0 0) := cell_of r5.c 6; have R5 := Lib.hid r5; have LS := Lib.hid hls; have HT := Lib.hid ht; have Q1 := Lib.hid hq1; have Q2 := Lib.hid hq2; clear r5 hls ht hq1 hq2; unfold cmV)
    try (refine hK _ _ ?_; clear hK K)
    refine wpAny_ready (rs := [3]) (by kernel_rfl) (by simp) ?_
    refine AllReady.cons rfl (fun K hK => ?_) AllReady.nil
    go_simp
    refine hK _ _ ?_; clear hK K
    refine wpAny_ready (rs := [4]) (by kernel_rfl) (by simp) ?_
    refine AllReady.cons rfl (fun K hK => ?_) AllReady.nil
    go_simp
    refine hK _ _ ?_; clear hK K
    refine wpAny_ready (rs := [5]) (by kernel_rfl) (by simp) ?_
    refine AllReady.cons rfl (fun K hK => ?_) AllReady.nil
    go_simp
    refine hK _ _ ?_; clear hK K
    refine wpAny_done (by kernel_rfl) ?_ _
    go_wp2_with fail
    refine leaves_cons (f := 42) (args := #[.pointer (some ⟨w.heap.size, 0, none⟩), .pointer (some ⟨w.heap.size + 1, 0, none⟩), .pointer (some ⟨w.heap.size + 1 + 1, 0, none⟩)]) (by simp) (by simp [go_sem]) ?_
    refine (catch_idle _ _ _ _).mono ?_
    rintro e u' w'' ⟨rfl, rfl, rfl⟩
    obtain ⟨hr, ht2⟩ := r3_zero' R5.out rfl (.int .i64 cm.op) (.int .u64 cm.u) (.int .u64 cm.v) (.int .i64 cm.w) (.int .i64 cm.t) (.slice ad cm.d.length cd) (.slice ab cm.b.length cb) ((m : Int) + (l : Int)) 0
    have BB := Lib.hid (A3.out.trans (below_of HT.out ht2 HSZ.out))
    have LL := Lib.hid (LS.out.keepT ht2 (fun y hy e => by have := Q1.out y hy; have := HSZ.out; unfold S3 at e; omega) (fun y hy e => by have := Q2.out y hy; have := HSZ.out; unfold S3 at e; omega))
    have q0 := cell_of hr.c 0
    have q1 := cell_of hr.c 1
    have q2 := cell_of hr.c 2
    have q3 := cell_of hr.c 3
    have q4 := cell_of hr.c 4
    have q5 := cell_of hr.c 5
    have q6 := cell_of hr.c 6
    have q7 := cell_of hr.n 0
    have q8 := cell_e hr
    clear hr ht2 n4 n5 f5 e5 ef5 cf5 c50 c51 c52 c53 c54 c55 c56
    simp [Leaves, settle, results, Try.results21, go_sem, q0, q1, q2, q3, q4, q5, q6, q7, q8]
    exact get_yesF LL.out BB.out (fun y hy => by have := Q1.out y hy; have := HSZ.out; omega) (fun y hy => by have := Q2.out y hy; have := HSZ.out; omega)
set_option maxRecDepth 100000 in
set_option maxHeartbeats 8000000 in
theorem pgetF {w : World} {a : Option Addr} {n c : Nat} {b : List Nat} (h : IsK .u8 w a n c (ns b)) (hb : By b) : Calls Try.prog 21 #[.slice a n c] w (GetF w (getV (get b))) := by
  unfold get
  cases hg : gu b with
  | none => exact pgetF_1 h hb hg
  | some p =>
    obtain ⟨l, m⟩ := p
    simp only []
    by_cases hl : b.length - m < l
    · rw [if_pos hl]; exact pgetF_2 h hb hg hl
    · rw [if_neg hl]
      cases hcm : cmdOf ((b.drop m).take l) with
      | none => exact pgetF_3 h hb hg hl hcm
      | some cm => exact pgetF_4 h hb hg hl hcm
set_option maxRecDepth 100000 in
set_option maxHeartbeats 8000000 in
theorem rgetF_1 {w : World} {a : Option Addr} {n c : Nat} {b : List Nat} (h : IsK .u8 w a n c (ns b)) (hb : By b) (hg : gu b = none) :
    Calls Try.prog 22 #[.slice a n c] w (GetF w (getV none)) := by
  have A : Hid (Below w.heap.size w (w.alloc (.cells #[.int .i64 0, .int .u64 0, .int .u64 0, .int .i64 0, .int .i64 0, .slice none 0 0, .slice none 0 0] 27))) := Lib.hid (Below.alloc (Below.refl _ _) (Nat.le_refl _) _)
  have P := Lib.hid (rgu (h.below A.out) hb)
  rw [hg] at P
  clear h hb hg
  go_enter Try.func22, Try.ntmps22
  go_wp2_with fail
  refine (P.out).mono ?_; rintro e w1 ⟨rfl, rfl⟩
  unfold guV
  go_wp2_with fail
  refine bodyPost_ret (v := .tuple #[.agg #[.int .i64 0, .int .u64 0, .int .u64 0, .int .i64 0, .int .i64 0, .slice none 0 0, .slice none 0 0], .int .i64 0, .int .i64 15]) ?_ rfl ?_
  · simp [results, Try.results22, go_sem]
  · exact get_noF A.out
set_option maxRecDepth 100000 in
set_option maxHeartbeats 8000000 in
theorem rgetF_2 {w : World} {a : Option Addr} {n c : Nat} {b : List Nat} (h : IsK .u8 w a n c (ns b)) (hb : By b) {l m : Nat} (hg : gu b = some (l, m)) (hl : b.length - m < l) :
    Calls Try.prog 22 #[.slice a n c] w (GetF w (getV none)) := by
  have A : Hid (Below w.heap.size w (w.alloc (.cells #[.int .i64 0, .int .u64 0, .int .u64 0, .int .i64 0, .int .i64 0, .slice none 0 0, .slice none 0 0] 27))) := Lib.hid (Below.alloc (Below.refl _ _) (Nat.le_refl _) _)
  have P := Lib.hid (rgu (h.below A.out) hb)
  rw [hg] at P
  have hn := h.u8
  have hml := (gu_le hb hg).2.1
  have hl64 := (gu_some hb hg).1
  have hnc := h.hle; have hmx := h.hmax
  unfold maxLen at hmx
  have e1 : decide ((n : Int) - (m : Int) < (l : Int)) = true := by simp; omega
  have hmn : m ≤ n := by omega
  have hsub : ((n - m : Nat) : Int) = (n : Int) - (m : Int) := by omega
  clear h hb hg hn hml hl
  go_enter Try.func22, Try.ntmps22
  go_wp2_with fail
  refine (P.out).mono ?_; rintro e w1 ⟨rfl, rfl⟩
  unfold guV
  go_wp2_with fail
  refine bodyPost_ret (v := .tuple #[.agg #[.int .i64 0, .int .u64 0, .int .u64 0, .int .i64 0, .int .i64 0, .slice none 0 0, .slice none 0 0], .int .i64 0, .int .i64 15]) ?_ rfl ?_
  · simp [results, Try.results22, go_sem]
  · exact get_noF A.out
set_option maxRecDepth 100000 in
set_option maxHeartbeats 8000000 in
theorem rgetF_3 {w : World} {a : Option Addr} {n c : Nat} {b : List Nat} (h : IsK .u8 w a n c (ns b)) (hb : By b) (hbl : b.length ≤ 900000) {l m : Nat} (hg : gu b = some (l, m)) (hl : ¬ b.length - m < l) :
    Calls Try.prog 22 #[.slice a n c] w (GetF w (getV (match cmdOf ((b.drop m).take l) with | none => none | some c => some (c, m + l)))) := by
  obtain ⟨W1, hW1⟩ : ∃ W1, W1 = w.alloc (.cells #[.int .i64 0, .int .u64 0, .int .u64 0, .int .i64 0, .int .i64 0, .slice none 0 0, .slice none 0 0] 27) := ⟨_, rfl⟩
  have A : Hid (Below w.heap.size w W1) := Lib.hid (by rw [hW1]; exact Below.alloc (Below.refl _ _) (Nat.le_refl _) _)
  have HW1 := Lib.hid hW1
  have HQ : Hid (W1.heap[w.heap.size]? = some (.cells zc 27 (0, 0))) := Lib.hid (by rw [hW1]; exact block_new _ _)
  have HQ1 : Hid (w.heap.size < W1.heap.size) := Lib.hid (lt_of_block HQ.out)
  have P := Lib.hid (rgu (h.below A.out) hb)
  rw [hg] at P
  have hn := h.u8
  have hml := (gu_le hb hg).2.1
  have hl64 := (gu_some hb hg).1
  have hnc := h.hle; have hmx := h.hmax
  unfold maxLen at hmx
  have e1 : decide ((n : Int) - (m : Int) < (l : Int)) = false := by simp; omega
  have hmn : m + l ≤ n := by omega
  have hmn1 : m ≤ n := by omega
  have hsub : ((n - m : Nat) : Int) = (n : Int) - (m : Int) := by omega
  have hs := run_lh Try.underlying29 size1 (a := a) (len := n) (cap := c) (l := (m : Int)) (h := (m : Int) + (l : Int)) (k := m) (m := m + l) rfl (by simp) (by omega) (by omega)
  rw [Nat.add_sub_cancel_left] at hs
  have hS := (h.below A.out).part (l := m) (r := m + l) (m := c) (by omega) hmn (by omega) (Nat.le_refl _)
  rw [Nat.add_sub_cancel_left, show ((ns b).take (m + l)).drop m = ns ((b.drop m).take l) by rw [List.drop_take, Nat.add_sub_cancel_left]; simp [ns, List.map_drop, List.map_take]] at hS
  have CM := Lib.hid (rcommand hS ((hb.drop m).take l) (by simp; omega))
  generalize part a m c 1 = pa at *
  have hl' : l ≤ n := by omega
  have hn9 : n ≤ 900000 := by omega
  clear h hb hg hn hml hl hS hW1 hbl
  generalize cmdOf ((b.drop m).take l) = oc at *
  obtain ⟨V, hV⟩ : ∃ V, V = getV (match oc with | none => none | some c => some (c, m + l)) := ⟨_, rfl⟩
  rw [← hV]
  have HV := Lib.hid hV
  clear hV
  go_enter Try.func22, Try.ntmps22
  go_wp2_with fail
  rw [← HW1.out]
  refine (P.out).mono ?_; rintro e w1 ⟨rfl, rfl⟩
  unfold guV
  clear P
  go_wp2_with fail
  refine (CM.out).mono ?_; rintro e w2 ⟨cc, ad, cd, ab, cb, ok, rfl, hls, hb2, hl1, hl2, hok⟩
  have LQ := Lib.hid (And.intro hl1 hl2)
  clear hl1 hl2
  have LS := Lib.hid hls; have B2 := Lib.hid hb2; have OK := Lib.hid hok
  have hq2 := (hb2.block _ (lt_of_block HQ.out)).trans HQ.out
  have HQ2 := Lib.hid hq2
  have hqw := lt_of_block hq2
  have HQW := Lib.hid hqw
  have hnot : ∀ (x : Bool) (w : World), (Op.unary .not (.bool x)).run Try.prog w = .ok (.bool (!x)) w := fun _ _ => rfl
  clear hls hb2 hok hq2
  unfold cmV
  have AL := Lib.hid (Below.alloc (Below.refl w2.heap.size w2) (Nat.le_refl _) (.cells #[.int .i64 cc.op, .int .u64 cc.u, .int .u64 cc.v, .int .i64 cc.w, .int .i64 cc.t, .slice ad cc.d.length cd, .slice ab cc.b.length cb] 27))
  have LS3 := Lib.hid (LS.out.keep AL.out)
  have hn3 := block_new w2 (.cells #[.int .i64 cc.op, .int .u64 cc.u, .int .u64 cc.v, .int .i64 cc.w, .int .i64 cc.t, .slice ad cc.d.length cd, .slice ab cc.b.length cb] 27)
  have hq3 := block_old HQ2.out (.cells #[.int .i64 cc.op, .int .u64 cc.u, .int .u64 cc.v, .int .i64 cc.w, .int .i64 cc.t, .slice ad cc.d.length cd, .slice ab cc.b.length cb] 27)
  have hne : ¬ (w.heap.size = w2.heap.size) := by omega
  have hne2 : ¬ (w2.heap.size = w.heap.size) := by omega
  clear hqw
  cases ok
  · have HO := Lib.hid (rc_no OK.out)
    clear OK
    go_upto_region 5 with fail
    generalize w2.alloc (.cells #[.int .i64 cc.op, .int .u64 cc.u, .int .u64 cc.v, .int .i64 cc.w, .int .i64 cc.t, .slice ad cc.d.length cd, .slice ab cc.b.length cb] 27) = W3 at *
    generalize w2.heap.size = b8 at *
    have y0 : W3.cell? ⟨b8, 0, none⟩ = some (.int .i64 cc.op) := cell_of hn3 0
    have y1 : W3.cell? ⟨b8, 1, none⟩ = some (.int .u64 cc.u) := cell_of hn3 1
    have y2 : W3.cell? ⟨b8, 2, none⟩ = some (.int .u64 cc.v) := cell_of hn3 2
    have y3 : W3.cell? ⟨b8, 3, none⟩ = some (.int .i64 cc.w) := cell_of hn3 3
    have y4 : W3.cell? ⟨b8, 4, none⟩ = some (.int .i64 cc.t) := cell_of hn3 4
    have y5 : W3.cell? ⟨b8, 5, none⟩ = some (.slice ad cc.d.length cd) := cell_of hn3 5
    have y6 : W3.cell? ⟨b8, 6, none⟩ = some (.slice ab cc.b.length cb) := cell_of hn3 6
    have z0 : W3.cell? ⟨w.heap.size, 0, none⟩ = some (.int .i64 0) := cell_of hq3 0
    have z1 : W3.cell? ⟨w.heap.size, 1, none⟩ = some (.int .u64 0) := cell_of hq3 1
    have z2 : W3.cell? ⟨w.heap.size, 2, none⟩ = some (.int .u64 0) := cell_of hq3 2
    have z3 : W3.cell? ⟨w.heap.size, 3, none⟩ = some (.int .i64 0) := cell_of hq3 3
    have z4 : W3.cell? ⟨w.heap.size, 4, none⟩ = some (.int .i64 0) := cell_of hq3 4
    have z5 : W3.cell? ⟨w.heap.size, 5, none⟩ = some (.slice none 0 0) := cell_of hq3 5
    have z6 : W3.cell? ⟨w.heap.size, 6, none⟩ = some (.slice none 0 0) := cell_of hq3 6
    have qf : ∀ i, W3.frozen? ⟨w.heap.size, i, none⟩ = false := fun i => free_of hq3 i
    have HN3 := Lib.hid hn3; have HQ3 := Lib.hid hq3
    clear hn3 hq3
    go_wp2_with fail
    have h7 := set7 HQ3.out rfl (.int .i64 0) (.int .u64 0) (.int .u64 0) (.int .i64 0) (.int .i64 0) (.slice none 0 0) (.slice none 0 0)
    have t7 := touch7 W3 w.heap.size (.int .i64 0) (.int .u64 0) (.int .u64 0) (.int .i64 0) (.int .i64 0) (.slice none 0 0) (.slice none 0 0)
    have q0 := cell_of h7 0
    have q1 := cell_of h7 1
    have q2 := cell_of h7 2
    have q3 := cell_of h7 3
    have q4 := cell_of h7 4
    have q5 := cell_of h7 5
    have q6 := cell_of h7 6
    have T7 := Lib.hid t7
    refine bodyPost_ret (v := .tuple #[.agg #[.int .i64 0, .int .u64 0, .int .u64 0, .int .i64 0, .int .i64 0, .slice none 0 0, .slice none 0 0], .int .i64 0, .int .i64 15]) ?_ rfl ?_
    · clear h7 t7 y0 y1 y2 y3 y4 y5 y6 z0 z1 z2 z3 z4 z5 z6 qf
      simp [results, Try.results22, go_sem, q0, q1, q2, q3, q4, q5, q6]
    · rw [HV.out, HO.out]; exact get_noF (below_q A.out B2.out HQW.out AL.out T7.out)
  · have HO := Lib.hid (rc_yes OK.out)
    clear OK
    go_upto_region 5 with fail
    generalize w2.alloc (.cells #[.int .i64 cc.op, .int .u64 cc.u, .int .u64 cc.v, .int .i64 cc.w, .int .i64 cc.t, .slice ad cc.d.length cd, .slice ab cc.b.length cb] 27) = W3 at *
    generalize w2.heap.size = b8 at *
    have y0 : W3.cell? ⟨b8, 0, none⟩ = some (.int .i64 cc.op) := cell_of hn3 0
    have y1 : W3.cell? ⟨b8, 1, none⟩ = some (.int .u64 cc.u) := cell_of hn3 1
    have y2 : W3.cell? ⟨b8, 2, none⟩ = some (.int .u64 cc.v) := cell_of hn3 2
    have y3 : W3.cell? ⟨b8, 3, none⟩ = some (.int .i64 cc.w) := cell_of hn3 3
    have y4 : W3.cell? ⟨b8, 4, none⟩ = some (.int .i64 cc.t) := cell_of hn3 4
    have y5 : W3.cell? ⟨b8, 5, none⟩ = some (.slice ad cc.d.length cd) := cell_of hn3 5
    have y6 : W3.cell? ⟨b8, 6, none⟩ = some (.slice ab cc.b.length cb) := cell_of hn3 6
    have z0 : W3.cell? ⟨w.heap.size, 0, none⟩ = some (.int .i64 0) := cell_of hq3 0
    have z1 : W3.cell? ⟨w.heap.size, 1, none⟩ = some (.int .u64 0) := cell_of hq3 1
    have z2 : W3.cell? ⟨w.heap.size, 2, none⟩ = some (.int .u64 0) := cell_of hq3 2
    have z3 : W3.cell? ⟨w.heap.size, 3, none⟩ = some (.int .i64 0) := cell_of hq3 3
    have z4 : W3.cell? ⟨w.heap.size, 4, none⟩ = some (.int .i64 0) := cell_of hq3 4
    have z5 : W3.cell? ⟨w.heap.size, 5, none⟩ = some (.slice none 0 0) := cell_of hq3 5
    have z6 : W3.cell? ⟨w.heap.size, 6, none⟩ = some (.slice none 0 0) := cell_of hq3 6
    have qf : ∀ i, W3.frozen? ⟨w.heap.size, i, none⟩ = false := fun i => free_of hq3 i
    have HN3 := Lib.hid hn3; have HQ3 := Lib.hid hq3
    clear hn3 hq3
    go_wp2_with fail
    have h7 := set7 HQ3.out rfl (.int .i64 cc.op) (.int .u64 cc.u) (.int .u64 cc.v) (.int .i64 cc.w) (.int .i64 cc.t) (.slice ad cc.d.length cd) (.slice ab cc.b.length cb)
    have t7 := touch7 W3 w.heap.size (.int .i64 cc.op) (.int .u64 cc.u) (.int .u64 cc.v) (.int .i64 cc.w) (.int .i64 cc.t) (.slice ad cc.d.length cd) (.slice ab cc.b.length cb)
    have q0 := cell_of h7 0
    have q1 := cell_of h7 1
    have q2 := cell_of h7 2
    have q3 := cell_of h7 3
    have q4 := cell_of h7 4
    have q5 := cell_of h7 5
    have q6 := cell_of h7 6
    have T7 := Lib.hid t7
    refine bodyPost_ret (v := .tuple #[.agg #[.int .i64 cc.op, .int .u64 cc.u, .int .u64 cc.v, .int .i64 cc.w, .int .i64 cc.t, .slice ad cc.d.length cd, .slice ab cc.b.length cb], .int .i64 ((m : Int) + (l : Int)), .int .i64 0]) ?_ rfl ?_
    · clear h7 t7 y0 y1 y2 y3 y4 y5 y6 z0 z1 z2 z3 z4 z5 z6 qf
      simp [results, Try.results22, go_sem, q0, q1, q2, q3, q4, q5, q6]
    · rw [HV.out, HO.out]; exact get_yesF (LS3.out.keepT T7.out (fun y hy e => by have := LQ.out.1 y hy; have := HQ1.out; omega) (fun y hy e => by have := LQ.out.2 y hy; have := HQ1.out; omega)) (below_q A.out B2.out HQW.out AL.out T7.out) (fun y hy => by have := LQ.out.1 y hy; have := HQ1.out; omega) (fun y hy => by have := LQ.out.2 y hy; have := HQ1.out; omega)
set_option maxRecDepth 100000 in
set_option maxHeartbeats 8000000 in
theorem rgetF {w : World} {a : Option Addr} {n c : Nat} {b : List Nat} (h : IsK .u8 w a n c (ns b)) (hb : By b) (hbl : b.length ≤ 900000) : Calls Try.prog 22 #[.slice a n c] w (GetF w (getV (get b))) := by
  unfold get
  cases hg : gu b with
  | none => exact rgetF_1 h hb hg
  | some p =>
    obtain ⟨l, m⟩ := p
    simp only []
    by_cases hl : b.length - m < l
    · rw [if_pos hl]; exact rgetF_2 h hb hg hl
    · rw [if_neg hl]
      exact rgetF_3 h hb hbl hg hl
end Go.Proofs.Ythnoihdojinocaa

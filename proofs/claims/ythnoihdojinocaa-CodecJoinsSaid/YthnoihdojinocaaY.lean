/- The frame of a command is read by the program. -/
import Derived.Test.YthnoihdojinocaaX
import Derived.Recover
import Derived.RegionDies
namespace Go.Proofs.Ythnoihdojinocaa
open Go.ChangeShapes Go.WideShapes Go.ChangeAt Go.RowKit
set_option linter.unusedVariables false
set_option linter.unusedSimpArgs false

/-- Get's three results, in blocks g, g + 1, g + 2. -/
structure R3 (g : Nat) (cs : Array Value) (n e : Int) (w : World) : Prop where
  c : w.heap[g]? = some (.cells cs 27 (0, 0))
  n : w.heap[g + 1]? = some (.cells #[.int .i64 n] 3 (0, 0))
  e : w.heap[g + 2]? = some (.cells #[.int .i64 e] 30 (0, 0))
theorem R3.keep {g : Nat} {cs : Array Value} {n e : Int} {w w' : World} {S : Nat → Prop} (h : R3 g cs n e w) (ht : Touch S w w') (hs : ∀ i, i ≤ g + 2 → ¬ S i) : R3 g cs n e w' :=
  ⟨ht.keep h.c (hs _ (by omega)), ht.keep h.n (hs _ (by omega)), ht.keep h.e (hs _ (by omega))⟩
def S3 (g : Nat) : Nat → Prop := fun i => i = g ∨ i = g + 1 ∨ i = g + 2
theorem r3_zero {g : Nat} {cs : Array Value} {n e : Int} {w : World} (h : R3 g cs n e w) (hs : cs.size = 7) (v0 v1 v2 v3 v4 v5 v6 : Value) (n' e' : Int) :
    R3 g #[v0, v1, v2, v3, v4, v5, v6] n' e' (((((((((w.setCell ⟨g, 0, none⟩ v0).setCell ⟨g, 1, none⟩ v1).setCell ⟨g, 2, none⟩ v2).setCell ⟨g, 3, none⟩ v3).setCell ⟨g, 4, none⟩ v4).setCell ⟨g, 5, none⟩ v5).setCell ⟨g, 6, none⟩ v6).setCell ⟨g + 1, 0, none⟩ (.int .i64 n')).setCell ⟨g + 2, 0, none⟩ (.int .i64 e')) ∧
      Touch (S3 g) w (((((((((w.setCell ⟨g, 0, none⟩ v0).setCell ⟨g, 1, none⟩ v1).setCell ⟨g, 2, none⟩ v2).setCell ⟨g, 3, none⟩ v3).setCell ⟨g, 4, none⟩ v4).setCell ⟨g, 5, none⟩ v5).setCell ⟨g, 6, none⟩ v6).setCell ⟨g + 1, 0, none⟩ (.int .i64 n')).setCell ⟨g + 2, 0, none⟩ (.int .i64 e')) := by
  obtain ⟨h1, h2, h3⟩ := h
  have hcs : ∃ a b c d e f g, cs = #[a, b, c, d, e, f, g] := by
    obtain ⟨l⟩ := cs
    match l, hs with
    | [a, b, c, d, e, f, g], _ => exact ⟨a, b, c, d, e, f, g, rfl⟩
  obtain ⟨u0, u1, u2, u3, u4, u5, u6, rfl⟩ := hcs
  refine ⟨⟨?_, ?_, ?_⟩, ?_⟩
  · refine block_set (block_set (?_) (by simp) _) (by simp) _
    rw [set_of (set_of (set_of (set_of (set_of (set_of (set_of h1 0 v0) 1 v1) 2 v2) 3 v3) 4 v4) 5 v5) 6 v6]
    rfl
  · refine block_set ?_ (by simp) _
    rw [set_of (block_set (block_set (block_set (block_set (block_set (block_set (block_set h2 (by simp) _) (by simp) _) (by simp) _) (by simp) _) (by simp) _) (by simp) _) (by simp) _)]
    rfl
  · rw [set_of (block_set (block_set (block_set (block_set (block_set (block_set (block_set (block_set h3 (by simp) _) (by simp) _) (by simp) _) (by simp) _) (by simp) _) (by simp) _) (by simp) _) (by simp) _)]
    rfl
  · refine ((((((((Touch.refl (S3 g) w).setCell ?_ _).setCell ?_ _).setCell ?_ _).setCell ?_ _).setCell ?_ _).setCell ?_ _).setCell ?_ _ |>.setCell ?_ _).setCell ?_ _ <;> intro _ <;> simp [S3]
/-- Get's deferred closure, where Get panics. -/
theorem catch_panicking {g : Nat} {cs : Array Value} {n e : Int} {w : World} (h : R3 g cs n e w) (hs : cs.size = 7) (u : TypeId) (pv : Value) (older : List PanicEntry) :
    CallsD Try.prog 42 #[.pointer (some ⟨g, 0, none⟩), .pointer (some ⟨g + 1, 0, none⟩), .pointer (some ⟨g + 2, 0, none⟩)] (.panicking ({ v := .iface u pv, recovered := false } :: older)) w fun e u' w' =>
      e = .returned (.tuple #[]) ∧ u' = .panicking ({ v := .iface u pv, recovered := true } :: older) ∧ R3 g zc 0 15 w' ∧ Touch (S3 g) w w' := by
  have D := Lib.hid (r3_zero h hs)
  have c0 : w.cell? ⟨g, 0, none⟩ = some cs[0] := by rw [cell_of h.c]; simp [hs]
  have c1 : w.cell? ⟨g, 1, none⟩ = some cs[1] := by rw [cell_of h.c]; simp [hs]
  have c2 : w.cell? ⟨g, 2, none⟩ = some cs[2] := by rw [cell_of h.c]; simp [hs]
  have c3 : w.cell? ⟨g, 3, none⟩ = some cs[3] := by rw [cell_of h.c]; simp [hs]
  have c4 : w.cell? ⟨g, 4, none⟩ = some cs[4] := by rw [cell_of h.c]; simp [hs]
  have c5 : w.cell? ⟨g, 5, none⟩ = some cs[5] := by rw [cell_of h.c]; simp [hs]
  have c6 : w.cell? ⟨g, 6, none⟩ = some cs[6] := by rw [cell_of h.c]; simp [hs]
  have n0 : w.cell? ⟨g + 1, 0, none⟩ = some (.int .i64 n) := cell_of h.n 0
  have e0 : w.cell? ⟨g + 2, 0, none⟩ = some (.int .i64 e) := cell_of h.e 0
  have cf : ∀ i, w.frozen? ⟨g, i, none⟩ = false := fun i => free_of h.c i
  have nf : w.frozen? ⟨g + 1, 0, none⟩ = false := free_of h.n 0
  have ef : w.frozen? ⟨g + 2, 0, none⟩ = false := free_of h.e 0
  refine callsD_of_wpS Try.func42 rfl fun c₀ cs hu => ?_
  apply wpS_seq
  apply wpS_region
  simp [wpOpsS, go_sem, recoverD, hu, Try.ntmps42, Exit.thenS]
  refine wpS_cond (t := true) (by simp [Act.eval, Array.replicate]) ?_
  simp only [if_true]
  refine wpS_of_wp ?_
  clear h
  go_wp2_with fail
  obtain ⟨d1, d2⟩ := D.out (.int .i64 0) (.int .u64 0) (.int .u64 0) (.int .i64 0) (.int .i64 0) (.slice none 0 0) (.slice none 0 0) 0 15
  exact ⟨rfl, _, rfl, _, results_none rfl _ _ _, rfl, rfl, d1, d2⟩
theorem catch_idle (a b c : Value) (w : World) :
    CallsD Try.prog 42 #[a, b, c] .returning w fun e u' w' => e = .returned (.tuple #[]) ∧ u' = .returning ∧ w' = w := by
  refine callsD_of_wpS Try.func42 rfl fun c₀ cs hu => ?_
  apply wpS_seq
  apply wpS_region
  simp [wpOpsS, go_sem, recoverD, hu, Try.ntmps42, Exit.thenS]
  refine wpS_cond (t := false) (by simp [Act.eval, Array.replicate]) ?_
  simp only [Bool.false_eq_true, if_false]
  refine wpS_of_wp (wp_skip ?_)
  cases c₀
  simp_all [bodyPostS, results, Try.results42]
/-- What Get returns: a command, how many bytes it has, the error. -/
def getV : Option (Cm × Nat) → Cm × Nat × Int
  | none => (nul 0, 0, 15)
  | some (c, n) => (c, n, 0)
def GetR (w : World) (v : Cm × Nat × Int) (e : Ending) (w' : World) : Prop :=
  ∃ ad cd ab cb, e = .returned (.tuple #[.agg (cmV v.1 (.slice ad v.1.d.length cd) (.slice ab v.1.b.length cb)), .int .i64 v.2.1, .int .i64 v.2.2]) ∧ LsAt w' v.1 ad cd ab cb ∧ Below w.heap.size w w'
theorem get_no {w w' : World} (h : Below w.heap.size w w') : GetR w (getV none) (.returned (.tuple #[.agg #[.int .i64 0, .int .u64 0, .int .u64 0, .int .i64 0, .int .i64 0, .slice none 0 0, .slice none 0 0], .int .i64 0, .int .i64 15])) w' := ⟨none, 0, none, 0, rfl, ⟨IsSl.nil _, IsSl.nil _⟩, h⟩
set_option maxRecDepth 100000 in
set_option maxHeartbeats 8000000 in
theorem pget_1 {w : World} {a : Option Addr} {n c : Nat} {b : List Nat} (h : IsK .u8 w a n c (ns b)) (hb : By b) (hg : gu b = none) :
    Calls Try.prog 21 #[.slice a n c] w (GetR w (getV none)) := by
  have A : Hid (Below w.heap.size w (((w.alloc (.cells #[.int .i64 0, .int .u64 0, .int .u64 0, .int .i64 0, .int .i64 0, .slice none 0 0, .slice none 0 0] 27)).alloc (.cells #[.int .i64 0] 3)).alloc (.cells #[.int .i64 0] 30))) := Lib.hid (((Below.alloc (Below.refl _ _) (Nat.le_refl _) _).alloc (by simp) _).alloc (by simp; omega) _)
  have P := Lib.hid (pgu (h.below A.out) hb)
  rw [hg] at P
  have hmf : ∀ (fn : Fn) (first cap : Array Value) (w : World), (Instr.makeFunc fn first cap).run Try.prog w = .ok (.func fn first cap) w := fun _ _ _ _ => rfl
  have A2 : Hid (Below w.heap.size w (((w.alloc (.cells #[.int .i64 0, .int .u64 0, .int .u64 0, .int .i64 0, .int .i64 0, .slice none 0 0, .slice none 0 0] 27)).alloc (.cells #[.int .i64 0] 3)).alloc (.cells #[.int .i64 15] 30))) := Lib.hid (((Below.alloc (Below.refl _ _) (Nat.le_refl _) _).alloc (by simp) _).alloc (by simp; omega) _)
  clear h hb hg A
  go_enter_defers Try.func21, Try.ntmps21
  go_wp2_with fail
  refine (P.out).mono ?_; rintro e w1 ⟨rfl, rfl⟩
  unfold guV
  go_wp2_with fail
  refine leaves_cons (f := 42) (args := #[.pointer (some ⟨w.heap.size, 0, none⟩), .pointer (some ⟨w.heap.size + 1, 0, none⟩), .pointer (some ⟨w.heap.size + 1 + 1, 0, none⟩)]) (by simp) (by simp [go_sem]) ?_
  refine (catch_idle _ _ _ _).mono ?_
  rintro e u' w'' ⟨rfl, rfl, rfl⟩
  simp [Leaves, settle, results, Try.results21, go_sem]
  exact get_no A2.out
set_option maxRecDepth 100000 in
set_option maxHeartbeats 8000000 in
theorem pget_2 {w : World} {a : Option Addr} {n c : Nat} {b : List Nat} (h : IsK .u8 w a n c (ns b)) (hb : By b) {l m : Nat} (hg : gu b = some (l, m)) (hl : b.length - m < l) :
    Calls Try.prog 21 #[.slice a n c] w (GetR w (getV none)) := by
  have A : Hid (Below w.heap.size w (((w.alloc (.cells #[.int .i64 0, .int .u64 0, .int .u64 0, .int .i64 0, .int .i64 0, .slice none 0 0, .slice none 0 0] 27)).alloc (.cells #[.int .i64 0] 3)).alloc (.cells #[.int .i64 0] 30))) := Lib.hid (((Below.alloc (Below.refl _ _) (Nat.le_refl _) _).alloc (by simp) _).alloc (by simp; omega) _)
  have P := Lib.hid (pgu (h.below A.out) hb)
  rw [hg] at P
  have hmf : ∀ (fn : Fn) (first cap : Array Value) (w : World), (Instr.makeFunc fn first cap).run Try.prog w = .ok (.func fn first cap) w := fun _ _ _ _ => rfl
  have A2 : Hid (Below w.heap.size w (((w.alloc (.cells #[.int .i64 0, .int .u64 0, .int .u64 0, .int .i64 0, .int .i64 0, .slice none 0 0, .slice none 0 0] 27)).alloc (.cells #[.int .i64 0] 3)).alloc (.cells #[.int .i64 15] 30))) := Lib.hid (((Below.alloc (Below.refl _ _) (Nat.le_refl _) _).alloc (by simp) _).alloc (by simp; omega) _)
  have hn := h.u8
  have hml := (gu_le hb hg).2.1
  have hl64 := (gu_some hb hg).1
  have hnc := h.hle; have hmx := h.hmax
  unfold maxLen at hmx
  have e1 : decide ((n : Int) - (m : Int) < (l : Int)) = true := by simp; omega
  have hmn : m ≤ n := by omega
  have hsub : ((n - m : Nat) : Int) = (n : Int) - (m : Int) := by omega
  clear h hb hg A hn hml
  go_enter_defers Try.func21, Try.ntmps21
  go_wp2_with fail
  refine (P.out).mono ?_; rintro e w1 ⟨rfl, rfl⟩
  unfold guV
  go_wp2_with fail
  refine leaves_cons (f := 42) (args := #[.pointer (some ⟨w.heap.size, 0, none⟩), .pointer (some ⟨w.heap.size + 1, 0, none⟩), .pointer (some ⟨w.heap.size + 1 + 1, 0, none⟩)]) (by simp) (by simp [go_sem]) ?_
  refine (catch_idle _ _ _ _).mono ?_
  rintro e u' w'' ⟨rfl, rfl, rfl⟩
  simp [Leaves, settle, results, Try.results21, go_sem]
  exact get_no A2.out
theorem r3_zero' {g : Nat} {cs : Array Value} {n e : Int} {w : World} (h : R3 g cs n e w) (hs : cs.size = 7) (v0 v1 v2 v3 v4 v5 v6 : Value) (n' e' : Int) :
    R3 g #[v0, v1, v2, v3, v4, v5, v6] n' e' (((((((((w.setCell ⟨g, 0, none⟩ v0).setCell ⟨g, 1, none⟩ v1).setCell ⟨g, 2, none⟩ v2).setCell ⟨g, 3, none⟩ v3).setCell ⟨g, 4, none⟩ v4).setCell ⟨g, 5, none⟩ v5).setCell ⟨g, 6, none⟩ v6).setCell ⟨g + 1, 0, none⟩ (.int .i64 n')).setCell ⟨g + 1 + 1, 0, none⟩ (.int .i64 e')) ∧
      Touch (S3 g) w (((((((((w.setCell ⟨g, 0, none⟩ v0).setCell ⟨g, 1, none⟩ v1).setCell ⟨g, 2, none⟩ v2).setCell ⟨g, 3, none⟩ v3).setCell ⟨g, 4, none⟩ v4).setCell ⟨g, 5, none⟩ v5).setCell ⟨g, 6, none⟩ v6).setCell ⟨g + 1, 0, none⟩ (.int .i64 n')).setCell ⟨g + 1 + 1, 0, none⟩ (.int .i64 e')) := r3_zero h hs v0 v1 v2 v3 v4 v5 v6 n' e'
theorem cell_e {g : Nat} {cs : Array Value} {n e : Int} {w : World} (h : R3 g cs n e w) : w.cell? ⟨g + 1 + 1, 0, none⟩ = some (.int .i64 e) := cell_of h.e 0
theorem get_yes {w w' : World} {cm : Cm} {m l : Nat} {ad ab : Option Addr} {cd cb : Nat} (hl : LsAt w' cm ad cd ab cb) (h : Below w.heap.size w w') :
    GetR w (getV (some (cm, m + l))) (.returned (.tuple #[.agg #[.int .i64 cm.op, .int .u64 cm.u, .int .u64 cm.v, .int .i64 cm.w, .int .i64 cm.t, .slice ad cm.d.length cd, .slice ab cm.b.length cb], .int .i64 ((m : Int) + (l : Int)), .int .i64 0])) w' := ⟨ad, cd, ab, cb, by simp [getV, cmV], hl, h⟩
theorem below_of {g : Nat} {W3 w2 w3 : World} (h : Touch (fun i => i = g + 1 + 1 + 1) W3 w2) (k : Touch (S3 g) w2 w3) (hs : W3.heap.size = g + 1 + 1 + 1) : Below g W3 w3 := by
  have h1 : Touch (fun i => g ≤ i) W3 w2 := h.mono (fun i _ e => by omega)
  have k1 : Touch (fun i => g ≤ i) w2 w3 := k.mono (fun i _ e => by unfold S3 at e; omega)
  exact (h1.trans k1).below (by omega) (fun i hi e => by omega)
theorem kr_new {w : World} {a : Option Addr} {n c m l : Nat} {b : List Nat} (h : IsK .u8 w a n c (ns b)) (hb : By b) (hml : m + l ≤ n) :
    KR w w.heap.size ((b.drop m).take l) (w.alloc (.cells #[.slice (part a m c 1) l (c - m)] 67)) := by
  have hS := h.part (l := m) (r := m + l) (m := c) (by omega) hml (Nat.le_trans hml h.hle) (Nat.le_refl _)
  rw [Nat.add_sub_cancel_left] at hS
  refine ⟨⟨_, _, _, block_new _ _, ?_, fun hne y hy => ?_⟩, (Touch.refl _ _).alloc _, (hb.drop m).take l⟩
  · rw [show ns ((b.drop m).take l) = ((ns b).take (m + l)).drop m by rw [List.drop_take, Nat.add_sub_cancel_left]; simp [ns, List.map_drop, List.map_take]]
    exact hS
  · obtain ⟨x, hx, e⟩ := part_block hy
    have := h.blt (ns_ne (fun e => hne (by rw [e]; simp))) x hx
    omega
set_option maxRecDepth 100000 in
set_option maxHeartbeats 8000000 in
theorem pget_3 {w : World} {a : Option Addr} {n c : Nat} {b : List Nat} (h : IsK .u8 w a n c (ns b)) (hb : By b) {l m : Nat} (hg : gu b = some (l, m)) (hl : ¬ b.length - m < l) (hcm : cmdOf ((b.drop m).take l) = none) :
    Calls Try.prog 21 #[.slice a n c] w (GetR w (getV (none))) := by
  have A : Hid (Below w.heap.size w (((w.alloc (.cells #[.int .i64 0, .int .u64 0, .int .u64 0, .int .i64 0, .int .i64 0, .slice none 0 0, .slice none 0 0] 27)).alloc (.cells #[.int .i64 0] 3)).alloc (.cells #[.int .i64 0] 30))) := Lib.hid (((Below.alloc (Below.refl _ _) (Nat.le_refl _) _).alloc (by simp) _).alloc (by simp; omega) _)
  have P := Lib.hid (pgu (h.below A.out) hb)
  rw [hg] at P
  have hmf : ∀ (fn : Fn) (first cap : Array Value) (w : World), (Instr.makeFunc fn first cap).run Try.prog w = .ok (.func fn first cap) w := fun _ _ _ _ => rfl
  have hn := h.u8
  have hml := (gu_le hb hg).2.1
  have hl64 := (gu_some hb hg).1
  have hnc := h.hle; have hmx := h.hmax
  unfold maxLen at hmx
  have e1 : decide ((n : Int) - (m : Int) < (l : Int)) = false := by simp; omega
  have hmn : m + l ≤ n := by omega
  have hmn1 : m ≤ n := by omega
  have hsub : ((n - m : Nat) : Int) = (n : Int) - (m : Int) := by omega
  have hs := run_lh Try.underlying29 size1 (a := a) (len := n) (cap := c) (l := (m : Int)) (h := (m : Int) + (l : Int)) (k := m) (m := m + l) rfl (by simp) (by omega) (by omega)
  rw [Nat.add_sub_cancel_left] at hs
  obtain ⟨W3, hW3⟩ : ∃ W, W = ((w.alloc (.cells #[.int .i64 0, .int .u64 0, .int .u64 0, .int .i64 0, .int .i64 0, .slice none 0 0, .slice none 0 0] 27)).alloc (.cells #[.int .i64 ((m : Int) + (l : Int))] 3)).alloc (.cells #[.int .i64 0] 30) := ⟨_, rfl⟩
  have HW3 := Lib.hid hW3
  have A3 : Hid (Below w.heap.size w W3) := Lib.hid (by rw [hW3]; exact ((Below.alloc (Below.refl _ _) (Nat.le_refl _) _).alloc (by simp) _).alloc (by simp; omega) _)
  have KN := Lib.hid (pcommand ((kr_new (h.below A3.out) hb hmn).drew))
  generalize part a m c 1 = pa at *
  clear h hb hg A hn hml hl hW3
  go_enter_defers Try.func21, Try.ntmps21
  go_wp2_with fail
  refine (P.out).mono ?_; rintro e w1 ⟨rfl, rfl⟩
  unfold guV
  go_wp2_with fail
  have hsz : W3.heap.size = w.heap.size + 1 + 1 + 1 := by rw [HW3.out]; simp
  have R0 : Hid (R3 w.heap.size #[.int .i64 0, .int .u64 0, .int .u64 0, .int .i64 0, .int .i64 0, .slice none 0 0, .slice none 0 0] ((m : Int) + (l : Int)) 0 W3) := Lib.hid (by
    rw [HW3.out]
    refine ⟨block_old (block_old (block_new _ _) _) _, block_old ?_ _, ?_⟩
    · have := block_new (w.alloc (.cells #[.int .i64 0, .int .u64 0, .int .u64 0, .int .i64 0, .int .i64 0, .slice none 0 0, .slice none 0 0] 27)) (.cells #[.int .i64 ((m : Int) + (l : Int))] 3)
      rwa [show (w.alloc (.cells #[.int .i64 0, .int .u64 0, .int .u64 0, .int .i64 0, .int .i64 0, .slice none 0 0, .slice none 0 0] 27)).heap.size = w.heap.size + 1 by simp] at this
    · have := block_new ((w.alloc (.cells #[.int .i64 0, .int .u64 0, .int .u64 0, .int .i64 0, .int .i64 0, .slice none 0 0, .slice none 0 0] 27)).alloc (.cells #[.int .i64 ((m : Int) + (l : Int))] 3)) (.cells #[.int .i64 0] 30)
      rwa [show ((w.alloc (.cells #[.int .i64 0, .int .u64 0, .int .u64 0, .int .i64 0, .int .i64 0, .slice none 0 0, .slice none 0 0] 27)).alloc (.cells #[.int .i64 ((m : Int) + (l : Int))] 3)).heap.size = w.heap.size + 2 by simp] at this)
  have HSZ := Lib.hid hsz
  rw [← HW3.out]
  rw [hsz] at KN
  clear P HW3
  have RR : Hid (∀ w', Touch (fun i => i = w.heap.size + 1 + 1 + 1) W3 w' → R3 w.heap.size #[.int .i64 0, .int .u64 0, .int .u64 0, .int .i64 0, .int .i64 0, .slice none 0 0, .slice none 0 0] ((m : Int) + (l : Int)) 0 w') := Lib.hid (fun w' ht => R0.out.keep ht (fun i hi e => by omega))
  have R4 := Lib.hid (RR.out (W3.alloc (.cells #[.slice pa l (c - m)] 67)) ((Touch.refl _ _).alloc _))
  have n4 : (W3.alloc (.cells #[.slice pa l (c - m)] 67)).cell? ⟨w.heap.size + 1, 0, none⟩ = some (.int .i64 ((m : Int) + (l : Int))) := cell_of R4.out.n 0
  generalize hW4 : W3.alloc (.cells #[.slice pa l (c - m)] 67) = W4 at *
  clear hW4 hsz
  rw [hcm] at KN
  clear hcm
  refine wp_region_any (by kernel_rfl) ?_
  try (change wpAny _ _ _ _ _ _ _ (World.drew _))
  refine wpAny_ready (rs := [0, 2]) (by kernel_rfl) (by simp) ?_
  refine AllReady.cons rfl (fun K hK => ?_) ?_
  · go_simp
    refine hK _ _ ?_; clear hK K
    refine wpAny_ready (rs := [1, 2]) (by kernel_rfl) (by simp) ?_
    refine AllReady.cons rfl (fun K hK => ?_) ?_
    · go_simp
      refine (KN.out).mono ?_; rintro e w2 ⟨rfl, ht⟩
      have R5 := Lib.hid (RR.out _ ht); have HT := Lib.hid ht; clear ht
      refine leaves_cons (f := 42) (args := #[.pointer (some ⟨w.heap.size, 0, none⟩), .pointer (some ⟨w.heap.size + 1, 0, none⟩), .pointer (some ⟨w.heap.size + 1 + 1, 0, none⟩)]) (by simp) (by simp [go_sem]) ?_
      refine (catch_panicking R5.out rfl 87 _ []).mono ?_
      rintro e u' w'' ⟨rfl, rfl, hr, ht2⟩
      have BB := Lib.hid (A3.out.trans (below_of HT.out ht2 HSZ.out))
      have q0 := cell_of hr.c 0
      have q1 := cell_of hr.c 1
      have q2 := cell_of hr.c 2
      have q3 := cell_of hr.c 3
      have q4 := cell_of hr.c 4
      have q5 := cell_of hr.c 5
      have q6 := cell_of hr.c 6
      have q7 := cell_of hr.n 0
      have q8 : w''.cell? ⟨w.heap.size + 1 + 1, 0, none⟩ = _ := cell_of hr.e 0
      simp only [zc] at q0 q1 q2 q3 q4 q5 q6
      clear hr ht2 n4
      simp [Leaves, settle, results, Try.results21, go_sem, q0, q1, q2, q3, q4, q5, q6, q7, q8]
      exact get_no BB.out
    · refine AllReady.cons rfl (fun K hK => ?_) AllReady.nil
      go_simp
      refine hK _ _ ?_; clear hK K
      refine wpAny_ready (rs := [1]) (by kernel_rfl) (by simp) ?_
      refine AllReady.cons rfl (fun K hK => ?_) AllReady.nil
      go_simp
      refine (KN.out).mono ?_; rintro e w2 ⟨rfl, ht⟩
      have R5 := Lib.hid (RR.out _ ht); have HT := Lib.hid ht; clear ht
      refine leaves_cons (f := 42) (args := #[.pointer (some ⟨w.heap.size, 0, none⟩), .pointer (some ⟨w.heap.size + 1, 0, none⟩), .pointer (some ⟨w.heap.size + 1 + 1, 0, none⟩)]) (by simp) (by simp [go_sem]) ?_
      refine (catch_panicking R5.out rfl 87 _ []).mono ?_
      rintro e u' w'' ⟨rfl, rfl, hr, ht2⟩
      have BB := Lib.hid (A3.out.trans (below_of HT.out ht2 HSZ.out))
      have q0 := cell_of hr.c 0
      have q1 := cell_of hr.c 1
      have q2 := cell_of hr.c 2
      have q3 := cell_of hr.c 3
      have q4 := cell_of hr.c 4
      have q5 := cell_of hr.c 5
      have q6 := cell_of hr.c 6
      have q7 := cell_of hr.n 0
      have q8 : w''.cell? ⟨w.heap.size + 1 + 1, 0, none⟩ = _ := cell_of hr.e 0
      simp only [zc] at q0 q1 q2 q3 q4 q5 q6
      clear hr ht2 n4
      simp [Leaves, settle, results, Try.results21, go_sem, q0, q1, q2, q3, q4, q5, q6, q7, q8]
      exact get_no BB.out
  · refine AllReady.cons rfl (fun K hK => ?_) AllReady.nil
    go_simp
    refine hK _ _ ?_; clear hK K
    refine wpAny_ready (rs := [0]) (by kernel_rfl) (by simp) ?_
    refine AllReady.cons rfl (fun K hK => ?_) AllReady.nil
    go_simp
    refine hK _ _ ?_; clear hK K
    refine wpAny_ready (rs := [1]) (by kernel_rfl) (by simp) ?_
    refine AllReady.cons rfl (fun K hK => ?_) AllReady.nil
    go_simp
    refine (KN.out).mono ?_; rintro e w2 ⟨rfl, ht⟩
    have R5 := Lib.hid (RR.out _ ht); have HT := Lib.hid ht; clear ht
    refine leaves_cons (f := 42) (args := #[.pointer (some ⟨w.heap.size, 0, none⟩), .pointer (some ⟨w.heap.size + 1, 0, none⟩), .pointer (some ⟨w.heap.size + 1 + 1, 0, none⟩)]) (by simp) (by simp [go_sem]) ?_
    refine (catch_panicking R5.out rfl 87 _ []).mono ?_
    rintro e u' w'' ⟨rfl, rfl, hr, ht2⟩
    have BB := Lib.hid (A3.out.trans (below_of HT.out ht2 HSZ.out))
    have q0 := cell_of hr.c 0
    have q1 := cell_of hr.c 1
    have q2 := cell_of hr.c 2
    have q3 := cell_of hr.c 3
    have q4 := cell_of hr.c 4
    have q5 := cell_of hr.c 5
    have q6 := cell_of hr.c 6
    have q7 := cell_of hr.n 0
    have q8 : w''.cell? ⟨w.heap.size + 1 + 1, 0, none⟩ = _ := cell_of hr.e 0
    simp only [zc] at q0 q1 q2 q3 q4 q5 q6
    clear hr ht2 n4
    simp [Leaves, settle, results, Try.results21, go_sem, q0, q1, q2, q3, q4, q5, q6, q7, q8]
    exact get_no BB.out
set_option maxRecDepth 100000 in
set_option maxHeartbeats 8000000 in
theorem pget_4 {w : World} {a : Option Addr} {n c : Nat} {b : List Nat} (h : IsK .u8 w a n c (ns b)) (hb : By b) {l m : Nat} (hg : gu b = some (l, m)) (hl : ¬ b.length - m < l) {cm : Cm} (hcm : cmdOf ((b.drop m).take l) = some cm) :
    Calls Try.prog 21 #[.slice a n c] w (GetR w (getV (some (cm, m + l)))) := by
  have A : Hid (Below w.heap.size w (((w.alloc (.cells #[.int .i64 0, .int .u64 0, .int .u64 0, .int .i64 0, .int .i64 0, .slice none 0 0, .slice none 0 0] 27)).alloc (.cells #[.int .i64 0] 3)).alloc (.cells #[.int .i64 0] 30))) := Lib.hid (((Below.alloc (Below.refl _ _) (Nat.le_refl _) _).alloc (by simp) _).alloc (by simp; omega) _)
  have P := Lib.hid (pgu (h.below A.out) hb)
  rw [hg] at P
  have hmf : ∀ (fn : Fn) (first cap : Array Value) (w : World), (Instr.makeFunc fn first cap).run Try.prog w = .ok (.func fn first cap) w := fun _ _ _ _ => rfl
  have hn := h.u8
  have hml := (gu_le hb hg).2.1
  have hl64 := (gu_some hb hg).1
  have hnc := h.hle; have hmx := h.hmax
  unfold maxLen at hmx
  have e1 : decide ((n : Int) - (m : Int) < (l : Int)) = false := by simp; omega
  have hmn : m + l ≤ n := by omega
  have hmn1 : m ≤ n := by omega
  have hsub : ((n - m : Nat) : Int) = (n : Int) - (m : Int) := by omega
  have hs := run_lh Try.underlying29 size1 (a := a) (len := n) (cap := c) (l := (m : Int)) (h := (m : Int) + (l : Int)) (k := m) (m := m + l) rfl (by simp) (by omega) (by omega)
  rw [Nat.add_sub_cancel_left] at hs
  obtain ⟨W3, hW3⟩ : ∃ W, W = ((w.alloc (.cells #[.int .i64 0, .int .u64 0, .int .u64 0, .int .i64 0, .int .i64 0, .slice none 0 0, .slice none 0 0] 27)).alloc (.cells #[.int .i64 ((m : Int) + (l : Int))] 3)).alloc (.cells #[.int .i64 0] 30) := ⟨_, rfl⟩
  have HW3 := Lib.hid hW3
  have A3 : Hid (Below w.heap.size w W3) := Lib.hid (by rw [hW3]; exact ((Below.alloc (Below.refl _ _) (Nat.le_refl _) _).alloc (by simp) _).alloc (by simp; omega) _)
  have KN := Lib.hid (pcommand ((kr_new (h.below A3.out) hb hmn).drew))
  generalize part a m c 1 = pa at *
  clear h hb hg A hn hml hl hW3
  go_enter_defers Try.func21, Try.ntmps21
  go_wp2_with fail
  refine (P.out).mono ?_; rintro e w1 ⟨rfl, rfl⟩
  unfold guV
  go_wp2_with fail
  have hsz : W3.heap.size = w.heap.size + 1 + 1 + 1 := by rw [HW3.out]; simp
  have R0 : Hid (R3 w.heap.size #[.int .i64 0, .int .u64 0, .int .u64 0, .int .i64 0, .int .i64 0, .slice none 0 0, .slice none 0 0] ((m : Int) + (l : Int)) 0 W3) := Lib.hid (by
    rw [HW3.out]
    refine ⟨block_old (block_old (block_new _ _) _) _, block_old ?_ _, ?_⟩
    · have := block_new (w.alloc (.cells #[.int .i64 0, .int .u64 0, .int .u64 0, .int .i64 0, .int .i64 0, .slice none 0 0, .slice none 0 0] 27)) (.cells #[.int .i64 ((m : Int) + (l : Int))] 3)
      rwa [show (w.alloc (.cells #[.int .i64 0, .int .u64 0, .int .u64 0, .int .i64 0, .int .i64 0, .slice none 0 0, .slice none 0 0] 27)).heap.size = w.heap.size + 1 by simp] at this
    · have := block_new ((w.alloc (.cells #[.int .i64 0, .int .u64 0, .int .u64 0, .int .i64 0, .int .i64 0, .slice none 0 0, .slice none 0 0] 27)).alloc (.cells #[.int .i64 ((m : Int) + (l : Int))] 3)) (.cells #[.int .i64 0] 30)
      rwa [show ((w.alloc (.cells #[.int .i64 0, .int .u64 0, .int .u64 0, .int .i64 0, .int .i64 0, .slice none 0 0, .slice none 0 0] 27)).alloc (.cells #[.int .i64 ((m : Int) + (l : Int))] 3)).heap.size = w.heap.size + 2 by simp] at this)
  have HSZ := Lib.hid hsz
  rw [← HW3.out]
  rw [hsz] at KN
  clear P HW3
  have RR : Hid (∀ w', Touch (fun i => i = w.heap.size + 1 + 1 + 1) W3 w' → R3 w.heap.size #[.int .i64 0, .int .u64 0, .int .u64 0, .int .i64 0, .int .i64 0, .slice none 0 0, .slice none 0 0] ((m : Int) + (l : Int)) 0 w') := Lib.hid (fun w' ht => R0.out.keep ht (fun i hi e => by omega))
  have R4 := Lib.hid (RR.out (W3.alloc (.cells #[.slice pa l (c - m)] 67)) ((Touch.refl _ _).alloc _))
  have n4 : (W3.alloc (.cells #[.slice pa l (c - m)] 67)).cell? ⟨w.heap.size + 1, 0, none⟩ = some (.int .i64 ((m : Int) + (l : Int))) := cell_of R4.out.n 0
  generalize hW4 : W3.alloc (.cells #[.slice pa l (c - m)] 67) = W4 at *
  clear hW4 hsz
  rw [hcm] at KN
  clear hcm
  refine wp_region_any (by kernel_rfl) ?_
  try (change wpAny _ _ _ _ _ _ _ (World.drew _))
  refine wpAny_ready (rs := [0, 2]) (by kernel_rfl) (by simp) ?_
  refine AllReady.cons rfl (fun K hK => ?_) ?_
  · go_simp
    refine hK _ _ ?_; clear hK K
    refine wpAny_ready (rs := [1, 2]) (by kernel_rfl) (by simp) ?_
    refine AllReady.cons rfl (fun K hK => ?_) ?_
    · go_simp
      go_wp2_with (go_at_call 43; refine (KN.out).mono ?_; rintro e w2 ⟨ad, cd, ab, cb, rfl, hls, ht, hq1, hq2⟩; have r5 := RR.out _ ht; have n5 : w2.cell? ⟨w.heap.size + 1, 0, none⟩ = some (.int .i64 ((m : Int) + (l : Int))) := cell_of r5.n 0; have f5 : w2.frozen? ⟨w.heap.size + 1, 0, none⟩ = false := free_of r5.n 0; have e5 : w2.cell? ⟨w.heap.size + 1 + 1, 0, none⟩ = some (.int .i64 0) := cell_of r5.e 0; have ef5 : w2.frozen? ⟨w.heap.size + 1 + 1, 0, none⟩ = false := free_of r5.e 0; have cf5 : ∀ i, w2.frozen? ⟨w.heap.size, i, none⟩ = false := fun i => free_of r5.c i; have c50 : w2.cell? ⟨w.heap.size, 0, none⟩ = some (.int .i64 0) := cell_of r5.c 0; have c51 : w2.cell? ⟨w.heap.size, 1, none⟩ = some (.int .u64 0) := cell_of r5.c 1; have c52 : w2.cell? ⟨w.heap.size, 2, none⟩ = some (.int .u64 0) := cell_of r5.c 2; have c53 : w2.cell? ⟨w.heap.size, 3, none⟩ = some (.int .i64 0) := cell_of r5.c 3; have c54 : w2.cell? ⟨w.heap.size, 4, none⟩ = some (.int .i64 0) := cell_of r5.c 4; have c55 : w2.cell? ⟨w.heap.size, 5, none⟩ = some (.slice none 0 0) := cell_of r5.c 5; have c56 : w2.cell? ⟨w.heap.size, 6, none⟩ = some (.slice none 0 0) := cell_of r5.c 6; have R5 := Lib.hid r5; have LS := Lib.hid hls; have HT := Lib.hid ht; have Q1 := Lib.hid hq1; have Q2 := Lib.hid hq2; clear r5 hls ht hq1 hq2; unfold cmV)
      try (refine hK _ _ ?_; clear hK K)
      refine wpAny_ready (rs := [2, 3]) (by kernel_rfl) (by simp) ?_
      refine AllReady.cons rfl (fun K hK => ?_) ?_
      · go_simp
        refine hK _ _ ?_; clear hK K
        refine wpAny_ready (rs := [3]) (by kernel_rfl) (by simp) ?_
        refine AllReady.cons rfl (fun K hK => ?_) AllReady.nil
        go_simp
        refine hK _ _ ?_; clear hK K
        refine wpAny_ready (rs := [4]) (by kernel_rfl) (by simp) ?_
        refine AllReady.cons rfl (fun K hK => ?_) AllReady.nil
        go_simp
        refine hK _ _ ?_; clear hK K
        refine wpAny_ready (rs := [5]) (by kernel_rfl) (by simp) ?_
        refine AllReady.cons rfl (fun K hK => ?_) AllReady.nil
        go_simp
        refine hK _ _ ?_; clear hK K
        refine wpAny_done (by kernel_rfl) ?_ _
        go_wp2_with fail
        refine leaves_cons (f := 42) (args := #[.pointer (some ⟨w.heap.size, 0, none⟩), .pointer (some ⟨w.heap.size + 1, 0, none⟩), .pointer (some ⟨w.heap.size + 1 + 1, 0, none⟩)]) (by simp) (by simp [go_sem]) ?_
        refine (catch_idle _ _ _ _).mono ?_
        rintro e u' w'' ⟨rfl, rfl, rfl⟩
        obtain ⟨hr, ht2⟩ := r3_zero' R5.out rfl (.int .i64 cm.op) (.int .u64 cm.u) (.int .u64 cm.v) (.int .i64 cm.w) (.int .i64 cm.t) (.slice ad cm.d.length cd) (.slice ab cm.b.length cb) ((m : Int) + (l : Int)) 0
        have BB := Lib.hid (A3.out.trans (below_of HT.out ht2 HSZ.out))
        have LL := Lib.hid (LS.out.keepT ht2 (fun y hy e => by have := Q1.out y hy; have := HSZ.out; unfold S3 at e; omega) (fun y hy e => by have := Q2.out y hy; have := HSZ.out; unfold S3 at e; omega))
        have q0 := cell_of hr.c 0
        have q1 := cell_of hr.c 1
        have q2 := cell_of hr.c 2
        have q3 := cell_of hr.c 3
        have q4 := cell_of hr.c 4
        have q5 := cell_of hr.c 5
        have q6 := cell_of hr.c 6
        have q7 := cell_of hr.n 0
        have q8 := cell_e hr
        clear hr ht2 n4 n5 f5 e5 ef5 cf5 c50 c51 c52 c53 c54 c55 c56
        simp [Leaves, settle, results, Try.results21, go_sem, q0, q1, q2, q3, q4, q5, q6, q7, q8]
        exact get_yes LL.out BB.out
      · refine AllReady.cons rfl (fun K hK => ?_) AllReady.nil
        go_simp
        refine hK _ _ ?_; clear hK K
        refine wpAny_ready (rs := [2]) (by kernel_rfl) (by simp) ?_
        refine AllReady.cons rfl (fun K hK => ?_) AllReady.nil
        go_simp
        refine hK _ _ ?_; clear hK K
        refine wpAny_ready (rs := [4]) (by kernel_rfl) (by simp) ?_
        refine AllReady.cons rfl (fun K hK => ?_) AllReady.nil
        go_simp
        refine hK _ _ ?_; clear hK K
        refine wpAny_ready (rs := [5]) (by kernel_rfl) (by simp) ?_
        refine AllReady.cons rfl (fun K hK => ?_) AllReady.nil
        go_simp
        refine hK _ _ ?_; clear hK K
        refine wpAny_done (by kernel_rfl) ?_ _
        go_wp2_with fail
        refine leaves_cons (f := 42) (args := #[.pointer (some ⟨w.heap.size, 0, none⟩), .pointer (some ⟨w.heap.size + 1, 0, none⟩), .pointer (some ⟨w.heap.size + 1 + 1, 0, none⟩)]) (by simp) (by simp [go_sem]) ?_
        refine (catch_idle _ _ _ _).mono ?_
        rintro e u' w'' ⟨rfl, rfl, rfl⟩
        obtain ⟨hr, ht2⟩ := r3_zero' R5.out rfl (.int .i64 cm.op) (.int .u64 cm.u) (.int .u64 cm.v) (.int .i64 cm.w) (.int .i64 cm.t) (.slice ad cm.d.length cd) (.slice ab cm.b.length cb) ((m : Int) + (l : Int)) 0
        have BB := Lib.hid (A3.out.trans (below_of HT.out ht2 HSZ.out))
        have LL := Lib.hid (LS.out.keepT ht2 (fun y hy e => by have := Q1.out y hy; have := HSZ.out; unfold S3 at e; omega) (fun y hy e => by have := Q2.out y hy; have := HSZ.out; unfold S3 at e; omega))
        have q0 := cell_of hr.c 0
        have q1 := cell_of hr.c 1
        have q2 := cell_of hr.c 2
        have q3 := cell_of hr.c 3
        have q4 := cell_of hr.c 4
        have q5 := cell_of hr.c 5
        have q6 := cell_of hr.c 6
        have q7 := cell_of hr.n 0
        have q8 := cell_e hr
        clear hr ht2 n4 n5 f5 e5 ef5 cf5 c50 c51 c52 c53 c54 c55 c56
        simp [Leaves, settle, results, Try.results21, go_sem, q0, q1, q2, q3, q4, q5, q6, q7, q8]
        exact get_yes LL.out BB.out
    · refine AllReady.cons rfl (fun K hK => ?_) AllReady.nil
      go_simp
      refine hK _ _ ?_; clear hK K
      refine wpAny_ready (rs := [1]) (by kernel_rfl) (by simp) ?_
      refine AllReady.cons rfl (fun K hK => ?_) AllReady.nil
      go_simp
      go_wp2_with (go_at_call 43; refine (KN.out).mono ?_; rintro e w2 ⟨ad, cd, ab, cb, rfl, hls, ht, hq1, hq2⟩; have r5 := RR.out _ ht; have n5 : w2.cell? ⟨w.heap.size + 1, 0, none⟩ = some (.int .i64 ((m : Int) + (l : Int))) := cell_of r5.n 0; have f5 : w2.frozen? ⟨w.heap.size + 1, 0, none⟩ = false := free_of r5.n 0; have e5 : w2.cell? ⟨w.heap.size + 1 + 1, 0, none⟩ = some (.int .i64 0) := cell_of r5.e 0; have ef5 : w2.frozen? ⟨w.heap.size + 1 + 1, 0, none⟩ = false := free_of r5.e 0; have cf5 : ∀ i, w2.frozen? ⟨w.heap.size, i, none⟩ = false := fun i => free_of r5.c i; have c50 : w2.cell? ⟨w.heap.size, 0, none⟩ = some (.int .i64 0) := cell_of r5.c 0; have c51 : w2.cell? ⟨w.heap.size, 1, none⟩ = some (.int .u64 0) := cell_of r5.c 1; have c52 : w2.cell? ⟨w.heap.size, 2, none⟩ = some (.int .u64 0) := cell_of r5.c 2; have c53 : w2.cell? ⟨w.heap.size, 3, none⟩ = some (.int .i64 0) := cell_of r5.c 3; have c54 : w2.cell? ⟨w.heap.size, 4, none⟩ = some (.int .i64 0) := cell_of r5.c 4; have c55 : w2.cell? ⟨w.heap.size, 5, none⟩ = some (.slice none 0 0) := cell_of r5.c 5; have c56 : w2.cell? ⟨w.heap.size, 6, none⟩ = some (.slice none 0 0) := cell_of r5.c 6; have R5 := Lib.hid r5; have LS := Lib.hid hls; have HT := Lib.hid ht; have Q1 := Lib.hid hq1; have Q2 := Lib.hid hq2; clear r5 hls ht hq1 hq2; unfold cmV)
      try (refine hK _ _ ?_; clear hK K)
      refine wpAny_ready (rs := [3]) (by kernel_rfl) (by simp) ?_
      refine AllReady.cons rfl (fun K hK => ?_) AllReady.nil
      go_simp
      refine hK _ _ ?_; clear hK K
      refine wpAny_ready (rs := [4]) (by kernel_rfl) (by simp) ?_
      refine AllReady.cons rfl (fun K hK => ?_) AllReady.nil
      go_simp
      refine hK _ _ ?_; clear hK K
      refine wpAny_ready (rs := [5]) (by kernel_rfl) (by simp) ?_
      refine AllReady.cons rfl (fun K hK => ?_) AllReady.nil
      go_simp
      refine hK _ _ ?_; clear hK K
      refine wpAny_done (by kernel_rfl) ?_ _
      go_wp2_with fail
      refine leaves_cons (f := 42) (args := #[.pointer (some ⟨w.heap.size, 0, none⟩), .pointer (some ⟨w.heap.size + 1, 0, none⟩), .pointer (some ⟨w.heap.size + 1 + 1, 0, none⟩)]) (by simp) (by simp [go_sem]) ?_
      refine (catch_idle _ _ _ _).mono ?_
      rintro e u' w'' ⟨rfl, rfl, rfl⟩
      obtain ⟨hr, ht2⟩ := r3_zero' R5.out rfl (.int .i64 cm.op) (.int .u64 cm.u) (.int .u64 cm.v) (.int .i64 cm.w) (.int .i64 cm.t) (.slice ad cm.d.length cd) (.slice ab cm.b.length cb) ((m : Int) + (l : Int)) 0
      have BB := Lib.hid (A3.out.trans (below_of HT.out ht2 HSZ.out))
      have LL := Lib.hid (LS.out.keepT ht2 (fun y hy e => by have := Q1.out y hy; have := HSZ.out; unfold S3 at e; omega) (fun y hy e => by have := Q2.out y hy; have := HSZ.out; unfold S3 at e; omega))
      have q0 := cell_of hr.c 0
      have q1 := cell_of hr.c 1
      have q2 := cell_of hr.c 2
      have q3 := cell_of hr.c 3
      have q4 := cell_of hr.c 4
      have q5 := cell_of hr.c 5
      have q6 := cell_of hr.c 6
      have q7 := cell_of hr.n 0
      have q8 := cell_e hr
      clear hr ht2 n4 n5 f5 e5 ef5 cf5 c50 c51 c52 c53 c54 c55 c56
      simp [Leaves, settle, results, Try.results21, go_sem, q0, q1, q2, q3, q4, q5, q6, q7, q8]
      exact get_yes LL.out BB.out
  · refine AllReady.cons rfl (fun K hK => ?_) AllReady.nil
    go_simp
    refine hK _ _ ?_; clear hK K
    refine wpAny_ready (rs := [0]) (by kernel_rfl) (by simp) ?_
    refine AllReady.cons rfl (fun K hK => ?_) AllReady.nil
    go_simp
    refine hK _ _ ?_; clear hK K
    refine wpAny_ready (rs := [1]) (by kernel_rfl) (by simp) ?_
    refine AllReady.cons rfl (fun K hK => ?_) AllReady.nil
    go_simp
    go_wp2_with (go_at_call 43; refine (KN.out).mono ?_; rintro e w2 ⟨ad, cd, ab, cb, rfl, hls, ht, hq1, hq2⟩; have r5 := RR.out _ ht; have n5 : w2.cell? ⟨w.heap.size + 1, 0, none⟩ = some (.int .i64 ((m : Int) + (l : Int))) := cell_of r5.n 0; have f5 : w2.frozen? ⟨w.heap.size + 1, 0, none⟩ = false := free_of r5.n 0; have e5 : w2.cell? ⟨w.heap.size + 1 + 1, 0, none⟩ = some (.int .i64 0) := cell_of r5.e 0; have ef5 : w2.frozen? ⟨w.heap.size + 1 + 1, 0, none⟩ = false := free_of r5.e 0; have cf5 : ∀ i, w2.frozen? ⟨w.heap.size, i, none⟩ = false := fun i => free_of r5.c i; have c50 : w2.cell? ⟨w.heap.size, 0, none⟩ = some (.int .i64 0) := cell_of r5.c 0; have c51 : w2.cell? ⟨w.heap.size, 1, none⟩ = some (.int .u64 0) := cell_of r5.c 1; have c52 : w2.cell? ⟨w.heap.size, 2, none⟩ = some (.int .u64 0) := cell_of r5.c 2; have c53 : w2.cell? ⟨w.heap.size, 3, none⟩ = some (.int .i64 0) := cell_of r5.c 3; have c54 : w2.cell? ⟨w.heap.size, 4, none⟩ = some (.int .i64 0) := cell_of r5.c 4; have c55 : w2.cell? ⟨w.heap.size, 5, none⟩ = some (.slice none 0 0) := cell_of r5.c 5; have c56 : w2.cell? ⟨w.heap.size, 6, none⟩ = some (.slice none 0 0) := cell_of r5.c 6; have R5 := Lib.hid r5; have LS := Lib.hid hls; have HT := Lib.hid ht; have Q1 := Lib.hid hq1; have Q2 := Lib.hid hq2; clear r5 hls ht hq1 hq2; unfold cmV)
    try (refine hK _ _ ?_; clear hK K)
    refine wpAny_ready (rs := [3]) (by kernel_rfl) (by simp) ?_
    refine AllReady.cons rfl (fun K hK => ?_) AllReady.nil
    go_simp
    refine hK _ _ ?_; clear hK K
    refine wpAny_ready (rs := [4]) (by kernel_rfl) (by simp) ?_
    refine AllReady.cons rfl (fun K hK => ?_) AllReady.nil
    go_simp
    refine hK _ _ ?_; clear hK K
    refine wpAny_ready (rs := [5]) (by kernel_rfl) (by simp) ?_
    refine AllReady.cons rfl (fun K hK => ?_) AllReady.nil
    go_simp
    refine hK _ _ ?_; clear hK K
    refine wpAny_done (by kernel_rfl) ?_ _
    go_wp2_with fail
    refine leaves_cons (f := 42) (args := #[.pointer (some ⟨w.heap.size, 0, none⟩), .pointer (some ⟨w.heap.size + 1, 0, none⟩), .pointer (some ⟨w.heap.size + 1 + 1, 0, none⟩)]) (by simp) (by simp [go_sem]) ?_
    refine (catch_idle _ _ _ _).mono ?_
    rintro e u' w'' ⟨rfl, rfl, rfl⟩
    obtain ⟨hr, ht2⟩ := r3_zero' R5.out rfl (.int .i64 cm.op) (.int .u64 cm.u) (.int .u64 cm.v) (.int .i64 cm.w) (.int .i64 cm.t) (.slice ad cm.d.length cd) (.slice ab cm.b.length cb) ((m : Int) + (l : Int)) 0
    have BB := Lib.hid (A3.out.trans (below_of HT.out ht2 HSZ.out))
    have LL := Lib.hid (LS.out.keepT ht2 (fun y hy e => by have := Q1.out y hy; have := HSZ.out; unfold S3 at e; omega) (fun y hy e => by have := Q2.out y hy; have := HSZ.out; unfold S3 at e; omega))
    have q0 := cell_of hr.c 0
    have q1 := cell_of hr.c 1
    have q2 := cell_of hr.c 2
    have q3 := cell_of hr.c 3
    have q4 := cell_of hr.c 4
    have q5 := cell_of hr.c 5
    have q6 := cell_of hr.c 6
    have q7 := cell_of hr.n 0
    have q8 := cell_e hr
    clear hr ht2 n4 n5 f5 e5 ef5 cf5 c50 c51 c52 c53 c54 c55 c56
    simp [Leaves, settle, results, Try.results21, go_sem, q0, q1, q2, q3, q4, q5, q6, q7, q8]
    exact get_yes LL.out BB.out
/-- The frame at the beginning of some bytes is read by the program. -/
theorem pget {w : World} {a : Option Addr} {n c : Nat} {b : List Nat} (h : IsK .u8 w a n c (ns b)) (hb : By b) : Calls Try.prog 21 #[.slice a n c] w (GetR w (getV (get b))) := by
  unfold get
  cases hg : gu b with
  | none => exact pget_1 h hb hg
  | some p =>
    obtain ⟨l, m⟩ := p
    simp only []
    by_cases hl : b.length - m < l
    · rw [if_pos hl]; exact pget_2 h hb hg hl
    · rw [if_neg hl]
      cases hcm : cmdOf ((b.drop m).take l) with
      | none => exact pget_3 h hb hg hl hcm
      | some cm => exact pget_4 h hb hg hl hcm
end Go.Proofs.Ythnoihdojinocaa

/- Plain: commands as bytes. -/
import Derived.Test.YthnoihdojinocaaA
namespace Go.Proofs.Ythnoihdojinocaa
set_option linter.unusedVariables false
set_option linter.unusedSimpArgs false

/-- A command. -/
structure Cm where
  op : Int
  u : Nat
  v : Nat
  w : Int
  t : Int
  d : List Nat
  b : List Int
deriving DecidableEq
/-- The fields of a command, its kind apart. -/
inductive Fd | u | v | w | t | d | b
deriving DecidableEq
/-- The numbers are of their types. -/
structure Cm.ok (c : Cm) : Prop where
  op : -9223372036854775808 ≤ c.op ∧ c.op ≤ 9223372036854775807
  u : c.u < 18446744073709551616
  v : c.v < 18446744073709551616
  w : -9223372036854775808 ≤ c.w ∧ c.w ≤ 9223372036854775807
  t : -9223372036854775808 ≤ c.t ∧ c.t ≤ 9223372036854775807
  d : ∀ x ∈ c.d, x < 18446744073709551616
  b : ∀ x ∈ c.b, -9223372036854775808 ≤ x ∧ x ≤ 9223372036854775807
def nul (op : Int) : Cm := ⟨op, 0, 0, 0, 0, [], []⟩
theorem nul_ok {op : Int} (h : -9223372036854775808 ≤ op ∧ op ≤ 9223372036854775807) : (nul op).ok :=
  ⟨h, by simp [nul], by simp [nul], by simp [nul], by simp [nul], by simp [nul], by simp [nul]⟩
/-- Which fields a kind uses. -/
def uses (op : Int) : Option (List Fd) :=
  if op = 1 then some [.u, .v, .w, .t] else if op = 2 then some [.t] else if op = 3 ∨ op = 8 then some [.u, .v] else if op = 4 then some [.u]
  else if op = 6 then some [.u, .w] else if op = 7 then some [.w] else if op = 11 then some [.d] else if op = 12 then some [.w, .b]
  else if op = 5 ∨ op = 9 ∨ op = 10 ∨ op = 13 ∨ op = 14 ∨ op = 15 then some [] else none
theorem uses_some {op : Int} {fs : List Fd} (h : uses op = some fs) :
    (1 ≤ op ∧ op ≤ 15) ∧ (fs = [.u, .v, .w, .t] ∨ fs = [.t] ∨ fs = [.u, .v] ∨ fs = [.u] ∨ fs = [.u, .w] ∨ fs = [.w] ∨ fs = [.d] ∨ fs = [.w, .b] ∨ fs = []) := by
  unfold uses at h
  repeat' split at h
  all_goals first | (cases h; done) | (simp only [Option.some.injEq] at h; subst h; refine ⟨by omega, by simp⟩)
theorem uses_nodup {op : Int} {fs : List Fd} (h : uses op = some fs) : fs.Nodup := by
  rcases (uses_some h).2 with rfl | rfl | rfl | rfl | rfl | rfl | rfl | rfl | rfl <;> decide
def clr (c : Cm) : Fd → Cm
  | .u => { c with u := 0 } | .v => { c with v := 0 } | .w => { c with w := 0 } | .t => { c with t := 0 } | .d => { c with d := [] } | .b => { c with b := [] }
/-- Whether a command is valid; else its error. -/
def chk (c : Cm) : Int := match uses c.op with
  | none => 2
  | some fs => if fs.foldl clr c = nul c.op then (if 16384 < c.d.length ∨ 1024 < c.b.length then 16 else 0) else 2
def encL {α : Type} (g : α → List Nat) (l : List α) : List Nat := vi l.length ++ l.flatMap g
def vf (x : Int) : List Nat := vi (fold x)
def encF (c : Cm) : Fd → List Nat
  | .u => vi c.u | .v => vi c.v | .w => vf c.w | .t => vf c.t | .d => encL vi c.d | .b => encL vf c.b
def pay (c : Cm) (fs : List Fd) : List Nat := c.op.toNat :: fs.flatMap (encF c)
def frame (c : Cm) (fs : List Fd) : List Nat := vi (pay c fs).length ++ pay c fs
/-- The frame of a command; nothing where it is not valid. -/
def frm (c : Cm) : List Nat := match uses c.op with | none => [] | some fs => frame c fs
def getN {α : Type} (f : Nat → α) : Nat → List Nat → Option (List α × List Nat)
  | 0, r => some ([], r)
  | n + 1, r => match gu r with
    | none => none
    | some (x, k) => match getN f n (r.drop k) with
      | none => none
      | some (l, r') => some (f x :: l, r')
def getL {α : Type} (f : Nat → α) (most : Nat) (r : List Nat) : Option (List α × List Nat) := match gu r with
  | none => none
  | some (n, k) => if most < n ∨ (r.drop k).length < n then none else getN f n (r.drop k)
def getF (c : Cm) (r : List Nat) : Fd → Option (Cm × List Nat)
  | .u => match gu r with | none => none | some (x, k) => some ({ c with u := x }, r.drop k)
  | .v => match gu r with | none => none | some (x, k) => some ({ c with v := x }, r.drop k)
  | .w => match gu r with | none => none | some (x, k) => some ({ c with w := unf x }, r.drop k)
  | .t => match gu r with | none => none | some (x, k) => some ({ c with t := unf x }, r.drop k)
  | .d => match getL id 16384 r with | none => none | some (l, r') => some ({ c with d := l }, r')
  | .b => match getL unf 1024 r with | none => none | some (l, r') => some ({ c with b := l }, r')
def getFs : List Fd → Cm → List Nat → Option (Cm × List Nat)
  | [], c, r => some (c, r)
  | f :: fs, c, r => match getF c r f with
    | none => none
    | some (c', r') => getFs fs c' r'
def cmdOf : List Nat → Option Cm
  | [] => none
  | o :: r => match uses (o : Int) with
    | none => none
    | some fs => match getFs fs (nul o) r with
      | some (c, []) => some c
      | _ => none
/-- The command at the beginning of some bytes, and how many bytes it has. -/
def get (b : List Nat) : Option (Cm × Nat) := match gu b with
  | none => none
  | some (l, h) => if b.length - h < l then none else match cmdOf ((b.drop h).take l) with
    | none => none
    | some c => some (c, h + l)
theorem vi_len {x : Nat} (h : x < 18446744073709551616) : (vi x).length ≤ 10 := (gu_le (vi_byte x) (by have := gu_vi h []; rwa [List.append_nil] at this)).2.2
/-- What was written is read: a list. -/
theorem getN_enc {α : Type} {f : Nat → α} {g : α → List Nat} (l : List α) (h : ∀ x ∈ l, ∀ more, ∃ y k, gu (g x ++ more) = some (y, k) ∧ k = (g x).length ∧ f y = x) (more : List Nat) : getN f l.length (l.flatMap g ++ more) = some (l, more) := by
  induction l with
  | nil => rfl
  | cons x r ih =>
    obtain ⟨y, k, h1, h2, h3⟩ := h x (by simp) (r.flatMap g ++ more)
    rw [List.flatMap_cons, List.append_assoc, List.length_cons, getN, h1]
    simp only []
    rw [h2, List.drop_left, ih (fun x hx => h x (List.mem_cons_of_mem _ hx))]
    simp only [h3]
theorem flat_ge {α : Type} {g : α → List Nat} : ∀ (l : List α), (∀ x ∈ l, 0 < (g x).length) → l.length ≤ (l.flatMap g).length
  | [], _ => by simp
  | x :: r, h => by
    have h1 := flat_ge r (fun y hy => h y (List.mem_cons_of_mem _ hy))
    have h2 := h x (by simp)
    rw [List.flatMap_cons, List.length_append, List.length_cons]; omega
theorem flat_le {α : Type} {g : α → List Nat} : ∀ (l : List α), (∀ x ∈ l, (g x).length ≤ 10) → (l.flatMap g).length ≤ 10 * l.length
  | [], _ => by simp
  | x :: r, h => by
    have h1 := flat_le r (fun y hy => h y (List.mem_cons_of_mem _ hy))
    have h2 := h x (by simp)
    rw [List.flatMap_cons, List.length_append, List.length_cons]; omega
theorem getL_enc {α : Type} {f : Nat → α} {g : α → List Nat} {most : Nat} (hm : most ≤ 1000000) (l : List α) (hl : l.length ≤ most) (hp : ∀ x ∈ l, 0 < (g x).length) (h : ∀ x ∈ l, ∀ more, ∃ y k, gu (g x ++ more) = some (y, k) ∧ k = (g x).length ∧ f y = x) (more : List Nat) :
    getL f most (encL g l ++ more) = some (l, more) := by
  unfold getL encL
  rw [List.append_assoc, gu_vi (by omega)]
  simp only [List.drop_left]
  have := flat_ge l hp
  rw [if_neg (by rw [List.length_append]; omega)]
  exact getN_enc l h more
def setF (c a : Cm) : Fd → Cm
  | .u => { a with u := c.u } | .v => { a with v := c.v } | .w => { a with w := c.w } | .t => { a with t := c.t } | .d => { a with d := c.d } | .b => { a with b := c.b }
theorem vf_read {x : Int} (h : -9223372036854775808 ≤ x ∧ x ≤ 9223372036854775807) (more : List Nat) : ∃ y k, gu (vf x ++ more) = some (y, k) ∧ k = (vf x).length ∧ unf y = x := ⟨_, _, gu_vi (fold_lt h) more, rfl, unf_fold x⟩
theorem getF_enc {c : Cm} (hc : c.ok) (hd : c.d.length ≤ 16384) (hb : c.b.length ≤ 1024) (a : Cm) (f : Fd) (more : List Nat) : getF a (encF c f ++ more) f = some (setF c a f, more) := by
  cases f
  · simp only [getF, encF, gu_vi hc.u, List.drop_left, setF]
  · simp only [getF, encF, gu_vi hc.v, List.drop_left, setF]
  · simp only [getF, encF, vf, gu_vi (fold_lt hc.w), List.drop_left, setF, unf_fold]
  · simp only [getF, encF, vf, gu_vi (fold_lt hc.t), List.drop_left, setF, unf_fold]
  · simp only [getF, encF]
    rw [getL_enc (f := id) (g := vi) (by decide) c.d hd (fun x _ => vi_pos x) (fun x hx more => ⟨x, _, gu_vi (hc.d x hx) more, rfl, rfl⟩)]
    rfl
  · simp only [getF, encF]
    rw [getL_enc (f := unf) (g := vf) (by decide) c.b hb (fun x _ => vi_pos _) (fun x hx more => vf_read (hc.b x hx) more)]
    rfl
theorem getFs_enc {c : Cm} (hc : c.ok) (hd : c.d.length ≤ 16384) (hb : c.b.length ≤ 1024) : ∀ (fs : List Fd) (a : Cm) (more : List Nat), getFs fs a (fs.flatMap (encF c) ++ more) = some (fs.foldl (setF c) a, more)
  | [], _, _ => rfl
  | f :: fs, a, more => by
    rw [List.flatMap_cons, List.append_assoc, getFs, getF_enc hc hd hb]
    exact getFs_enc hc hd hb fs _ more
theorem clr_set {c : Cm} {fs : List Fd} (hf : fs = [.u, .v, .w, .t] ∨ fs = [.t] ∨ fs = [.u, .v] ∨ fs = [.u] ∨ fs = [.u, .w] ∨ fs = [.w] ∨ fs = [.d] ∨ fs = [.w, .b] ∨ fs = [])
    (h : fs.foldl clr c = nul c.op) : fs.foldl (setF c) (nul c.op) = c := by
  obtain ⟨op, u, v, w, t, d, b⟩ := c
  rcases hf with rfl | rfl | rfl | rfl | rfl | rfl | rfl | rfl | rfl <;> simp_all [clr, setF, nul]
theorem chk_ok {c : Cm} (h : chk c = 0) : ∃ fs, uses c.op = some fs ∧ fs.foldl clr c = nul c.op ∧ c.d.length ≤ 16384 ∧ c.b.length ≤ 1024 := by
  unfold chk at h
  cases hu : uses c.op with
  | none => rw [hu] at h; cases h
  | some fs =>
    rw [hu] at h
    simp only [] at h
    split at h
    · rename_i h1
      split at h
      · cases h
      · rename_i h2
        exact ⟨fs, rfl, h1, by omega, by omega⟩
    · cases h
theorem encF_len {c : Cm} (hc : c.ok) (hd : c.d.length ≤ 16384) (hb : c.b.length ≤ 1024) (f : Fd) : (encF c f).length ≤ 163850 := by
  cases f
  · have := vi_len hc.u; simp only [encF]; omega
  · have := vi_len hc.v; simp only [encF]; omega
  · have := vi_len (fold_lt hc.w); simp only [encF, vf]; omega
  · have := vi_len (fold_lt hc.t); simp only [encF, vf]; omega
  · have h1 := flat_le (g := vi) c.d (fun x hx => vi_len (hc.d x hx))
    have h2 := vi_len (x := c.d.length) (by omega)
    simp only [encF, encL, List.length_append]; omega
  · have h1 := flat_le (g := vf) c.b (fun x hx => vi_len (fold_lt (hc.b x hx)))
    have h2 := vi_len (x := c.b.length) (by omega)
    simp only [encF, encL, List.length_append]; omega
theorem pay_len {c : Cm} (hc : c.ok) (hd : c.d.length ≤ 16384) (hb : c.b.length ≤ 1024) {fs : List Fd} (hu : uses c.op = some fs) : (pay c fs).length ≤ 1000000 := by
  have h := encF_len hc hd hb
  have h1 := h .u; have h2 := h .v; have h3 := h .w; have h4 := h .t; have h5 := h .d; have h6 := h .b
  rcases (uses_some hu).2 with rfl | rfl | rfl | rfl | rfl | rfl | rfl | rfl | rfl <;> simp [pay] <;> omega
/-- What was written is read. -/
theorem get_back {c : Cm} (hc : c.ok) (h : chk c = 0) (more : List Nat) : get (frm c ++ more) = some (c, (frm c).length) := by
  obtain ⟨fs, hu, hz, hd, hb⟩ := chk_ok h
  have hpl := pay_len hc hd hb hu
  have hop := (uses_some hu).1
  unfold frm
  rw [hu]
  simp only []
  unfold get frame
  rw [List.append_assoc, gu_vi (by omega)]
  simp only [List.drop_left]
  rw [if_neg (by simp only [List.length_append]; omega), List.take_left]
  have e1 : ((c.op.toNat : Nat) : Int) = c.op := by omega
  have e2 : cmdOf (pay c fs) = some c := by
    unfold pay cmdOf
    simp only []
    rw [e1, hu]
    simp only []
    have := getFs_enc hc hd hb fs (nul c.op) []
    rw [List.append_nil] at this
    rw [this, clr_set (uses_some hu).2 hz]
  rw [e2, List.length_append]
end Go.Proofs.Ythnoihdojinocaa

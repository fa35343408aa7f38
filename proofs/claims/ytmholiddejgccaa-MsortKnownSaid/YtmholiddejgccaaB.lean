/- Records, the three orders, and the contracts of the functions that tell which of two records is before the other. -/
import Derived.Test.YtmholiddejgccaaProg
import Derived.Test.YtmholiddejgccaaA
import Derived.Test.YtmholiddejgccaaK
import Derived.WalkLawsBesides
import Derived.BigQuiet
import Derived.Deep.QuietTactic
import Derived.Outline
import Derived.Shelf.Abstract
namespace Go.Proofs.Ytmholiddejgccaa
open Go.ChangeShapes Go.WideShapes Go.ChangeAt Go.RowKit

structure Rc where
  u : Int
  v : Int
  w : Int
  t : Int
  deriving DecidableEq
def Rc.agg (r : Rc) : Value := .agg #[.int .u64 r.u, .int .u64 r.v, .int .i64 r.w, .int .i64 r.t]
def lo (r : Rc) : Int := min r.u r.v
def hi (r : Rc) : Int := max r.u r.v
def lt1 (a b : Rc) : Bool := decide (a.w < b.w)
def lt2 (a b : Rc) : Bool := decide (a.t < b.t)
def lt3 (a b : Rc) : Bool := decide (lo a < lo b) || (lo a == lo b && decide (hi a < hi b))
theorem swo_key {α : Type} (f : α → Int) : SWO (fun a b => decide (f a < f b)) := ⟨fun x => by simp, fun x y z h1 h2 => by simp at *; omega, fun x y z h1 h2 => by simp at *; omega⟩
theorem swo1 : SWO lt1 := swo_key Rc.w
theorem swo2 : SWO lt2 := swo_key Rc.t
theorem swo3 : SWO lt3 := ⟨fun x => by simp [lt3], fun x y z h1 h2 => by simp [lt3] at *; omega, fun x y z h1 h2 => by simp [lt3] at *; omega⟩
def ltK (k : Int) : Rc → Rc → Bool := if k = 1 then lt1 else if k = 2 then lt2 else lt3
theorem swoK (k : Int) : SWO (ltK k) := by
  unfold ltK; split
  · exact swo1
  · split
    · exact swo2
    · exact swo3
/-- There is such a key. -/
def kn (k : Int) : Prop := 1 ≤ k ∧ k ≤ 3
theorem kn_cases {k : Int} (h : kn k) : k = 1 ∨ k = 2 ∨ k = 3 := by unfold kn at h; omega
/-- The function of a key. -/
def fnK (k : Int) : Nat := if k = 1 then 39 else if k = 2 then 40 else 41
theorem two_blocks (w : World) (a b : Obj) : ((w.alloc a).alloc b).heap[w.heap.size]? = some a ∧ ((w.alloc a).alloc b).heap[w.heap.size + 1]? = some b := by
  have h := block_new (w.alloc a) b
  rw [show (w.alloc a).heap.size = w.heap.size + 1 by simp] at h
  exact ⟨block_old (block_new w a) b, h⟩
theorem keep_block {W w1 : World} {b : Nat} {o : Obj} (h : W.heap[b]? = some o) (hb : Below W.heap.size W w1) : w1.heap[b]? = some o := (hb.block b (lt_of_block h)).trans h
theorem four {w : World} {b : Nat} {c0 c1 c2 c3 : Value} {t : TypeId} {f : Nat × Nat} (h : w.heap[b]? = some (.cells #[c0, c1, c2, c3] t f)) :
    w.cell? ⟨b, 0, none⟩ = some c0 ∧ w.cell? ⟨b, 1, none⟩ = some c1 ∧ w.cell? ⟨b, 2, none⟩ = some c2 ∧ w.cell? ⟨b, 3, none⟩ = some c3 := ⟨cell_of h 0, cell_of h 1, cell_of h 2, cell_of h 3⟩
theorem below2 (w : World) (a b : Obj) : Below w.heap.size w ((w.alloc a).alloc b) := Below.alloc (Below.alloc (Below.refl _ _) (Nat.le_refl _) _) (by simp) _
theorem pair_eq {a b c d : Int} (h1 : a = c) (h2 : b = d) : Ending.returned (.tuple #[.int .u64 a, .int .u64 b]) = .returned (.tuple #[.int .u64 c, .int .u64 d]) := by rw [h1, h2]
theorem ends_any (r : Rc) (w : World) : Calls Try.prog 42 #[r.agg] w fun e w' => e = .returned (.tuple #[.int .u64 (lo r), .int .u64 (hi r)]) ∧ Below w.heap.size w w' := by
  obtain ⟨a, b, c, d⟩ := r
  unfold Rc.agg lo hi
  simp only
  go_enter Try.func42, Try.ntmps42
  go_wp2_with fail
  go_region
  all_goals go_wp2
  all_goals go_ret2
  all_goals exact ⟨pair_eq (by omega) (by omega), Below.drew (Below.alloc (Below.refl _ _) (Nat.le_refl _) _)⟩
theorem pair_any (r : Rc) (w : World) : Calls Try.prog 43 #[r.agg] w fun e w' => e = .returned (.tuple #[.int .u64 (lo r), .int .u64 (hi r)]) ∧ Below w.heap.size w w' := by
  obtain ⟨a, b, c, d⟩ := r
  unfold Rc.agg lo hi
  simp only
  by_cases h : a ≤ b
  all_goals
    go_enter Try.func43, Try.ntmps43
    go_wp2_with fail
    go_region
    all_goals go_wp2
    all_goals go_ret2
    all_goals exact ⟨pair_eq (by omega) (by omega), Below.drew (Below.alloc (Below.refl _ _) (Nat.le_refl _) _)⟩
theorem less1 (a b : Rc) (w : World) : Calls Try.prog 39 #[a.agg, b.agg] w fun e w' => e = .returned (.bool (lt1 a b)) ∧ Below w.heap.size w w' := by
  obtain ⟨au, av, aw, at'⟩ := a
  obtain ⟨bu, bv, bw, bt⟩ := b
  unfold Rc.agg lt1
  simp only
  go_enter Try.func39, Try.ntmps39
  go_wp2_with fail
  go_ret
  exact ⟨rfl, Below.alloc (Below.alloc (Below.refl _ _) (Nat.le_refl _) _) (by simp) _⟩
theorem less2 (a b : Rc) (w : World) : Calls Try.prog 40 #[a.agg, b.agg] w fun e w' => e = .returned (.bool (lt2 a b)) ∧ Below w.heap.size w w' := by
  obtain ⟨au, av, aw, at'⟩ := a
  obtain ⟨bu, bv, bw, bt⟩ := b
  unfold Rc.agg lt2
  simp only
  go_enter Try.func40, Try.ntmps40
  go_wp2_with fail
  go_ret
  exact ⟨rfl, Below.alloc (Below.alloc (Below.refl _ _) (Nat.le_refl _) _) (by simp) _⟩
theorem less3 (a b : Rc) (w : World) : Calls Try.prog 41 #[a.agg, b.agg] w fun e w' => e = .returned (.bool (lt3 a b)) ∧ Below w.heap.size w w' := by
  have E1 := Lib.hid (fun w => ends_any a w)
  have E2 := Lib.hid (fun w => ends_any b w)
  have hr : lt3 a b = (decide (lo a < lo b) || (lo a == lo b && decide (hi a < hi b))) := rfl
  have HR := Lib.hid hr
  clear hr
  generalize lt3 a b = res at *
  generalize lo a = la at *
  generalize lo b = lb at *
  generalize hi a = ha at *
  generalize hi b = hb at *
  obtain ⟨au, av, aw, at'⟩ := a
  obtain ⟨bu, bv, bw, bt⟩ := b
  unfold Rc.agg at *
  simp only at *
  go_enter Try.func41, Try.ntmps41
  go_wp2_with fail
  refine (E1.out _).mono ?_; rintro e w1 ⟨rfl, hb1⟩
  have B1 := Lib.hid ((below2 w _ _).trans (hb1.mono (by simp; omega)))
  have K1 := keep_block (two_blocks w _ _).2 hb1
  obtain ⟨c0, c1, c2, c3⟩ := four K1
  clear K1 hb1
  go_wp2_with fail
  refine (E2.out _).mono ?_; rintro e w2 ⟨rfl, hb2⟩
  have B2 := Lib.hid (B1.out.trans (hb2.mono B1.out.size))
  clear hb2 c0 c1 c2 c3
  cases h1 : decide (la < lb)
  · cases h2 : la == lb
    · have hres : res = false := by rw [HR.out, h1, h2]; rfl
      subst hres
      go_wp2_with fail
      go_ret
      exact ⟨rfl, B2.out⟩
    · have hres : res = decide (ha < hb) := by rw [HR.out, h1, h2]; rfl
      subst hres
      go_wp2_with fail
      go_ret
      exact ⟨rfl, B2.out⟩
  · have hres : res = true := by rw [HR.out, h1]; rfl
    subst hres
    go_wp2_with fail
    go_ret
    exact ⟨rfl, B2.out⟩
theorem lessK {k : Int} (hk : kn k) (a b : Rc) (w : World) : Calls Try.prog (fnK k) #[a.agg, b.agg] w fun e w' => e = .returned (.bool (ltK k a b)) ∧ Below w.heap.size w w' := by
  rcases kn_cases hk with rfl | rfl | rfl
  · exact less1 a b w
  · exact less2 a b w
  · exact less3 a b w
theorem entK {k : Int} (hk : kn k) : ∀ (args : Array Value) (w : World), (callFunc (fnK k) args).run Try.prog w = .ok (.enter (fnK k) args) w := by
  rcases kn_cases hk with rfl | rfl | rfl
  · exact enters_of Try.func39 (by kernel_rfl) rfl
  · exact enters_of Try.func40 (by kernel_rfl) rfl
  · exact enters_of Try.func41 (by kernel_rfl) rfl
theorem before_yes {k : Int} (hk : kn k) (w : World) : Calls Try.prog 29 #[.int .i64 k] w fun e w' => e = .returned (.tuple #[.func (.func (fnK k)) #[] #[], .bool true]) ∧ w = w' := by
  rcases kn_cases hk with rfl | rfl | rfl
  all_goals
    go_enter Try.func29, Try.ntmps29
    go_wp2_with fail
    go_ret2
    exact ⟨rfl, rfl⟩
theorem before_no {k : Int} (hk : ¬ kn k) (w : World) : Calls Try.prog 29 #[.int .i64 k] w fun e w' => e = .returned (.tuple #[.nilFunc, .bool false]) ∧ w = w' := by
  have h1 : (k == 1) = false := by simp; rintro rfl; exact hk (by unfold kn; omega)
  have h2 : (k == 2) = false := by simp; rintro rfl; exact hk (by unfold kn; omega)
  have h3 : (k == 3) = false := by simp; rintro rfl; exact hk (by unfold kn; omega)
  clear hk
  go_enter Try.func29, Try.ntmps29
  go_wp2_with fail
  go_ret2
  exact ⟨rfl, rfl⟩
theorem known_yes {k : Int} (hk : kn k) (w : World) : Calls Try.prog 30 #[.int .i64 k] w fun e w' => e = .returned (.bool true) ∧ w = w' := by
  obtain ⟨h1, h2⟩ := hk
  go_enter Try.func30, Try.ntmps30
  go_wp2_with fail
  go_ret
  exact ⟨rfl, rfl⟩
theorem known_no {k : Int} (hk : ¬ kn k) (w : World) : Calls Try.prog 30 #[.int .i64 k] w fun e w' => e = .returned (.bool false) ∧ w = w' := by
  unfold kn at hk
  by_cases h1 : 1 ≤ k
  · have h2 : decide (k ≤ 3) = false := by simp; omega
    clear hk
    go_enter Try.func30, Try.ntmps30
    go_wp2_with fail
    go_ret
    exact ⟨rfl, rfl⟩
  · clear hk
    go_enter Try.func30, Try.ntmps30
    go_wp2_with fail
    go_ret
    exact ⟨rfl, rfl⟩
theorem rbefore12 {k : Int} (hk : k = 1 ∨ k = 2) (a b : Rc) (w : World) : Calls Try.prog 31 #[a.agg, b.agg, .int .i64 k] w fun e w' => e = .returned (.bool (ltK k a b)) ∧ Below w.heap.size w w' := by
  obtain ⟨au, av, aw, at'⟩ := a
  obtain ⟨bu, bv, bw, bt⟩ := b
  rcases hk with rfl | rfl
  all_goals
    unfold Rc.agg ltK
    simp only [if_true, show ¬ (2 : Int) = 1 by decide, if_false]
    try unfold lt1
    try unfold lt2
    simp only
    go_enter Try.func31, Try.ntmps31
    go_wp2_with fail
    go_ret
    exact ⟨rfl, below2 w _ _⟩
set_option maxHeartbeats 1000000 in
theorem rbefore3 (a b : Rc) (w : World) : Calls Try.prog 31 #[a.agg, b.agg, .int .i64 3] w fun e w' => e = .returned (.bool (lt3 a b)) ∧ Below w.heap.size w w' := by
  have E1 := Lib.hid (fun w => pair_any a w)
  have E2 := Lib.hid (fun w => pair_any b w)
  have hr : lt3 a b = (decide (lo a < lo b) || (lo a == lo b && decide (hi a < hi b))) := rfl
  have HR := Lib.hid hr
  clear hr
  generalize lt3 a b = res at *
  generalize lo a = la at *
  generalize lo b = lb at *
  generalize hi a = ha at *
  generalize hi b = hb at *
  obtain ⟨au, av, aw, at'⟩ := a
  obtain ⟨bu, bv, bw, bt⟩ := b
  unfold Rc.agg at *
  simp only at *
  go_enter Try.func31, Try.ntmps31
  go_wp2_with fail
  refine (E1.out _).mono ?_; rintro e w1 ⟨rfl, hb1⟩
  have B1 := Lib.hid ((below2 w _ _).trans (hb1.mono (by simp; omega)))
  have K1 := keep_block (two_blocks w _ _).2 hb1
  obtain ⟨c0, c1, c2, c3⟩ := four K1
  clear K1 hb1
  go_wp2_with fail
  refine (E2.out _).mono ?_; rintro e w2 ⟨rfl, hb2⟩
  have B2 := Lib.hid (B1.out.trans (hb2.mono B1.out.size))
  clear hb2 c0 c1 c2 c3
  cases h1 : decide (la < lb)
  · cases h2 : la == lb
    · have hres : res = false := by rw [HR.out, h1, h2]; rfl
      subst hres
      go_wp2_with fail
      go_ret
      exact ⟨rfl, B2.out⟩
    · have hres : res = decide (ha < hb) := by rw [HR.out, h1, h2]; rfl
      subst hres
      go_wp2_with fail
      go_ret
      exact ⟨rfl, B2.out⟩
  · have hres : res = true := by rw [HR.out, h1]; rfl
    subst hres
    go_wp2_with fail
    go_ret
    exact ⟨rfl, B2.out⟩
theorem rbefore {k : Int} (hk : kn k) (a b : Rc) (w : World) : Calls Try.prog 31 #[a.agg, b.agg, .int .i64 k] w fun e w' => e = .returned (.bool (ltK k a b)) ∧ Below w.heap.size w w' := by
  rcases kn_cases hk with rfl | rfl | rfl
  · exact rbefore12 (Or.inl rfl) a b w
  · exact rbefore12 (Or.inr rfl) a b w
  · exact rbefore3 a b w
/-! Less, of the program and of the document. -/
theorem pless_no {k : Int} (hk : ¬ kn k) (a b : Rc) (w : World) : Calls Try.prog 12 #[a.agg, b.agg, .int .i64 k] w fun e w' => e = .returned (.tuple #[.bool false, .int .i64 2]) ∧ Below w.heap.size w w' := by
  obtain ⟨au, av, aw, at'⟩ := a
  obtain ⟨bu, bv, bw, bt⟩ := b
  unfold Rc.agg
  simp only
  have HB := Lib.hid (fun w => before_no hk w)
  clear hk
  go_enter Try.func12, Try.ntmps12
  go_wp2_with (go_at_call 29; refine (HB.out _).mono ?_; rintro e w' ⟨rfl, rfl⟩)
  go_ret2
  exact ⟨rfl, below2 w _ _⟩
theorem pless_yes {k : Int} (hk : kn k) (a b : Rc) (w : World) : Calls Try.prog 12 #[a.agg, b.agg, .int .i64 k] w fun e w' => e = .returned (.tuple #[.bool (ltK k a b), .int .i64 0]) ∧ Below w.heap.size w w' := by
  have HB := Lib.hid (fun w => before_yes hk w)
  have HL := Lib.hid (fun w => lessK hk a b w)
  have hent := entK hk
  clear hk
  generalize fnK k = f at *
  generalize ltK k a b = res at *
  obtain ⟨au, av, aw, at'⟩ := a
  obtain ⟨bu, bv, bw, bt⟩ := b
  unfold Rc.agg at *
  simp only at *
  go_enter Try.func12, Try.ntmps12
  go_wp2_with fail
  refine (HB.out _).mono ?_; rintro e w' ⟨rfl, rfl⟩
  go_wp2_with fail
  refine (HL.out _).mono ?_; rintro e w1 ⟨rfl, hb1⟩
  have B1 := Lib.hid ((below2 w _ _).trans (hb1.mono (by simp; omega)))
  clear hb1
  go_wp2_with fail
  go_ret2
  exact ⟨rfl, B1.out⟩
theorem rless_no {k : Int} (hk : ¬ kn k) (a b : Rc) (w : World) : Calls Try.prog 13 #[a.agg, b.agg, .int .i64 k] w fun e w' => e = .returned (.tuple #[.bool false, .int .i64 2]) ∧ Below w.heap.size w w' := by
  obtain ⟨au, av, aw, at'⟩ := a
  obtain ⟨bu, bv, bw, bt⟩ := b
  unfold Rc.agg
  simp only
  have HB := Lib.hid (fun w => known_no hk w)
  clear hk
  go_enter Try.func13, Try.ntmps13
  go_wp2_with (go_at_call 30; refine (HB.out _).mono ?_; rintro e w' ⟨rfl, rfl⟩)
  go_ret2
  exact ⟨rfl, below2 w _ _⟩
theorem rless_yes {k : Int} (hk : kn k) (a b : Rc) (w : World) : Calls Try.prog 13 #[a.agg, b.agg, .int .i64 k] w fun e w' => e = .returned (.tuple #[.bool (ltK k a b), .int .i64 0]) ∧ Below w.heap.size w w' := by
  have HB := Lib.hid (fun w => known_yes hk w)
  have HL := Lib.hid (fun w => rbefore hk a b w)
  clear hk
  generalize ltK k a b = res at *
  obtain ⟨au, av, aw, at'⟩ := a
  obtain ⟨bu, bv, bw, bt⟩ := b
  unfold Rc.agg at *
  simp only at *
  go_enter Try.func13, Try.ntmps13
  go_wp2_with fail
  refine (HB.out _).mono ?_; rintro e w' ⟨rfl, rfl⟩
  go_wp2_with fail
  refine (HL.out _).mono ?_; rintro e w1 ⟨rfl, hb1⟩
  have B1 := Lib.hid ((below2 w _ _).trans (hb1.mono (by simp; omega)))
  clear hb1
  go_wp2_with fail
  go_ret2
  exact ⟨rfl, B1.out⟩
end Go.Proofs.Ytmholiddejgccaa

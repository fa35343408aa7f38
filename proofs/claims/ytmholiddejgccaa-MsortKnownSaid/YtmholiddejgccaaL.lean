/- The document's Sorted; same, copied, works. -/
import Derived.Test.YtmholiddejgccaaJ
namespace Go.Proofs.Ytmholiddejgccaa
open Go.ChangeShapes Go.WideShapes Go.ChangeAt Go.RowKit

theorem IsSl.of_block {α : Type} {sz : Nat} {enc : α → List Value} (hE : ∀ x, (enc x).length = sz) {w : World} {g : Nat} {cs : Array Value} {t : TypeId} {f : Nat × Nat} {zs : List α} (h : w.heap[g]? = some (.cells cs t f)) (hc : cs.toList = flat enc zs) {n : Nat} (hn : n = zs.length) (hm : n ≤ maxLen) : IsSl sz enc w (some ⟨g, 0, none⟩) n n zs := by
  refine ⟨hn, Nat.le_refl _, hm, fun h => (by cases h), fun _ => ⟨g, 0, rfl, lt_of_block h, fun i hi j hj => ?_⟩⟩
  rw [cell_of h, ← flat_at hE hi hj, ← hc]
  simp
section
variable {w : World} {aa : Option Addr} {la ca : Nat} {zs : List Rc}
theorem rinv_no {k : Int} (hk : ¬ (kn k ∧ (la : Int) ≤ 65536)) :
    Calls Try.prog 24 #[.slice aa la ca, .int .i64 k] w fun e w' => e = .returned (.tuple #[.int .i64 0, .int .i64 (errK k la)]) ∧ w = w' := by
  have HC := Lib.hid (fun w => rcheck_no hk w)
  have he := (errK_cases (k := k) (n := la)).resolve_left (fun h => hk ⟨h.1, h.2.1⟩)
  obtain ⟨_, e1, e2⟩ := he
  clear hk
  generalize errK k la = er at *
  go_enter Try.func24, Try.ntmps24
  go_wp2_with fail
  refine (HC.out _).mono ?_; rintro e w' ⟨rfl, rfl⟩
  go_wp2_with fail
  go_ret2
  exact ⟨rfl, rfl⟩
theorem rsorted_yes {k : Int} (hk : kn k) (h : IsSl 4 encR w aa la ca zs) (hl : la ≤ 65536) :
    Calls Try.prog 22 #[.slice aa la ca, .int .i64 k] w fun e w' => e = .returned (.tuple #[.bool (inv (ltK k) zs == 0), .int .i64 0]) ∧ Below w.heap.size w w' := by
  have RI := Lib.hid (rinv_yes hk h hl)
  clear hk h
  generalize hn : inv (ltK k) zs = n at *
  have HN := Lib.hid hn
  clear hn
  go_enter Try.func22, Try.ntmps22
  go_wp2_with fail
  refine (RI.out).mono ?_; rintro e w1 ⟨rfl, hb⟩
  have B := Lib.hid hb
  clear hb
  cases n with
  | zero =>
    go_wp2_with fail
    go_ret2
    exact ⟨rfl, B.out⟩
  | succ n =>
    have h1 : (((n + 1 : Nat) : Int) == 0) = false := by simp; omega
    have h3 : ((n : Int) + 1 == 0) = false := by simp; omega
    go_wp2_with fail
    go_ret2
    exact ⟨rfl, B.out⟩
theorem rsorted_no {k : Int} (hk : ¬ (kn k ∧ (la : Int) ≤ 65536)) :
    Calls Try.prog 22 #[.slice aa la ca, .int .i64 k] w fun e w' => e = .returned (.tuple #[.bool false, .int .i64 (errK k la)]) ∧ w = w' := by
  have RI := Lib.hid (rinv_no (aa := aa) (ca := ca) (w := w) hk)
  have he := (errK_cases (k := k) (n := la)).resolve_left (fun h => hk ⟨h.1, h.2.1⟩)
  obtain ⟨_, e1, e2⟩ := he
  clear hk
  generalize errK k la = er at *
  go_enter Try.func22, Try.ntmps22
  go_wp2_with fail
  refine (RI.out).mono ?_; rintro e w1 ⟨rfl, rfl⟩
  go_wp2_with fail
  go_ret2
  exact ⟨rfl, rfl⟩
end
/-- The chapter's four records. -/
def exs : List Rc := [⟨1, 2, 5, 0⟩, ⟨3, 4, 2, 1⟩, ⟨5, 6, 5, 2⟩, ⟨7, 8, -1, 3⟩]
theorem example_any (w : World) : Calls Try.prog 28 #[] w fun e w' => e = .returned (.slice (some ⟨w.heap.size, 0, none⟩) 4 4) ∧ IsSl 4 encR w' (some ⟨w.heap.size, 0, none⟩) 4 4 exs ∧ Below w.heap.size w w' := by
  go_enter Try.func28, Try.ntmps28
  go_wp2_with fail
  go_ret
  exact ⟨rfl, IsSl.of_block (zs := exs) (n := 4) encR_len (block_new _ _) rfl rfl (by unfold maxLen; omega), Below.alloc (Below.refl _ _) (Nat.le_refl _) _⟩
theorem prm_ins {lt : Rc → Rc → Bool} (h : SWO lt) (zs : List Rc) : prm lt zs = ins (ltI lt zs) zs.length := (ins_arr (swoI h zs) _).symm
theorem exs_prm : prm (ltK 1) exs = [3, 1, 0, 2] := by rw [prm_ins (swoK 1)]; decide
theorem exs_inv : inv (ltK 1) exs = 4 := by decide
theorem at1 {w : World} {b off la ca : Nat} {ns : List Nat} (h : IsSl 1 encN w (some ⟨b, off, none⟩) la ca ns) {i : Nat} (hi : i < ns.length) : w.cell? ⟨b, off + i, none⟩ = some (.int .i64 (ns.getD i 0 : Nat)) := by
  obtain ⟨b', off', e, _, hc⟩ := h.at_ (fun e => by rw [e] at hi; simp at hi)
  cases e
  have := hc i hi 0 (by decide)
  rw [show off + i * 1 + 0 = off + i by omega] at this
  rw [this]; simp [encN, hi]
set_option maxHeartbeats 2000000 in
theorem works_any (w : World) : Calls Try.prog 14 #[] w fun e w' => e = .returned (.bool true) ∧ Below w.heap.size w w' := by
  go_enter Try.func14, Try.ntmps14
  go_wp2_with fail
  refine (example_any _).mono ?_; rintro e w1 ⟨rfl, hs, hb⟩
  have S1 := Lib.hid hs; have B1 := Lib.hid hb
  clear hs hb
  go_wp2_with fail
  refine (perm_yes (k := 1) (by unfold kn; decide) S1.out (by decide)).mono ?_; rintro e w2 ⟨v, rfl, ho, hb⟩
  rw [exs_prm] at ho
  have B2 := Lib.hid (B1.out.trans (hb.mono B1.out.size))
  obtain ⟨a, c, hv⟩ : ∃ a c, v = .slice a 4 c := own_shape ho.row
  subst hv
  have P2 := IsSl.of_own encN_len ho.row rfl
  obtain ⟨b, off, rfl, hbw, _⟩ := P2.at_ (by simp)
  have P2h := Lib.hid P2
  have hcap : 4 ≤ c := P2.hle
  have hcm := P2.hmax
  unfold maxLen at hcm
  clear ho hb P2
  go_wp2_with fail
  refine (example_any _).mono ?_; rintro e w3 ⟨rfl, hs, hb⟩
  have S3 := Lib.hid hs; have B3 := Lib.hid (B2.out.trans (hb.mono B2.out.size)); have P3 := Lib.hid (P2h.out.below hb)
  clear hs hb
  go_wp2_with fail
  refine (inv_yes (k := 1) (by unfold kn; decide) S3.out (by decide)).mono ?_; rintro e w4 ⟨rfl, hb⟩
  rw [exs_inv]
  have B4 := Lib.hid (B3.out.trans (hb.mono B3.out.size)); have P4 := P3.out.below hb
  clear hb
  have p0 : w4.cell? ⟨b, off, none⟩ = some (.int .i64 3) := at1 P4 (i := 0) (by decide)
  have p1 : w4.cell? ⟨b, off + 1, none⟩ = some (.int .i64 1) := at1 P4 (i := 1) (by decide)
  have p2 : w4.cell? ⟨b, off + 2, none⟩ = some (.int .i64 0) := at1 P4 (i := 2) (by decide)
  have p3 : w4.cell? ⟨b, off + 3, none⟩ = some (.int .i64 2) := at1 P4 (i := 3) (by decide)
  clear P4
  go_wp2_with fail
  go_ret
  exact ⟨rfl, B4.out⟩
end Go.Proofs.Ytmholiddejgccaa

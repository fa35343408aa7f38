/- The document's New; the law ArenaNews. -/
import Derived.Test.YtndiaflbagikoaaX
import Derived.Deep.OwnRows
import Derived.RegionTactic
namespace Go.Proofs.Ytndiaflbagikoaa
open Go.ChangeShapes Go.WideShapes Go.ChangeAt Go.RowKit

theorem info40 : (Try.prog.info? 40).map (fun i => (i.zero, i.size, i.bytes)) = some (some (.int .u64 0), 1, 8) := by kernel_rfl
theorem three_blocks (w : World) (a b c : Obj) : (((w.alloc a).alloc b).alloc c).heap[w.heap.size + 1 + 1]? = some c ∧ (((w.alloc a).alloc b).alloc c).heap[w.heap.size]? = some a ∧ (((w.alloc a).alloc b).alloc c).heap[w.heap.size + 1]? = some b := by
  have h1 := block_new ((w.alloc a).alloc b) c
  have h2 := block_old (block_new (w.alloc a) b) c
  rw [show ((w.alloc a).alloc b).heap.size = w.heap.size + 1 + 1 by simp] at h1
  rw [show (w.alloc a).heap.size = w.heap.size + 1 by simp] at h2
  exact ⟨h1, block_old (block_old (block_new w a) b) c, h2⟩
theorem new_ref {W : World} {c g1 g2 n B : Nat} (hn : n ≤ 65536) (hh : W.heap[c]? = some (.cells #[.bool true, .int .i64 n, .slice (some ⟨g1, 0, none⟩) n n, .slice (some ⟨g2, 0, none⟩) n n, .slice none 0 0] 76 (0, 0)))
    (h1 : W.heap[g1]? = some (.cells (madeCells #[Value.bool false] n) 4 (0, 0))) (h2 : W.heap[g2]? = some (.cells (madeCells #[Value.int .u64 0] n) 40 (0, 0))) (hc : B ≤ c) (hg1 : B ≤ g1) (hg2 : B ≤ g2) : IsRef W c (fresh n) (fun k => B ≤ k) := by
  have e1 : (madeCells #[Value.bool false] n).toList = useL (fresh n) := by
    apply List.ext_getElem
    · simp [madeCells, useL, fresh]
    · intro i h1 h2; simp [madeCells, useL, fresh, Ar.inUse, Nat.mod_one]
  have e2 : (madeCells #[Value.int .u64 0] n).toList = cntL (fresh n) := by
    apply List.ext_getElem
    · simp [madeCells, cntL, fresh]
    · intro i h1 h2; simp [madeCells, cntL, fresh, Ar.count, Nat.mod_one]
  refine ⟨_, _, _, ⟨hh, ⟨by simp [useL, fresh], Or.inr ⟨g1, n, _, rfl, Nat.zero_le _, h1, by simp [fresh], by unfold maxLen; omega, by simp [madeCells], ?_⟩⟩, ⟨by simp [cntL, fresh], Or.inr ⟨g2, n, _, rfl, Nat.zero_le _, h2, by simp [fresh], by unfold maxLen; omega, by simp [madeCells], ?_⟩⟩, World.ownsRow_nil _ _ _ _⟩,
    ⟨Nat.zero_le _, hn, by simp [fresh], by simp [fresh]⟩, fun k hk => ?_⟩
  · rw [← e1]; exact List.take_of_length_le (by simp [madeCells, fresh])
  · rw [← e2]; exact List.take_of_length_le (by simp [madeCells, fresh])
  · rcases hk with rfl | hk | hk | hk
    · exact hc
    · simp [Value.ownBlock] at hk; omega
    · simp [Value.ownBlock] at hk; omega
    · simp [Value.ownBlock] at hk
set_option maxHeartbeats 2000000 in
theorem rnew_yes (n : Nat) (w : World) (h : n ≤ 65536) :
    Calls Try.prog 23 #[.int .i64 n] w fun e w' => ∃ c, e = .returned (.tuple #[.pointer (some ⟨c, 0, none⟩), .int .i64 0]) ∧ IsRef w' c (fresh n) (fun k => w.heap.size ≤ k) ∧ Below w.heap.size w w' := by
  obtain ⟨CB, hCB⟩ : ∃ C, C = madeCells #[Value.bool false] n := ⟨_, rfl⟩
  obtain ⟨CI, hCI⟩ : ∃ C, C = madeCells #[Value.int .u64 0] n := ⟨_, rfl⟩
  have m1 : ∀ w, (Instr.makeSlice 65 (.int .i64 (n : Int)) (.int .i64 (n : Int))).run Try.prog w = .ok (.slice (some ⟨w.heap.size, 0, none⟩) n n) (w.alloc (.cells CB 4)) := by
    rw [hCB]; exact run_make_row' (P := Try.prog) 65 4 (.bool false) 1 Try.underlying65 info4 rfl .i64 .i64 n (by omega) (by omega)
  have m2 : ∀ w, (Instr.makeSlice 74 (.int .i64 (n : Int)) (.int .i64 (n : Int))).run Try.prog w = .ok (.slice (some ⟨w.heap.size, 0, none⟩) n n) (w.alloc (.cells CI 40)) := by
    rw [hCI]; exact run_make_row' (P := Try.prog) 74 40 (.int .u64 0) 8 Try.underlying74 info40 rfl .i64 .i64 n (by omega) (by omega)
  have h0 : (0 : Int) ≤ n := by omega
  have HB := Lib.hid hCB; have HI := Lib.hid hCI
  clear hCB hCI
  go_enter Try.func23, Try.ntmps23
  go_wp2
  go_region
  all_goals go_wp2
  all_goals go_ret2
  all_goals clear m1 m2
  all_goals
    have e1 := HB.out
    have e2 := HI.out
    subst e1 e2
    first
    | exact ⟨_, rfl, new_ref (g1 := w.heap.size) (g2 := w.heap.size + 1) h (block_drew (three_blocks _ _ _ _).1) (block_drew (three_blocks _ _ _ _).2.1) (block_drew (three_blocks _ _ _ _).2.2) (by omega) (by omega) (by omega), Below.drew (Below.alloc (Below.alloc (Below.alloc (Below.refl _ _) (Nat.le_refl _) _) (by simp) _) (by simp; omega) _)⟩
    | exact ⟨_, rfl, new_ref (g1 := w.heap.size + 1) (g2 := w.heap.size) h (block_drew (three_blocks _ _ _ _).1) (block_drew (three_blocks _ _ _ _).2.2) (block_drew (three_blocks _ _ _ _).2.1) (by omega) (by omega) (by omega), Below.drew (Below.alloc (Below.alloc (Below.alloc (Below.refl _ _) (Nat.le_refl _) _) (by simp) _) (by simp; omega) _)⟩
theorem rnew_no (s : Int) (w : World) (h : s < 0 ∨ 65536 < s) :
    Calls Try.prog 23 #[.int .i64 s] w fun e w' => e = .returned (.tuple #[.pointer none, .int .i64 2]) ∧ w = w' := by
  by_cases h0 : s < 0
  · clear h
    go_enter Try.func23, Try.ntmps23
    go_wp2
    go_ret2
    exact ⟨rfl, rfl⟩
  · have h1 : 65536 < s := by omega
    clear h
    go_enter Try.func23, Try.ntmps23
    go_wp2
    go_ret2
    exact ⟨rfl, rfl⟩
theorem tkn_fresh (n : Nat) (m : Int) : Tkn (fresh n) m := fun i hi => absurd hi (Nat.not_lt_zero _)
set_option maxHeartbeats 1000000 in
theorem news_law (s i : Int) (w : World) (hs : (Lit.int .i64 s).wf = true) (hi : (Lit.int .i64 i).wf = true) :
    Calls Try.prog 6 #[.int .i64 s, .int .i64 i] w fun e w' => e = .returned (.bool true) ∧ Below w.heap.size w w' := by
  clear hs hi
  by_cases hr : 0 ≤ s ∧ s ≤ 65536
  · obtain ⟨n, rfl⟩ := Int.eq_ofNat_of_zero_le hr.1
    have hn : n ≤ 65536 := by omega
    clear hr
    go_enter Try.func6, Try.ntmps6
    go_wp2_with fail
    refine (new_is n _ hn).mono ?_; rintro e w1 ⟨rfl, hia, hb, hsz⟩
    have I1 := Lib.hid hia; have B1 := Lib.hid hb
    clear hia hb hsz
    go_wp2_with fail
    refine (rnew_yes n _ hn).mono ?_; rintro e w2 ⟨c, rfl, hir, hb⟩
    have I2 := Lib.hid (I1.out.below hb); have R2 := Lib.hid hir; have B2 := Lib.hid (B1.out.trans (hb.mono B1.out.size))
    clear hir hb
    go_wp2_with fail
    refine (agree_yes I2.out R2.out (tkn_fresh n 0) i).mono ?_; rintro e w3 ⟨rfl, hb⟩
    have B3 := Lib.hid (B2.out.trans (hb.mono B2.out.size)); clear hb
    go_wp2_with fail
    refine (works_any _).mono ?_; rintro e w4 ⟨rfl, hb⟩
    have B4 := Lib.hid (B3.out.trans (hb.mono B3.out.size)); clear hb
    go_wp2_with fail
    go_ret
    exact ⟨rfl, B4.out⟩
  · have hf : s < 0 ∨ 65536 < s := by omega
    have HF := Lib.hid hf
    clear hr hf
    go_enter Try.func6, Try.ntmps6
    go_wp2_with fail
    refine (new_no s _ HF.out).mono ?_; rintro e w1 ⟨rfl, rfl⟩
    go_wp2_with fail
    refine (rnew_no s _ HF.out).mono ?_; rintro e w2 ⟨rfl, rfl⟩
    go_wp2_with fail
    refine (agree_no _ i).mono ?_; rintro e w3 ⟨rfl, hb⟩
    have B3 := Lib.hid hb; clear hb
    go_wp2_with fail
    refine (works_any _).mono ?_; rintro e w4 ⟨rfl, hb⟩
    have B4 := Lib.hid (B3.out.trans (hb.mono B3.out.size)); clear hb
    go_wp2_with fail
    go_ret
    exact ⟨rfl, B4.out⟩
end Go.Proofs.Ytndiaflbagikoaa

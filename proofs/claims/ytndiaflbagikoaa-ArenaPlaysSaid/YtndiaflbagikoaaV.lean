/- Arenas that are not valid: every function returns nothing. -/
import Derived.Test.YtndiaflbagikoaaT
namespace Go.Proofs.Ytndiaflbagikoaa
open Go.ChangeShapes Go.WideShapes Go.ChangeAt Go.RowKit

/-- A pointer to no arena, or to one that New did not make. -/
def Bad (w : World) (p : Value) : Prop := p = .pointer none ∨ ∃ b, p = .pointer (some ⟨b, 0, none⟩) ∧ w.cell? ⟨b, 0, none⟩ = some (.pointer none)
theorem run_eql_nil_ptr {P : Program} (w : World) {tp te : TypeId} (a : Addr) (hp : P.underlying tp = some (.pointer te)) : (binOp .eql tp (.pointer none) (.pointer (some a))).run P w = .ok (.bool false) w := by
  have h : ∀ d : Nat, (Op.equalIn (d + 1) tp (.pointer none) (.pointer (some a))).run P w = .ok false w := fun d => by
    simp [Op.equalIn, run_underlying hp]
  simp only [binOp]
  simp [Op.equal, Op.maxDepth, h 9999]
theorem valid_no {w : World} {p : Value} (h : Bad w p) : Calls Try.prog 31 #[p] w fun e w' => e = .returned (.bool false) ∧ w = w' := by
  rcases h with rfl | ⟨b, rfl, hc⟩
  · go_enter Try.func31, Try.ntmps31
    go_wp2
    go_ret
    exact ⟨rfl, rfl⟩
  · have hE := run_eql_nil_ptr (P := Try.prog) w ⟨b, 0, none⟩ Try.underlying23
    go_enter Try.func31, Try.ntmps31
    go_wp2
    go_ret
    exact ⟨rfl, rfl⟩
theorem alloc_no {w : World} {p : Value} (h : Bad w p) : Calls Try.prog 18 #[p] w fun e w' => e = .returned (.tuple #[.int .i64 0, .int .i64 1]) ∧ w = w' := by
  have H := Lib.hid (valid_no h)
  clear h
  go_enter Try.func18, Try.ntmps18
  go_wp2_with (go_at_call 31; refine (H.out).mono ?_; rintro e w' ⟨rfl, rfl⟩)
  go_ret2
  exact ⟨rfl, rfl⟩
theorem free_no {w : World} {p : Value} (h : Bad w p) (i : Int) : Calls Try.prog 16 #[p, .int .i64 i] w fun e w' => e = .returned (.int .i64 1) ∧ w = w' := by
  have H := Lib.hid (valid_no h)
  clear h
  go_enter Try.func16, Try.ntmps16
  go_wp2_with (go_at_call 31; refine (H.out).mono ?_; rintro e w' ⟨rfl, rfl⟩)
  go_ret
  exact ⟨rfl, rfl⟩
theorem used_no {w : World} {p : Value} (h : Bad w p) (i : Int) : Calls Try.prog 15 #[p, .int .i64 i] w fun e w' => e = .returned (.bool false) ∧ w = w' := by
  have H := Lib.hid (valid_no h)
  clear h
  go_enter Try.func15, Try.ntmps15
  go_wp2_with (go_at_call 31; refine (H.out).mono ?_; rintro e w' ⟨rfl, rfl⟩)
  go_ret
  exact ⟨rfl, rfl⟩
theorem next_no {w : World} {p : Value} (h : Bad w p) : Calls Try.prog 17 #[p] w fun e w' => e = .returned (.tuple #[.int .i64 0, .bool false]) ∧ w = w' := by
  have H := Lib.hid (valid_no h)
  clear h
  go_enter Try.func17, Try.ntmps17
  go_wp2_with (go_at_call 31; refine (H.out).mono ?_; rintro e w' ⟨rfl, rfl⟩)
  go_ret2
  exact ⟨rfl, rfl⟩
theorem times_no {w : World} {p : Value} (h : Bad w p) (i : Int) : Calls Try.prog 19 #[p, .int .i64 i] w fun e w' => e = .returned (.int .u64 0) ∧ w = w' := by
  have H := Lib.hid (valid_no h)
  clear h
  go_enter Try.func19, Try.ntmps19
  go_wp2_with (go_at_call 31; refine (H.out).mono ?_; rintro e w' ⟨rfl, rfl⟩)
  go_ret
  exact ⟨rfl, rfl⟩
theorem len_no {w : World} {p : Value} (h : Bad w p) : Calls Try.prog 20 #[p] w fun e w' => e = .returned (.int .i64 0) ∧ w = w' := by
  have H := Lib.hid (valid_no h)
  clear h
  go_enter Try.func20, Try.ntmps20
  go_wp2_with (go_at_call 31; refine (H.out).mono ?_; rintro e w' ⟨rfl, rfl⟩)
  go_ret
  exact ⟨rfl, rfl⟩
theorem cap_no {w : World} {p : Value} (h : Bad w p) : Calls Try.prog 25 #[p] w fun e w' => e = .returned (.int .i64 0) ∧ w = w' := by
  have H := Lib.hid (valid_no h)
  clear h
  go_enter Try.func25, Try.ntmps25
  go_wp2_with (go_at_call 31; refine (H.out).mono ?_; rintro e w' ⟨rfl, rfl⟩)
  go_ret
  exact ⟨rfl, rfl⟩
theorem list_no {w : World} {p : Value} (h : Bad w p) : Calls Try.prog 21 #[p] w fun e w' => e = .returned (.slice none 0 0) ∧ w = w' := by
  have H := Lib.hid (valid_no h)
  clear h
  go_enter Try.func21, Try.ntmps21
  go_wp2_with (go_at_call 31; refine (H.out).mono ?_; rintro e w' ⟨rfl, rfl⟩)
  go_ret
  exact ⟨rfl, rfl⟩
theorem copy_no {w : World} {p : Value} (h : Bad w p) : Calls Try.prog 27 #[p] w fun e w' => e = .returned (.pointer none) ∧ w = w' := by
  have H := Lib.hid (valid_no h)
  clear h
  go_enter Try.func27, Try.ntmps27
  go_wp2_with (go_at_call 31; refine (H.out).mono ?_; rintro e w' ⟨rfl, rfl⟩)
  go_ret
  exact ⟨rfl, rfl⟩
theorem rvalid_no (w : World) : Calls Try.prog 40 #[.pointer none] w fun e w' => e = .returned (.bool false) ∧ w = w' := by
  go_enter Try.func40, Try.ntmps40
  go_wp2
  go_ret
  exact ⟨rfl, rfl⟩
theorem rexists_no (w : World) (i : Int) : Calls Try.prog 41 #[.pointer none, .int .i64 i] w fun e w' => e = .returned (.bool false) ∧ w = w' := by
  go_enter Try.func41, Try.ntmps41
  go_wp2_with (go_at_call 40; refine (rvalid_no _).mono ?_; rintro e w' ⟨rfl, rfl⟩)
  go_ret
  exact ⟨rfl, rfl⟩
theorem ralloc_no (w : World) : Calls Try.prog 28 #[.pointer none] w fun e w' => e = .returned (.tuple #[.int .i64 0, .int .i64 1]) ∧ w = w' := by
  go_enter Try.func28, Try.ntmps28
  go_wp2_with (go_at_call 40; refine (rvalid_no _).mono ?_; rintro e w' ⟨rfl, rfl⟩)
  go_ret2
  exact ⟨rfl, rfl⟩
theorem rfree_no (w : World) (i : Int) : Calls Try.prog 29 #[.pointer none, .int .i64 i] w fun e w' => e = .returned (.int .i64 1) ∧ w = w' := by
  go_enter Try.func29, Try.ntmps29
  go_wp2_with (go_at_call 40; refine (rvalid_no _).mono ?_; rintro e w' ⟨rfl, rfl⟩)
  go_ret
  exact ⟨rfl, rfl⟩
theorem rused_no (w : World) (i : Int) : Calls Try.prog 35 #[.pointer none, .int .i64 i] w fun e w' => e = .returned (.bool false) ∧ w = w' := by
  go_enter Try.func35, Try.ntmps35
  go_wp2_with (go_at_call 41; refine (rexists_no _ _).mono ?_; rintro e w' ⟨rfl, rfl⟩)
  go_ret
  exact ⟨rfl, rfl⟩
theorem rnext_no (w : World) : Calls Try.prog 34 #[.pointer none] w fun e w' => e = .returned (.tuple #[.int .i64 0, .bool false]) ∧ w = w' := by
  go_enter Try.func34, Try.ntmps34
  go_wp2_with (go_at_call 40; refine (rvalid_no _).mono ?_; rintro e w' ⟨rfl, rfl⟩)
  go_ret2
  exact ⟨rfl, rfl⟩
theorem rtimes_no (w : World) (i : Int) : Calls Try.prog 36 #[.pointer none, .int .i64 i] w fun e w' => e = .returned (.int .u64 0) ∧ w = w' := by
  go_enter Try.func36, Try.ntmps36
  go_wp2_with (go_at_call 41; refine (rexists_no _ _).mono ?_; rintro e w' ⟨rfl, rfl⟩)
  go_ret
  exact ⟨rfl, rfl⟩
theorem rlist_no (w : World) : Calls Try.prog 39 #[.pointer none] w fun e w' => e = .returned (.slice none 0 0) ∧ w = w' := by
  go_enter Try.func39, Try.ntmps39
  go_wp2_with (go_at_call 40; refine (rvalid_no _).mono ?_; rintro e w' ⟨rfl, rfl⟩)
  go_ret
  exact ⟨rfl, rfl⟩
theorem rlen_no (w : World) : Calls Try.prog 37 #[.pointer none] w fun e w' => e = .returned (.int .i64 0) ∧ w = w' := by
  go_enter Try.func37, Try.ntmps37
  go_wp2_with (go_at_call 39; refine (rlist_no _).mono ?_; rintro e w' ⟨rfl, rfl⟩)
  go_ret
  exact ⟨rfl, rfl⟩
theorem rcap_no (w : World) : Calls Try.prog 38 #[.pointer none] w fun e w' => e = .returned (.int .i64 0) ∧ w = w' := by
  go_enter Try.func38, Try.ntmps38
  go_wp2_with (go_at_call 40; refine (rvalid_no _).mono ?_; rintro e w' ⟨rfl, rfl⟩)
  go_ret
  exact ⟨rfl, rfl⟩
theorem rcopy_no (w : World) : Calls Try.prog 30 #[.pointer none] w fun e w' => e = .returned (.pointer none) ∧ w = w' := by
  go_enter Try.func30, Try.ntmps30
  go_wp2_with (go_at_call 40; refine (rvalid_no _).mono ?_; rintro e w' ⟨rfl, rfl⟩)
  go_ret
  exact ⟨rfl, rfl⟩
/-- agree, of two that are nil. -/
theorem agree_no (w : World) (i : Int) : Calls Try.prog 24 #[.pointer none, .pointer none, .int .i64 i] w fun e w' => e = .returned (.bool true) ∧ Below w.heap.size w w' := by
  have h : ∀ w : World, Bad w (.pointer none) := fun w => Or.inl rfl
  have H := Lib.hid h
  clear h
  go_enter Try.func24, Try.ntmps24
  go_wp2_with (first | (go_at_call 17; refine (next_no (H.out _)).mono ?_; rintro e w' ⟨rfl, rfl⟩) | (go_at_call 34; refine (rnext_no _).mono ?_; rintro e w' ⟨rfl, rfl⟩) | (go_at_call 15; refine (used_no (H.out _) _).mono ?_; rintro e w' ⟨rfl, rfl⟩) | (go_at_call 35; refine (rused_no _ _).mono ?_; rintro e w' ⟨rfl, rfl⟩) | (go_at_call 19; refine (times_no (H.out _) _).mono ?_; rintro e w' ⟨rfl, rfl⟩) | (go_at_call 36; refine (rtimes_no _ _).mono ?_; rintro e w' ⟨rfl, rfl⟩) | (go_at_call 20; refine (len_no (H.out _)).mono ?_; rintro e w' ⟨rfl, rfl⟩) | (go_at_call 37; refine (rlen_no _).mono ?_; rintro e w' ⟨rfl, rfl⟩) | (go_at_call 25; refine (cap_no (H.out _)).mono ?_; rintro e w' ⟨rfl, rfl⟩) | (go_at_call 38; refine (rcap_no _).mono ?_; rintro e w' ⟨rfl, rfl⟩) | (go_at_call 21; refine (list_no (H.out _)).mono ?_; rintro e w' ⟨rfl, rfl⟩) | (go_at_call 39; refine (rlist_no _).mono ?_; rintro e w' ⟨rfl, rfl⟩))
  refine (same_yes (IsInts.nil _ _) (IsInts.nil _ _)).mono ?_; rintro e w' ⟨rfl, hb⟩
  have B := Lib.hid hb; clear hb
  go_wp2_with fail
  go_ret
  exact ⟨rfl, B.out⟩
def NilRel (w : World) (g : Nat) (vi : Value) (wr : World) : Prop :=
  ∃ (k : Nat), k ≤ 2 ∧ vi = .int .i64 k ∧ w.heap.size < g ∧ wr.heap[g]? = some (.cells #[.pointer none, .pointer (some ⟨w.heap.size, 0, none⟩)] 23 (0, 0)) ∧ wr.cell? ⟨w.heap.size, 0, none⟩ = some (.pointer none) ∧ Below w.heap.size w wr
theorem nil_start (w : World) : NilRel w (w.heap.size + 1) (.int .i64 0) ((w.alloc (.cells #[.pointer none, .slice none 0 0, .int .i64 0, .int .i64 0, .int .i64 0, .int .i64 0] 63)).alloc (.cells #[.pointer none, .pointer (some ⟨w.heap.size, 0, none⟩)] 23)) := by
  refine ⟨0, by omega, rfl, by omega, ?_, cell_alloc (cell_of (block_new _ _) 0) _, Below.alloc (Below.alloc (Below.refl _ _) (Nat.le_refl _) _) (by simp) _⟩
  have := block_new (w.alloc (.cells #[.pointer none, .slice none 0 0, .int .i64 0, .int .i64 0, .int .i64 0, .int .i64 0] 63)) (.cells #[.pointer none, .pointer (some ⟨w.heap.size, 0, none⟩)] 23)
  simpa using this
set_option maxHeartbeats 2000000 in
theorem nil_law (i : Int) (w : World) (hi : (Lit.int .i64 i).wf = true) : Calls Try.prog 11 #[.int .i64 i] w fun e w' => e = .returned (.bool true) ∧ Below w.heap.size w w' := by
  clear hi
  go_enter Try.func11, Try.ntmps11
  go_wp2_with fail
  go_loopw [2, 5, 6, 7, 8, 9, 10] (fun _ vi _ _ _ _ _ wr => NilRel w (w.heap.size + 1) vi wr) (fun _ vi _ _ _ _ _ _ => 2 - (intOf vi).toNat)
  case atStart => exact nil_start w
  case round =>
    obtain ⟨k, hk, rfl, hg, hb, hc, hbl⟩ := hrel
    have HB := Lib.hid hb; have HC := Lib.hid hc; have BL := Lib.hid hbl
    clear hg hb hc hbl
    by_cases hlt : k < 2
    · obtain ⟨p, hp, hbad⟩ : ∃ p, wr.cell? ⟨w.heap.size + 1, k, none⟩ = some p ∧ Bad wr p := by
        rw [cell_of HB.out]
        rcases (show k = 0 ∨ k = 1 by omega) with rfl | rfl
        · exact ⟨_, rfl, Or.inl rfl⟩
        · exact ⟨_, rfl, Or.inr ⟨_, rfl, HC.out⟩⟩
      have BD := Lib.hid hbad; clear hbad
      go_wp2_with (first | (go_at_call 17; refine (next_no BD.out).mono ?_; rintro e w' ⟨rfl, rfl⟩) | (go_at_call 18; refine (alloc_no BD.out).mono ?_; rintro e w' ⟨rfl, rfl⟩) | (go_at_call 15; refine (used_no BD.out _).mono ?_; rintro e w' ⟨rfl, rfl⟩) | (go_at_call 16; refine (free_no BD.out _).mono ?_; rintro e w' ⟨rfl, rfl⟩) | (go_at_call 19; refine (times_no BD.out _).mono ?_; rintro e w' ⟨rfl, rfl⟩) | (go_at_call 20; refine (len_no BD.out).mono ?_; rintro e w' ⟨rfl, rfl⟩) | (go_at_call 25; refine (cap_no BD.out).mono ?_; rintro e w' ⟨rfl, rfl⟩) | (go_at_call 21; refine (list_no BD.out).mono ?_; rintro e w' ⟨rfl, rfl⟩) | (go_at_call 27; refine (copy_no BD.out).mono ?_; rintro e w' ⟨rfl, rfl⟩))
      go_roundw
      case rel => exact ⟨k + 1, by omega, by go_num, by omega, HB.out, HC.out, BL.out⟩
      case measure => simp [intOf]; omega
    · go_wp2_with fail
      refine (works_any _).mono ?_; rintro e w6 ⟨rfl, hb⟩
      have B6 := Lib.hid (BL.out.trans (hb.mono BL.out.size)); clear hb
      go_wp2_with fail
      go_ret
      exact ⟨rfl, B6.out⟩
end Go.Proofs.Ytndiaflbagikoaa

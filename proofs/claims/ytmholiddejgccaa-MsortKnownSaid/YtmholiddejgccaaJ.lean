/- Perm of the program. -/
import Derived.Test.YtmholiddejgccaaI
import Derived.Test.YtmholiddejgccaaH
import Derived.Deep.OwnRows
import Derived.Laws.EntriesVeiled
namespace Go.Proofs.Ytmholiddejgccaa
open Go.ChangeShapes Go.WideShapes Go.ChangeAt Go.RowKit

/-- The order of the indexes of a list. -/
def ltI (lt : Rc → Rc → Bool) (zs : List Rc) (i j : Nat) : Bool := lt (zs.getD i d0) (zs.getD j d0)
def ltF (lt : Rc → Rc → Bool) (zs : List Rc) (i j : Fin zs.length) : Bool := ltI lt zs i.val j.val
theorem swoI {lt : Rc → Rc → Bool} (h : SWO lt) (zs : List Rc) : SWO (ltI lt zs) := h.map (fun i => zs.getD i d0)
/-- The document's order: the indexes, sorted. -/
def prm (lt : Rc → Rc → Bool) (zs : List Rc) : List Nat := arr (ltI lt zs) (List.range zs.length)
theorem arrF (lt : Rc → Rc → Bool) (zs : List Rc) : (arr (ltF lt zs) (List.finRange zs.length)).map Fin.val = prm lt zs := by
  have h := arr_map (lt := ltI lt zs) (fun i : Fin zs.length => i.val) (List.finRange zs.length)
  have e : (List.finRange zs.length).map (fun i => i.val) = List.range zs.length := by
    apply List.ext_getElem
    · simp
    · intro i h1 h2; simp
  rw [e] at h
  exact h.symm
theorem sortI (lt : Rc → Rc → Bool) (zs : List Rc) : arr lt zs = (prm lt zs).map (fun i => zs.getD i d0) := by
  have h := arr_map (lt := lt) (fun i : Nat => zs.getD i d0) (List.range zs.length)
  have e : (List.range zs.length).map (fun i => zs.getD i d0) = zs := by
    apply List.ext_getElem
    · simp
    · intro i h1 h2; simp at h1 ⊢; simp [h1]
  rw [e] at h
  exact h
theorem prm_len (lt : Rc → Rc → Bool) (zs : List Rc) : (prm lt zs).length = zs.length := by unfold prm; rw [arr_length]; simp
theorem prm_lt {lt : Rc → Rc → Bool} {zs : List Rc} {i : Nat} (h : i ∈ prm lt zs) : i < zs.length := by
  have := (arr_perm _).mem_iff.1 h; simpa using this
set_option maxHeartbeats 1000000 in
theorem clo_any {k : Int} (hk : kn k) {w : World} {b off la ca p q : Nat} {zs : List Rc} (h : IsSl 4 encR w (some ⟨b, off, none⟩) la ca zs) (hp : w.heap[p]? = some (.cells #[.func (.func (fnK k)) #[] #[]] 50 (0, 0))) (hq : w.heap[q]? = some (.cells #[.slice (some ⟨b, off, none⟩) la ca] 31 (0, 0))) (i j : Fin zs.length) :
    Calls Try.prog 35 #[.int .i64 (i.val : Nat), .int .i64 (j.val : Nat), .pointer (some ⟨p, 0, none⟩), .pointer (some ⟨q, 0, none⟩)] w fun e w' => e = .returned (.bool (ltF (ltK k) zs i j)) ∧ Below w.heap.size w w' := by
  have hent := entK hk
  have HL := Lib.hid (fun W => lessK hk (zs.getD i.val d0) (zs.getD j.val d0) W)
  have hr : ltF (ltK k) zs i j = ltK k (zs.getD i.val d0) (zs.getD j.val d0) := rfl
  rw [hr]
  have cp := cell_of hp 0; have cq := cell_of hq 0
  simp at cp cq
  obtain ⟨x0, x1, x2, x3⟩ := at4 h i.isLt d0
  obtain ⟨y0, y1, y2, y3⟩ := at4 h j.isLt d0
  have hal := h.hlen; have hac := h.hle; have ham := h.hmax
  unfold maxLen at ham
  have hi := i.isLt; have hj := j.isLt
  have hi1 : ((i.val : Nat) : Int) < (la : Int) := by omega
  have hj1 : ((j.val : Nat) : Int) < (la : Int) := by omega
  have hi2 : i.val < la := by omega
  have hj2 : j.val < la := by omega
  clear hk h hp hq hr hal
  generalize fnK k = f at *
  generalize ltK k (zs.getD i.val d0) (zs.getD j.val d0) = res at *
  generalize zs.getD i.val d0 = x at *
  generalize zs.getD j.val d0 = y at *
  generalize i.val = i at *
  generalize j.val = j at *
  go_enter Try.func35, Try.ntmps35
  go_wp2_with fail
  go_still_tail 9, (by kernel_rfl)
  go_wp2_with fail
  refine (HL.out _).mono ?_; rintro e w3 ⟨rfl, hb⟩
  have B := Lib.hid ((Below.drew (Below.refl w.heap.size w)).trans hb)
  clear hb
  go_wp2_with fail
  go_ret
  exact ⟨rfl, B.out⟩
/-- The first k of n indexes are laid. -/
def idxs (n k : Nat) : Array Value := ((List.range n).map fun i => if i < k then Value.int .i64 (i : Nat) else .int .i64 0).toArray
theorem idxs_0 (n : Nat) : madeCells #[Value.int .i64 0] n = idxs n 0 := by
  apply Array.ext
  · simp [madeCells, idxs]
  · intro i h1 h2; simp [madeCells, idxs, Nat.mod_one]
theorem idxs_set {n k : Nat} : (idxs n k).setIfInBounds k (.int .i64 (k : Nat)) = idxs n (k + 1) := by
  apply Array.ext
  · simp [idxs]
  · intro i h1 h2
    simp [idxs] at h1
    rw [Array.getElem_setIfInBounds (by simpa [idxs] using h1)]
    by_cases e : k = i
    · subst e; simp [idxs]
    · rw [if_neg e]
      simp only [idxs, List.getElem_toArray, List.getElem_map, List.getElem_range]
      by_cases h : i < k
      · rw [if_pos h, if_pos (by omega)]
      · rw [if_neg h, if_neg (by omega)]
theorem idxs_cell {n k i : Nat} (hi : i < n) : (idxs n k)[i]? = some (.int .i64 (if i < k then (i : Int) else 0)) := by
  simp [idxs, hi]; split <;> rfl
theorem idxs_sl {w : World} {g : Nat} {zs : List Rc} {n : Nat} (hn : n = zs.length) (hm : n ≤ maxLen) (h : w.heap[g]? = some (.cells (idxs n n) 3 (0, 0))) : IsSl 1 encF w (some ⟨g, 0, none⟩) n n (List.finRange zs.length) := by
  refine ⟨by simp [hn], Nat.le_refl _, hm, fun h => (by cases h), fun _ => ⟨g, 0, rfl, lt_of_block h, fun i hi j hj => ?_⟩⟩
  obtain rfl : j = 0 := by omega
  simp at hi
  rw [cell_of h, show 0 + i * 1 + 0 = i by omega, idxs_cell (by omega), if_pos (by omega)]
  simp [encF]
theorem flatN {m : Nat} (l : List (Fin m)) : flat encN (l.map Fin.val) = flat encF l := by
  simp [flat, List.flatMap_map]; rfl
theorem three_blocks (w : World) (a b c : Obj) : (((w.alloc a).alloc b).alloc c).heap[w.heap.size]? = some a ∧ (((w.alloc a).alloc b).alloc c).heap[w.heap.size + 1]? = some b ∧ (((w.alloc a).alloc b).alloc c).heap[w.heap.size + 1 + 1]? = some c := by
  have h1 := block_new ((w.alloc a).alloc b) c
  rw [show ((w.alloc a).alloc b).heap.size = w.heap.size + 1 + 1 by simp] at h1
  exact ⟨block_old (two_blocks w a b).1 c, block_old (two_blocks w a b).2 c, h1⟩
def PermRel (w : World) (n g : Nat) (p q : Obj) (vi : Value) (wr : World) : Prop :=
  ∃ k : Nat, k ≤ n ∧ vi = .int .i64 k ∧ wr.heap[w.heap.size]? = some q ∧ wr.heap[w.heap.size + 1]? = some p ∧ wr.heap[g]? = some (.cells (idxs n k) 3 (0, 0)) ∧ Below w.heap.size w wr
theorem ent35 : ∀ (args : Array Value) (w : World), (callFunc 35 args).run Try.prog w = .ok (.enter 35 args) w := enters_of Try.func35 (by kernel_rfl) rfl
set_option maxRecDepth 100000 in
set_option maxHeartbeats 4000000 in
theorem perm_yes {k : Int} (hk : kn k) {w : World} {aa : Option Addr} {la ca : Nat} {zs : List Rc} (h : IsSl 4 encR w aa la ca zs) (hl : la ≤ 65536) :
    Calls Try.prog 18 #[.slice aa la ca, .int .i64 k] w fun e w' => ∃ v', e = .returned (.tuple #[v', .int .i64 0]) ∧ OutR 1 encN 3 w' w.heap.size v' (prm (ltK k) zs) ∧ Below w.heap.size w w' := by
  have HC := Lib.hid (fun w => pcheck_ok hk (n := la) (by omega) w)
  have HK := Lib.hid hk
  have hal := h.hlen; have hac := h.hle; have ham := h.hmax
  unfold maxLen at ham
  have H := Lib.hid h
  have HAL := Lib.hid hal
  obtain ⟨CI, hCI⟩ : ∃ C, C = madeCells #[Value.int .i64 0] la := ⟨_, rfl⟩
  have m1 : ∀ w, (Instr.makeSlice 35 (.int .i64 (la : Int)) (.int .i64 (la : Int))).run Try.prog w = .ok (.slice (some ⟨w.heap.size, 0, none⟩) la la) (w.alloc (.cells CI 3)) := by
    rw [hCI]; exact run_make_row' (P := Try.prog) 35 3 (.int .i64 0) 8 Try.underlying35 info3 rfl .i64 .i64 la (by omega) (by omega)
  have HCI := Lib.hid hCI
  clear hk h hal hCI
  generalize hf : fnK k = f at *
  have HF := Lib.hid hf
  clear hf
  go_enter Try.func18, Try.ntmps18
  go_wp2_with fail
  refine (HC.out _).mono ?_; rintro e w' ⟨rfl, rfl⟩
  go_wp2_with fail
  go_loopw [9, 27] (fun _ vi wr => PermRel w la (w.heap.size + 1 + 1) (.cells #[.func (.func f) #[] #[]] 50) (.cells #[.slice aa la ca] 31) vi wr) (fun _ vi _ => la - (intOf vi).toNat)
  case atStart =>
    have e := HCI.out
    subst e
    exact ⟨0, Nat.zero_le _, rfl, (three_blocks _ _ _ _).1, (three_blocks _ _ _ _).2.1, by rw [(three_blocks _ _ _ _).2.2, idxs_0], Below.alloc (below2 w _ _) (by simp; omega) _⟩
  case round =>
    clear m1
    obtain ⟨j, hj, rfl, hq, hp, hg, hbl⟩ := hrel
    have HQ := Lib.hid hq; have HP := Lib.hid hp; have HG := Lib.hid hg; have BL := Lib.hid hbl
    clear hq hp hg hbl
    by_cases hlt : j < la
    · have cg : wr.cell? ⟨w.heap.size + 1 + 1, j, none⟩ = some (.int .i64 (if j < j then (j : Int) else 0)) := by rw [cell_of HG.out, idxs_cell hlt]
      rw [if_neg (Nat.lt_irrefl j)] at cg
      have fg := free_of HG.out j
      go_wp2_with fail
      have hst := set_of HG.out j (.int .i64 (j : Nat))
      rw [idxs_set] at hst
      have HG2 := Lib.hid hst
      have HQ2 := Lib.hid (block_set HQ.out (p := ⟨w.heap.size + 1 + 1, j, none⟩) (by show w.heap.size ≠ w.heap.size + 1 + 1; omega) (.int .i64 (j : Nat)))
      have HP2 := Lib.hid (block_set HP.out (p := ⟨w.heap.size + 1 + 1, j, none⟩) (by show w.heap.size + 1 ≠ w.heap.size + 1 + 1; omega) (.int .i64 (j : Nat)))
      have BL2 := Lib.hid (BL.out.setCell (p := ⟨w.heap.size + 1 + 1, j, none⟩) (by show w.heap.size ≤ w.heap.size + 1 + 1; omega) (.int .i64 (j : Nat)))
      clear hst
      go_roundw
      case rel => exact ⟨j + 1, by omega, by go_num, HQ2.out, HP2.out, HG2.out, BL2.out⟩
      case measure => simp [intOf]; omega
    · obtain rfl : j = la := by omega
      have HS := Lib.hid (idxs_sl (zs := zs) HAL.out (by unfold maxLen; omega) HG.out)
      have HLW : Hid (∀ W, Below wr.heap.size wr W → ∀ x y : Fin zs.length, Calls Try.prog 35 (#[evF x, evF y] ++ #[.pointer (some ⟨w.heap.size + 1, 0, none⟩), .pointer (some ⟨w.heap.size, 0, none⟩)]) W fun e w' => e = .returned (.bool (ltF (ltK k) zs x y)) ∧ Below W.heap.size W w') := Lib.hid (fun W hW x y => by
        have hne : zs ≠ [] := fun e => by have h0 : zs.length = 0 := (by rw [e]; rfl); have := x.isLt; omega
        obtain ⟨b, off, rfl, _, _⟩ := H.out.at_ hne
        have hsz : w.heap.size ≤ W.heap.size := Nat.le_trans BL.out.size hW.size
        exact clo_any HK.out (H.out.below (BL.out.trans (hW.mono BL.out.size))) (by rw [HF.out]; exact keep_block HP.out hW) (keep_block HQ.out hW) x y)
      have AR := Lib.hid (arrangeN (lt := ltF (ltK k) zs) ent35 HLW.out (Nat.le_refl _) j wr _ j j (List.finRange zs.length) rfl hl (Below.refl wr.heap.size wr) HS.out)
      go_wp2_with fail
      refine (AR.out).mono ?_; rintro e w1 ⟨v', rfl, ho, hb⟩
      have O1 := Lib.hid ho; have B1 := Lib.hid (BL.out.trans (hb.mono BL.out.size))
      clear ho hb
      go_wp2_with fail
      go_ret2
      refine ⟨v', rfl, ⟨?_, fun g hg => Nat.le_trans BL.out.size (O1.out.blk g hg)⟩, B1.out⟩
      have := O1.out.row
      have el : (arr (ltF (ltK k) zs) (List.finRange zs.length)).length = (prm (ltK k) zs).length := by rw [← arrF, List.length_map]
      rw [el, ← flatN, arrF] at this
      exact this
theorem perm_no {k : Int} {w : World} {aa : Option Addr} {la ca : Nat} (hk : ¬ (kn k ∧ (la : Int) ≤ 65536)) :
    Calls Try.prog 18 #[.slice aa la ca, .int .i64 k] w fun e w' => e = .returned (.tuple #[.slice none 0 0, .int .i64 (errK k la)]) ∧ Below w.heap.size w w' := by
  have HC := Lib.hid (fun w => pcheck_no hk w)
  have he := (errK_cases (k := k) (n := la)).resolve_left (fun h => hk ⟨h.1, h.2.1⟩)
  obtain ⟨_, e1, e2⟩ := he
  clear hk
  generalize errK k la = er at *
  go_enter Try.func18, Try.ntmps18
  go_wp2_with fail
  refine (HC.out _).mono ?_; rintro e w' ⟨rfl, rfl⟩
  go_wp2_with fail
  go_ret2
  exact ⟨rfl, below2 w _ _⟩
end Go.Proofs.Ytmholiddejgccaa

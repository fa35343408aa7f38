/- Steps of a script on both arenas; the law ArenaPlays. -/
import Derived.Test.YtndiaflbagikoaaZc
import Derived.Deep.SlicePairs
import Derived.Deep.RegionWith
namespace Go.Proofs.Ytndiaflbagikoaa
open Go.ChangeShapes Go.WideShapes Go.ChangeAt Go.RowKit Go.Deep

theorem IsRef.newc {w : World} {b : Nat} {A : Ar} {col : Nat → Nat} {j : Nat} (h : IsRef w b A (col · = j)) (i : Nat) : IsRef w b A (newc col w.heap.size i · = j) :=
  h.mono (fun k hk hF => by rw [newc_old hk]; exact hF)
theorem IsRef.after {w w' : World} {b : Nat} {A : Ar} {col : Nat → Nat} {i j : Nat} (h : IsRef w b A (col · = j)) (ht : Touch (col · = i) w w') (hij : i ≠ j) : IsRef w' b A (Go.Proofs.Ytndiaflbagikoaa.newc col w.heap.size i · = j) :=
  (h.newc i).keep ht (fun k e e' => by
    by_cases hk : k < w.heap.size
    · rw [newc_old hk] at e; exact hij (e'.symm.trans e)
    · rw [newc_new (by omega)] at e; exact hij e)
theorem IsRef.other {w w' : World} {b : Nat} {A : Ar} {col : Nat → Nat} {i j : Nat} (h : IsRef w b A (col · = j)) (ht : Touch (col · = i) w w') (hij : i ≠ j) : IsRef w' b A (col · = j) :=
  h.keep ht (fun k e e' => hij (e'.symm.trans e))

def allocE (A : Ar) : Int := if A.next.isSome then 0 else 4
def allocA (A : Ar) : Ar := if A.next.isSome then A.pop else A
def freeE (A : Ar) (i : Int) : Int := if 0 ≤ i ∧ i < A.slots then (if A.inUse i.toNat then 0 else 5) else 3
def freeA (A : Ar) (i : Int) : Ar := if 0 ≤ i ∧ i < A.slots ∧ A.inUse i.toNat = true then A.push i.toNat else A
section
variable {w : World} {b c : Nat} {A : Ar} {col : Nat → Nat}
theorem alloc_i (h : IsAr w b A (col · = 1)) : Calls Try.prog 18 #[.pointer (some ⟨b, 0, none⟩)] w fun e w' => e = .returned (.tuple #[.int .i64 (nxt A), .int .i64 (allocE A)]) ∧ IsAr w' b (allocA A) (newc col w.heap.size 1 · = 1) ∧ Touch (col · = 1) w w' := by
  cases hn : A.next with
  | none =>
    have e1 : nxt A = 0 := by simp [nxt, hn]
    have e2 : allocE A = 4 := by simp [allocE, hn]
    have e3 : allocA A = A := by simp [allocA, hn]
    rw [e1, e2, e3]
    exact (alloc_none h hn).mono fun _ _ ⟨he, hb⟩ => ⟨he, (h.newc 1).below hb, Touch.of_below hb _⟩
  | some k =>
    have e1 : nxt A = k := by simp [nxt, hn]
    have e2 : allocE A = 0 := by simp [allocE, hn]
    have e3 : allocA A = A.pop := by simp [allocA, hn]
    rw [e1, e2, e3]
    exact alloc_col h k hn
theorem ralloc_i (h : IsRef w c A (col · = 2)) {m : Int} (hm : Tkn A m) (h0 : 0 ≤ m) (hm2 : m ≤ 1000000) : Calls Try.prog 28 #[.pointer (some ⟨c, 0, none⟩)] w fun e w' => e = .returned (.tuple #[.int .i64 (nxt A), .int .i64 (allocE A)]) ∧ IsRef w' c (allocA A) (col · = 2) ∧ Touch (col · = 2) w w' := by
  cases hn : A.next with
  | none =>
    have e1 : nxt A = 0 := by simp [nxt, hn]
    have e2 : allocE A = 4 := by simp [allocE, hn]
    have e3 : allocA A = A := by simp [allocA, hn]
    rw [e1, e2, e3]
    exact (ralloc_none h hn hm).mono fun _ _ ⟨he, hb⟩ => ⟨he, h.below hb, Touch.of_below hb _⟩
  | some k =>
    have e1 : nxt A = k := by simp [nxt, hn]
    have e2 : allocE A = 0 := by simp [allocE, hn]
    have e3 : allocA A = A.pop := by simp [allocA, hn]
    rw [e1, e2, e3]
    exact ralloc_some h k hn hm h0 hm2
theorem tkn_alloc (hg : A.Good) {m : Int} (hm : Tkn A m) (h0 : 0 ≤ m) (hm2 : m ≤ 1000000) : Tkn (allocA A) (m + 1) := by
  cases hn : A.next with
  | none => rw [show allocA A = A by simp [allocA, hn]]; exact tkn_mono hm (by omega)
  | some k => rw [show allocA A = A.pop by simp [allocA, hn]]; exact tkn_pop hg hn hm h0 hm2
theorem tkn_free {i : Int} {m : Int} (hm : Tkn A m) : Tkn (freeA A i) m := by
  unfold freeA; split
  · exact tkn_push hm
  · exact hm
theorem free_i (h : IsAr w b A (col · = 1)) (i : Int) : Calls Try.prog 16 #[.pointer (some ⟨b, 0, none⟩), .int .i64 i] w fun e w' => e = .returned (.int .i64 (freeE A i)) ∧ IsAr w' b (freeA A i) (col · = 1) ∧ Touch (col · = 1) w w' := by
  by_cases hi : 0 ≤ i ∧ i < A.slots
  · obtain ⟨k, rfl⟩ := Int.eq_ofNat_of_zero_le hi.1
    cases hu : A.inUse k
    · have e1 : freeE A k = 5 := by simp only [freeE, if_pos hi]; simp [hu]
      have e2 : freeA A k = A := by simp [freeA, hu]
      rw [e1, e2]
      exact (free_none h k (by omega) hu).mono fun _ _ ⟨he, hw⟩ => by subst hw; exact ⟨he, h, Touch.refl _ _⟩
    · have e1 : freeE A k = 0 := by simp only [freeE, if_pos hi]; simp [hu]
      have e2 : freeA A k = A.push k := by simp only [freeA]; rw [if_pos ⟨hi.1, hi.2, hu⟩]; rfl
      rw [e1, e2]
      exact free_some h k hu
  · have e1 : freeE A i = 3 := by simp only [freeE, if_neg hi]
    have e2 : freeA A i = A := by simp only [freeA]; rw [if_neg (fun h => hi ⟨h.1, h.2.1⟩)]
    rw [e1, e2]
    exact (free_far h i (by omega)).mono fun _ _ ⟨he, hw⟩ => by subst hw; exact ⟨he, h, Touch.refl _ _⟩
theorem rfree_i (h : IsRef w c A (col · = 2)) (i : Int) : Calls Try.prog 29 #[.pointer (some ⟨c, 0, none⟩), .int .i64 i] w fun e w' => e = .returned (.int .i64 (freeE A i)) ∧ IsRef w' c (freeA A i) (newc col w.heap.size 2 · = 2) ∧ Touch (col · = 2) w w' := by
  by_cases hi : 0 ≤ i ∧ i < A.slots
  · obtain ⟨k, rfl⟩ := Int.eq_ofNat_of_zero_le hi.1
    cases hu : A.inUse k
    · have e1 : freeE A k = 5 := by simp only [freeE, if_pos hi]; simp [hu]
      have e2 : freeA A k = A := by simp [freeA, hu]
      rw [e1, e2]
      exact (rfree_none h k (by omega) hu).mono fun _ _ ⟨he, hw⟩ => by subst hw; exact ⟨he, h.newc 2, Touch.refl _ _⟩
    · have e1 : freeE A k = 0 := by simp only [freeE, if_pos hi]; simp [hu]
      have e2 : freeA A k = A.push k := by simp only [freeA]; rw [if_pos ⟨hi.1, hi.2, hu⟩]; rfl
      rw [e1, e2]
      exact (rfree_some h k hu).mono fun _ _ ⟨he, hr, ht⟩ => ⟨he, hr.mono (fun n _ hn => by
        by_cases hlt : n < w.heap.size
        · rw [newc_old hlt]; exact hn.elim id (fun h => by omega)
        · exact newc_new (by omega)), ht⟩
  · have e1 : freeE A i = 3 := by simp only [freeE, if_neg hi]
    have e2 : freeA A i = A := by simp only [freeA]; rw [if_neg (fun h => hi ⟨h.1, h.2.1⟩)]
    rw [e1, e2]
    exact (rfree_far h i (by omega)).mono fun _ _ ⟨he, hw⟩ => by subst hw; exact ⟨he, h.newc 2, Touch.refl _ _⟩
end
theorem allocA_slots (A : Ar) : (allocA A).slots = A.slots := by unfold allocA; split; exact pop_slots A; rfl

/-- A slice of steps that came in. -/
structure IsSteps (w : World) (a : Option Addr) (len cap : Nat) (zs : List (Int × Int)) : Prop where
  hlen : len = zs.length
  hle : len ≤ cap
  hmax : cap ≤ maxLen
  at_ : zs ≠ [] → ∃ b off, a = some ⟨b, off, none⟩ ∧ b < w.heap.size ∧ ∀ i, i < zs.length → w.cell? ⟨b, off + i * 2, none⟩ = some (.int .i64 (zs.getD i (0, 0)).1) ∧ w.cell? ⟨b, off + i * 2 + 1, none⟩ = some (.int .i64 (zs.getD i (0, 0)).2)
theorem openArg1 {H : Type} {enc : TypeId × Value → H} {W : World} {a : Option Addr} {len cap : Nat} {d : DataW H} {p : List MemPlace}
    (h : DataW.Trod enc Try.prog W 0 (fun _ => true) true 56 (.slice a len cap) d p) : ∃ zs, IsSteps W a len cap zs := by
  obtain ⟨fuel, hf⟩ := h
  rcases open_slice_pairs Try.underlying56 Try.underlying58 (by kernel_rfl) rfl rfl (by kernel_rfl) (by kernel_rfl) hf with ⟨hcs, _⟩ | ⟨x, l, c, m, n, V0, V1, D0, D1, P0, P1, hcs, _, hl, hm, hmm, _, hx⟩
  · simp [Value.cells] at hcs
    obtain ⟨rfl, rfl, rfl⟩ := hcs
    exact ⟨[], rfl, Nat.le_refl _, Nat.zero_le _, fun h => absurd rfl h⟩
  · simp [Value.cells] at hcs
    obtain ⟨rfl, rfl, rfl⟩ := hcs
    have hmc : m = cap := by simpa using hmm
    subst hmc
    have each : ∀ i, i < len → ∃ q : Int × Int, W.cell? (x.add (i * 2)) = some (.int .i64 q.1) ∧ W.cell? (x.add (i * 2 + 1)) = some (.int .i64 q.2) := by
      intro i hi
      obtain ⟨c0, c1, t0, t1⟩ := hx i (by omega)
      obtain ⟨u, eu, _, wu⟩ := DataW.trod_int (k := .i64) (by kernel_rfl) t0
      obtain ⟨v, ev, _, wv⟩ := DataW.trod_int (k := .i64) (by kernel_rfl) t1
      simp at eu ev
      exact ⟨(u, v), by rw [c0, eu], by rw [c1, ev]⟩
    obtain ⟨f, hf'⟩ := choose_lt each
    obtain ⟨b, off, spot⟩ := x
    refine ⟨(List.range len).map f, by simp, hl, hm, fun hne => ?_⟩
    have h0 : 0 < len := by
      rcases Nat.eq_zero_or_pos len with h | h
      · subst h; simp at hne
      · exact h
    have hspot : spot = none := by simpa [Addr.add] using World.cell?_spot (hf' 0 h0).1
    subst hspot
    have e0 := (hf' 0 h0).1
    rw [addr_add] at e0
    refine ⟨b, off, rfl, lt_of_cell e0, fun i hi => ?_⟩
    simp at hi
    have := hf' i hi
    rw [addr_add, addr_add] at this
    rw [show off + (i * 2 + 1) = off + i * 2 + 1 from by omega] at this
    simp [hi, this.1, this.2]

def PlaysRel (w : World) (len : Nat) (va vr vi : Value) (wr : World) : Prop :=
  ∃ (k : Nat) (A : Ar) (b c : Nat) (col : Nat → Nat), k ≤ len ∧ vi = .int .i64 k ∧ va = .pointer (some ⟨b, 0, none⟩) ∧ vr = .pointer (some ⟨c, 0, none⟩) ∧ Tkn A k ∧ Free col w.heap.size ∧ IsAr wr b A (col · = 1) ∧ IsRef wr c A (col · = 2) ∧ Below w.heap.size w wr
def PlaysNo (w : World) (len : Nat) (va vr vi : Value) (wr : World) : Prop :=
  ∃ k : Nat, k ≤ len ∧ vi = .int .i64 k ∧ va = .pointer none ∧ vr = .pointer none ∧ Below w.heap.size w wr
set_option maxRecDepth 100000 in
set_option maxHeartbeats 8000000 in
theorem plays_no (s i : Int) (a : Option Addr) (len cap : Nat) (zs : List (Int × Int)) (w : World) (hp : s < 0) (hz : IsSteps w a len cap zs) (h200 : ¬ 200 < zs.length) :
    Calls Try.prog 10 #[.int .i64 s, .slice a len cap, .int .i64 i] w fun e w' => e = .returned (.bool true) ∧ Below w.heap.size w w' := by
  obtain ⟨hlen, hle, hmax, hat⟩ := hz
  have Hat := Lib.hid hat
  clear hat
  subst hlen
  unfold maxLen at hmax
  have hs5 : ¬ 500 < s := by omega
  go_enter Try.func10, Try.ntmps10
  go_wp2_with fail
  refine (new_no s _ (by omega)).mono ?_; rintro e w1 ⟨rfl, rfl⟩
  go_wp2_with fail
  refine (rnew_no s _ (by omega)).mono ?_; rintro e w1 ⟨rfl, rfl⟩
  go_wp2_with fail
  go_loopw [7, 9, 11] (fun va vr vi wr => PlaysNo w zs.length va vr vi wr) (fun _ _ vi _ => zs.length - (intOf vi).toNat)
  case atStart => exact ⟨0, Nat.zero_le _, rfl, rfl, rfl, Below.refl _ _⟩
  case round =>
    obtain ⟨k, hk, rfl, rfl, rfl, hB⟩ := hrel
    have BL := Lib.hid hB
    clear hB
    by_cases hlt : k < zs.length
    · obtain ⟨bs, off, rfl, hbl, hcell⟩ := Hat.out (by intro h; simp [h] at hlt)
      have hc := hcell k hlt
      clear hcell
      generalize zs.getD k (0, 0) = q at *
      obtain ⟨d, x⟩ := q
      have cd : wr.cell? ⟨bs, off + k * 2, none⟩ = some (.int .i64 d) := (BL.out.cell (p := ⟨bs, off + k * 2, none⟩) hbl).trans hc.1
      have cx : wr.cell? ⟨bs, off + k * 2 + 1, none⟩ = some (.int .i64 x) := (BL.out.cell (p := ⟨bs, off + k * 2 + 1, none⟩) hbl).trans hc.2
      clear hc
      have BDall : ∀ W : World, Bad W (.pointer none) := fun W => Or.inl rfl
      have BD := Lib.hid BDall
      clear BDall
      by_cases d0 : d = 0
      · have e0 : (d == 0) = true := by simp [d0]
        clear d0
        go_wp2_with fail
        refine (alloc_no (BD.out _)).mono ?_; rintro e w1 ⟨rfl, rfl⟩
        go_wp2_with fail
        refine (ralloc_no _).mono ?_; rintro e w1 ⟨rfl, rfl⟩
        go_wp2_with fail
        refine (agree_no _ x).mono ?_; rintro e wa ⟨rfl, hb⟩
        have BLa := Lib.hid (BL.out.trans (hb.mono BL.out.size)); clear hb
        go_wp2_with fail
        refine (agree_no _ i).mono ?_; rintro e wb ⟨rfl, hb⟩
        have BLb := Lib.hid (BLa.out.trans (hb.mono BLa.out.size)); clear hb
        go_wp2_with fail
        go_roundw
        case rel => exact ⟨k + 1, by omega, by go_num, rfl, rfl, BLb.out⟩
        case measure => simp [intOf]; omega
      have e0 : (d == 0) = false := by simp [d0]
      by_cases d1 : d = 1
      · have e1 : (d == 1) = true := by simp [d1]
        clear d0 d1
        go_wp2_with fail
        go_quiet ((first | (go_at_call 16; exact Calls.quiet_of_same ((free_no (BD.out _) x).mono (fun e w' (h : _ ∧ _) => And.intro h.1 h.2.symm))) | (go_at_call 29; exact Calls.quiet_of_same ((rfree_no _ x).mono (fun e w' (h : _ ∧ _) => And.intro h.1 h.2.symm)))))
        go_wp2_with fail
        refine (agree_no _ x).mono ?_; rintro e wa ⟨rfl, hb⟩
        have BLa := Lib.hid ((below_drewN BL.out _).trans (hb.mono BL.out.size)); clear hb
        go_wp2_with fail
        refine (agree_no _ i).mono ?_; rintro e wb ⟨rfl, hb⟩
        have BLb := Lib.hid (BLa.out.trans (hb.mono BLa.out.size)); clear hb
        go_wp2_with fail
        go_roundw
        case rel => exact ⟨k + 1, by omega, by go_num, rfl, rfl, BLb.out⟩
        case measure => simp [intOf]; omega
      have e1 : (d == 1) = false := by simp [d1]
      by_cases d2 : d = 2
      · have e2 : (d == 2) = true := by simp [d2]
        clear d0 d1 d2
        go_wp2_with fail
        refine (copy_no (BD.out _)).mono ?_; rintro e w1 ⟨rfl, rfl⟩
        go_wp2_with fail
        refine (rcopy_no _).mono ?_; rintro e w1 ⟨rfl, rfl⟩
        go_wp2_with fail
        refine (agree_no _ x).mono ?_; rintro e wa ⟨rfl, hb⟩
        have BLa := Lib.hid (BL.out.trans (hb.mono BL.out.size)); clear hb
        go_wp2_with fail
        refine (agree_no _ i).mono ?_; rintro e wb ⟨rfl, hb⟩
        have BLb := Lib.hid (BLa.out.trans (hb.mono BLa.out.size)); clear hb
        go_wp2_with fail
        go_roundw
        case rel => exact ⟨k + 1, by omega, by go_num, rfl, rfl, BLb.out⟩
        case measure => simp [intOf]; omega
      have e2 : (d == 2) = false := by simp [d2]
      clear d0 d1 d2
      go_wp2_with fail
      refine (agree_no _ x).mono ?_; rintro e wa ⟨rfl, hb⟩
      have BLa := Lib.hid (BL.out.trans (hb.mono BL.out.size)); clear hb
      go_wp2_with fail
      refine (agree_no _ i).mono ?_; rintro e wb ⟨rfl, hb⟩
      have BLb := Lib.hid (BLa.out.trans (hb.mono BLa.out.size)); clear hb
      go_wp2_with fail
      go_roundw
      case rel => exact ⟨k + 1, by omega, by go_num, rfl, rfl, BLb.out⟩
      case measure => simp [intOf]; omega
    · go_wp2_with fail
      refine (works_any _).mono ?_; rintro e w4 ⟨rfl, hb⟩
      have B4 := Lib.hid (BL.out.trans (hb.mono BL.out.size)); clear hb
      go_wp2_with fail
      go_ret
      exact ⟨rfl, B4.out⟩
set_option maxRecDepth 100000 in
set_option maxHeartbeats 16000000 in
theorem plays_yes (n : Nat) (i : Int) (a : Option Addr) (len cap : Nat) (zs : List (Int × Int)) (w : World) (hn : n ≤ 500) (hz : IsSteps w a len cap zs) (h200 : ¬ 200 < zs.length) :
    Calls Try.prog 10 #[.int .i64 n, .slice a len cap, .int .i64 i] w fun e w' => e = .returned (.bool true) ∧ Below w.heap.size w w' := by
  obtain ⟨hlen, hle, hmax, hat⟩ := hz
  have Hat := Lib.hid hat
  clear hat
  subst hlen
  unfold maxLen at hmax
  have hs5 : ¬ (500 : Int) < n := by omega
  go_enter Try.func10, Try.ntmps10
  go_wp2_with fail
  refine (new_is n _ (by omega)).mono ?_; rintro e w1 ⟨rfl, hia, hb, hsz⟩
  have C1 : Hid (Free (newc (fun _ => 0) w.heap.size 1) w.heap.size) := Lib.hid (fun k hk => by rw [newc_old hk])
  have I1 : Hid (IsAr w1 w.heap.size (fresh n) (newc (fun _ => 0) w.heap.size 1 · = 1)) := Lib.hid (hia.mono (fun k _ hk => by subst hk; exact newc_new (Nat.le_refl _)))
  have B1 := Lib.hid hb
  clear hia hb hsz
  generalize newc (fun _ => 0) w.heap.size 1 = col0 at *
  go_wp2_with fail
  refine (rnew_yes n _ (by omega)).mono ?_; rintro e w2 ⟨c, rfl, hir, hb⟩
  have I2 := Lib.hid ((I1.out.newc 2).below hb)
  have R2 : Hid (IsRef w2 c (fresh n) (newc col0 w1.heap.size 2 · = 2)) := Lib.hid (hir.mono (fun k _ hk => newc_new hk))
  have C2 := Lib.hid (C1.out.newc (N := w1.heap.size) (i := 2) B1.out.size)
  have B2 := Lib.hid (B1.out.trans (hb.mono B1.out.size))
  clear hir hb I1 C1 B1
  generalize newc col0 w1.heap.size 2 = col1 at *
  go_wp2_with fail
  go_loopw [7, 9, 11] (fun va vr vi wr => PlaysRel w zs.length va vr vi wr) (fun _ _ vi _ => zs.length - (intOf vi).toNat)
  case atStart => exact ⟨0, fresh n, w.heap.size, c, col1, Nat.zero_le _, rfl, rfl, rfl, tkn_fresh n 0, C2.out, I2.out, R2.out, B2.out⟩
  case round =>
    clear C2 I2 R2 B2
    obtain ⟨k, A, b, c2, col, hk, rfl, rfl, rfl, htk, hfr, hia, hir, hbl⟩ := hrel
    have TK := Lib.hid htk; have C := Lib.hid hfr; have I := Lib.hid hia; have R := Lib.hid hir; have BL := Lib.hid hbl
    clear htk hfr hia hir hbl
    have hk200 : (k : Int) ≤ 1000000 := by omega
    by_cases hlt : k < zs.length
    · obtain ⟨bs, off, rfl, hbl, hcell⟩ := Hat.out (by intro h; simp [h] at hlt)
      have hc := hcell k hlt
      clear hcell
      generalize zs.getD k (0, 0) = q at *
      obtain ⟨d, x⟩ := q
      have cd : wr.cell? ⟨bs, off + k * 2, none⟩ = some (.int .i64 d) := (BL.out.cell (p := ⟨bs, off + k * 2, none⟩) hbl).trans hc.1
      have cx : wr.cell? ⟨bs, off + k * 2 + 1, none⟩ = some (.int .i64 x) := (BL.out.cell (p := ⟨bs, off + k * 2 + 1, none⟩) hbl).trans hc.2
      have HCX := Lib.hid hc.2
      clear hc
      have HBL := Lib.hid hbl
      by_cases d0 : d = 0
      · have e0 : (d == 0) = true := by simp [d0]
        clear d0
        have TA := Lib.hid (tkn_alloc I.out.good TK.out (by omega) hk200)
        go_wp2_with fail
        refine (alloc_i I.out).mono ?_; rintro e w3 ⟨rfl, hia, ht⟩
        have I3 := Lib.hid hia; have R3 := Lib.hid (R.out.after ht (by decide)); have BL3 := Lib.hid (BL.out.trans (ht.free (by decide) C.out BL.out.size)); have C3 := Lib.hid (C.out.newc (N := wr.heap.size) (i := 1) BL.out.size)
        clear hia ht cx cd
        generalize newc col wr.heap.size 1 = col3 at *
        go_wp2_with fail
        refine (ralloc_i R3.out TK.out (by omega) hk200).mono ?_; rintro e w4 ⟨rfl, hir, ht⟩
        have R4 := Lib.hid hir; have I4 := Lib.hid (I3.out.other ht (by decide)); have BL4 := Lib.hid (BL3.out.trans (ht.free (by decide) C3.out BL3.out.size))
        clear hir ht
        have cx : w4.cell? ⟨bs, off + k * 2 + 1, none⟩ = some (.int .i64 x) := (BL4.out.cell (p := ⟨bs, off + k * 2 + 1, none⟩) HBL.out).trans HCX.out
        go_wp2_with fail
        refine (agree_yes I4.out R4.out TA.out x).mono ?_; rintro e wa ⟨rfl, hb⟩
        have Ia := Lib.hid (I4.out.below hb); have Ra := Lib.hid (R4.out.below hb); have BLa := Lib.hid (BL4.out.trans (hb.mono BL4.out.size)); clear hb
        go_wp2_with fail
        refine (agree_yes Ia.out Ra.out TA.out i).mono ?_; rintro e wb ⟨rfl, hb⟩
        have Ib := Lib.hid (Ia.out.below hb); have Rb := Lib.hid (Ra.out.below hb); have BLb := Lib.hid (BLa.out.trans (hb.mono BLa.out.size)); clear hb
        clear cx
        go_wp2_with fail
        go_roundw
        case rel => exact ⟨k + 1, _, b, c2, col3, by omega, by go_num, rfl, rfl, TA.out, C3.out, Ib.out, Rb.out, BLb.out⟩
        case measure => simp [intOf]; omega
      have e0 : (d == 0) = false := by simp [d0]
      by_cases d1 : d = 1
      · have e1 : (d == 1) = true := by simp [d1]
        clear d0 d1
        have TA := Lib.hid (tkn_mono (tkn_free (i := x) TK.out) (show (k : Int) ≤ (k + 1 : Nat) by omega))
        have Id := Lib.hid (I.out.below (Below.drew (Below.refl wr.heap.size wr)))
        have Rd := Lib.hid (R.out.below (Below.drew (Below.refl wr.heap.size wr)))
        have BLd := Lib.hid (BL.out.trans (Below.drew (Below.refl _ wr)))
        generalize hfe : freeE A x = fe at *
        have FE := Lib.hid hfe; clear hfe
        go_wp2_with fail
        go_region_with (first
          | (go_at_call 16; refine (free_i Id.out x).mono ?_; rintro e w3 ⟨rfl, hia, ht⟩; rw [FE.out]; have I3 := Lib.hid hia; have R3 := Lib.hid (Rd.out.other ht (by decide)); have BL3 := Lib.hid (BLd.out.trans (ht.free (by decide) C.out BLd.out.size)); have cx3 := (BL3.out.cell (p := ⟨bs, off + k * 2 + 1, none⟩) HBL.out).trans HCX.out; clear hia ht)
          | (go_at_call 29; refine (rfree_i R3.out x).mono ?_; rintro e w4 ⟨rfl, hir, ht⟩; rw [FE.out]; have I4 := Lib.hid (I3.out.after ht (by decide)); have R4 := Lib.hid hir; have BL4 := Lib.hid (BL3.out.trans (ht.free (by decide) C.out BL3.out.size)); have C4 := Lib.hid (C.out.newc (N := w3.heap.size) (i := 2) BL3.out.size); have cx4 := (BL4.out.cell (p := ⟨bs, off + k * 2 + 1, none⟩) HBL.out).trans HCX.out; clear hir ht))
        all_goals
          clear cx3 cx cd
          generalize newc col w3.heap.size 2 = col4 at *
          go_wp2_with fail
          refine (agree_yes I4.out R4.out TA.out x).mono ?_; rintro e wa ⟨rfl, hb⟩
          have Ia := Lib.hid (I4.out.below hb); have Ra := Lib.hid (R4.out.below hb); have BLa := Lib.hid (BL4.out.trans (hb.mono BL4.out.size)); clear hb
          go_wp2_with fail
          refine (agree_yes Ia.out Ra.out TA.out i).mono ?_; rintro e wb ⟨rfl, hb⟩
          have Ib := Lib.hid (Ia.out.below hb); have Rb := Lib.hid (Ra.out.below hb); have BLb := Lib.hid (BLa.out.trans (hb.mono BLa.out.size)); clear hb
          clear cx4
          go_wp2_with fail
          go_roundw
          case rel => exact ⟨k + 1, _, b, c2, col4, by omega, by go_num, rfl, rfl, TA.out, C4.out, Ib.out, Rb.out, BLb.out⟩
          case measure => simp [intOf]; omega
      have e1 : (d == 1) = false := by simp [d1]
      by_cases d2 : d = 2
      · have e2 : (d == 2) = true := by simp [d2]
        clear d0 d1 d2
        have TA := Lib.hid (tkn_mono TK.out (show (k : Int) ≤ (k + 1 : Nat) by omega))
        go_wp2_with fail
        refine (copy_is I.out).mono ?_; rintro e w3 ⟨b3, rfl, hia, hb⟩
        have I3 : Hid (IsAr w3 b3 A (newc col wr.heap.size 1 · = 1)) := Lib.hid (hia.mono (fun k _ hk => newc_new hk))
        have R3 := Lib.hid ((R.out.newc 1).below hb); have BL3 := Lib.hid (BL.out.trans (hb.mono BL.out.size)); have C3 := Lib.hid (C.out.newc (N := wr.heap.size) (i := 1) BL.out.size)
        clear hia hb cx cd
        generalize newc col wr.heap.size 1 = col3 at *
        go_wp2_with fail
        refine (rcopy_is R3.out).mono ?_; rintro e w4 ⟨c4, rfl, hir, hb⟩
        have R4 : Hid (IsRef w4 c4 A (newc col3 w3.heap.size 2 · = 2)) := Lib.hid (hir.mono (fun k _ hk => newc_new hk))
        have I4 := Lib.hid ((I3.out.newc 2).below hb); have BL4 := Lib.hid (BL3.out.trans (hb.mono BL3.out.size)); have C4 := Lib.hid (C3.out.newc (N := w3.heap.size) (i := 2) BL3.out.size)
        clear hir hb
        generalize newc col3 w3.heap.size 2 = col4 at *
        have cx : w4.cell? ⟨bs, off + k * 2 + 1, none⟩ = some (.int .i64 x) := (BL4.out.cell (p := ⟨bs, off + k * 2 + 1, none⟩) HBL.out).trans HCX.out
        go_wp2_with fail
        refine (agree_yes I4.out R4.out TA.out x).mono ?_; rintro e wa ⟨rfl, hb⟩
        have Ia := Lib.hid (I4.out.below hb); have Ra := Lib.hid (R4.out.below hb); have BLa := Lib.hid (BL4.out.trans (hb.mono BL4.out.size)); clear hb
        go_wp2_with fail
        refine (agree_yes Ia.out Ra.out TA.out i).mono ?_; rintro e wb ⟨rfl, hb⟩
        have Ib := Lib.hid (Ia.out.below hb); have Rb := Lib.hid (Ra.out.below hb); have BLb := Lib.hid (BLa.out.trans (hb.mono BLa.out.size)); clear hb
        clear cx
        go_wp2_with fail
        go_roundw
        case rel => exact ⟨k + 1, _, b3, c4, col4, by omega, by go_num, rfl, rfl, TA.out, C4.out, Ib.out, Rb.out, BLb.out⟩
        case measure => simp [intOf]; omega
      have e2 : (d == 2) = false := by simp [d2]
      clear d0 d1 d2
      have TA := Lib.hid (tkn_mono TK.out (show (k : Int) ≤ (k + 1 : Nat) by omega))
      go_wp2_with fail
      refine (agree_yes I.out R.out TA.out x).mono ?_; rintro e wa ⟨rfl, hb⟩
      have Ia := Lib.hid (I.out.below hb); have Ra := Lib.hid (R.out.below hb); have BLa := Lib.hid (BL.out.trans (hb.mono BL.out.size)); clear hb
      go_wp2_with fail
      refine (agree_yes Ia.out Ra.out TA.out i).mono ?_; rintro e wb ⟨rfl, hb⟩
      have Ib := Lib.hid (Ia.out.below hb); have Rb := Lib.hid (Ra.out.below hb); have BLb := Lib.hid (BLa.out.trans (hb.mono BLa.out.size)); clear hb
      clear cx cd
      go_wp2_with fail
      go_roundw
      case rel => exact ⟨k + 1, _, b, c2, col, by omega, by go_num, rfl, rfl, TA.out, C.out, Ib.out, Rb.out, BLb.out⟩
      case measure => simp [intOf]; omega
    · go_wp2_with fail
      refine (works_any _).mono ?_; rintro e w4 ⟨rfl, hb⟩
      have B4 := Lib.hid (BL.out.trans (hb.mono BL.out.size)); clear hb
      go_wp2_with fail
      go_ret
      exact ⟨rfl, B4.out⟩
theorem plays_big (s i : Int) (a : Option Addr) (len cap : Nat) (w : World) (h : 500 < s ∨ 200 < len) :
    Calls Try.prog 10 #[.int .i64 s, .slice a len cap, .int .i64 i] w fun e w' => e = .returned (.bool true) ∧ Below w.heap.size w w' := by
  by_cases hs : 500 < s
  · clear h
    go_enter Try.func10, Try.ntmps10
    go_wp2_with fail
    refine (works_any _).mono ?_; rintro e w4 ⟨rfl, hb⟩
    have B4 := Lib.hid hb; clear hb
    go_wp2_with fail
    go_ret
    exact ⟨rfl, B4.out⟩
  · have hl : 200 < len := by omega
    clear h
    go_enter Try.func10, Try.ntmps10
    go_wp2_with fail
    refine (works_any _).mono ?_; rintro e w4 ⟨rfl, hb⟩
    have B4 := Lib.hid hb; clear hb
    go_wp2_with fail
    go_ret
    exact ⟨rfl, B4.out⟩
theorem plays_law (s : Int) (a : Option Addr) (len cap : Nat) (zs : List (Int × Int)) (i : Int) (w : World) (_h0 : (Lit.int .i64 s).wf = true) (hz : IsSteps w a len cap zs) (_h1 : (Lit.int .i64 i).wf = true) :
    Calls Try.prog 10 #[.int .i64 s, .slice a len cap, .int .i64 i] w fun e w' => e = .returned (.bool true) ∧ Below w.heap.size w w' := by
  by_cases hb : 500 < s ∨ 200 < len
  · exact plays_big s i a len cap w hb
  · have h200 : ¬ 200 < zs.length := by have := hz.hlen; omega
    by_cases hs : 0 ≤ s
    · obtain ⟨n, rfl⟩ := Int.eq_ofNat_of_zero_le hs
      exact plays_yes n i a len cap zs w (by omega) hz h200
    · exact plays_no s i a len cap zs w (by omega) hz h200
end Go.Proofs.Ytndiaflbagikoaa

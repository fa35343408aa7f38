/- Contracts of the functions of package seepageref01 that the laws of layer 33 reach. -/
import Derived.Test.YtbmlkanonmooeaaB
import Derived.Test.YtbmlkanonmooeaaP
import Derived.Deep.RegionHeld3
import Derived.BigQuiet
import Derived.Deep.QuietTactic
import Derived.WalkSmall
namespace Go.Proofs.Ytbmlkanonmooeaa
open Go.ChangeShapes Go.WideShapes Go.ChangeAt Go.RowKit

/-- An array of six limbs; a number of any sign. -/
abbrev arrc (A : Nat → Int) : Array Value := #[.int .u64 (A 0), .int .u64 (A 1), .int .u64 (A 2), .int .u64 (A 3), .int .u64 (A 4), .int .u64 (A 5)]
abbrev wdc (s : Bool) (A : Nat → Int) : Array Value := #[.bool s, .int .u64 (A 0), .int .u64 (A 1), .int .u64 (A 2), .int .u64 (A 3), .int .u64 (A 4), .int .u64 (A 5)]
def mg (x : Int) : Int := if x < 0 then -x else x
def fr (x : Int) (i : Nat) : Int := match i with | 0 => mg x % 4294967296 | 1 => mg x / 4294967296 | _ => 0

theorem from_any (x : Int) (w : World) (hx : fits x) :
    Calls Try.prog 36 #[.int .i64 x] w fun e w' => e = .returned (.agg (wdc (decide (x < 0)) (fr x))) ∧ Below w.heap.size w w' := by
  obtain ⟨h1, h2⟩ := hx
  by_cases h : x < 0
  · go_enter Try.func36, Try.ntmps36
    go_wp2
    refine bodyPost_ret (v := .agg (wdc true (fr x))) (by simp [results, Try.results36, go_sem, fr, mg]; try omega) rfl ⟨?_, ?_⟩
    · simp [h]
    · go_grown
  · go_enter Try.func36, Try.ntmps36
    go_wp2
    refine bodyPost_ret (v := .agg (wdc false (fr x))) (by simp [results, Try.results36, go_sem, fr, mg]; try omega) rfl ⟨?_, ?_⟩
    · simp [h]
    · go_grown

theorem u64_in {n : Int} (h : 0 ≤ n ∧ n ≤ 18446744073709551615) : IntKind.u64.wrap n = n := IntWalk.u64_in n h
/-- The first k limbs of a function, then zeros. -/
def upto (k : Nat) (A : Nat → Int) (j : Nat) : Int := if j < k then A j else 0
theorem upto_set (k : Nat) (A : Nat → Int) (hk : k < 6) : (arrc (upto k A)).setIfInBounds k (.int .u64 (A k)) = arrc (upto (k + 1) A) := by
  match k, hk with
  | 0, _ => rfl
  | 1, _ => rfl
  | 2, _ => rfl
  | 3, _ => rfl
  | 4, _ => rfl
  | 5, _ => rfl
theorem arrc_at (A : Nat → Int) (k : Nat) (hk : k < 6) : (arrc A)[k]? = some (.int .u64 (A k)) := by
  match k, hk with
  | 0, _ => rfl
  | 1, _ => rfl
  | 2, _ => rfl
  | 3, _ => rfl
  | 4, _ => rfl
  | 5, _ => rfl

theorem arr_cells {w : World} {b : Nat} {A : Nat → Int} (h : w.heap[b]? = some (.cells (arrc A) 56 (0, 0))) :
    w.cell? ⟨b, 0, none⟩ = some (.int .u64 (A 0)) ∧ w.cell? ⟨b, 1, none⟩ = some (.int .u64 (A 1)) ∧ w.cell? ⟨b, 2, none⟩ = some (.int .u64 (A 2)) ∧ w.cell? ⟨b, 3, none⟩ = some (.int .u64 (A 3)) ∧ w.cell? ⟨b, 4, none⟩ = some (.int .u64 (A 4)) ∧ w.cell? ⟨b, 5, none⟩ = some (.int .u64 (A 5)) :=
  ⟨cell_of h 0, cell_of h 1, cell_of h 2, cell_of h 3, cell_of h 4, cell_of h 5⟩
theorem arr_free {w : World} {b : Nat} {c : Array Value} {t : TypeId} (h : w.heap[b]? = some (.cells c t (0, 0))) :
    w.frozen? ⟨b, 0, none⟩ = false ∧ w.frozen? ⟨b, 1, none⟩ = false ∧ w.frozen? ⟨b, 2, none⟩ = false ∧ w.frozen? ⟨b, 3, none⟩ = false ∧ w.frozen? ⟨b, 4, none⟩ = false ∧ w.frozen? ⟨b, 5, none⟩ = false ∧ w.frozen? ⟨b, 6, none⟩ = false :=
  ⟨free_of h 0, free_of h 1, free_of h 2, free_of h 3, free_of h 4, free_of h 5, free_of h 6⟩

def MoreRel (B : Nat) (A1 B1 : Nat → Int) (w : World) (vc vi : Value) (wr : World) : Prop :=
  ∃ k : Nat, k ≤ 6 ∧ vi = .int .i64 k ∧ vc = .int .u64 (cy A1 B1 k) ∧ wr.heap[B + 3]? = some (.cells (arrc (upto k (dg A1 B1))) 56 (0, 0)) ∧ Below (B + 3) w wr

set_option maxHeartbeats 1000000 in
theorem more_any (A1 B1 : Nat → Int) (w : World) (hA : Limbs A1) (hB : Limbs B1) :
    Calls Try.prog 39 #[.agg (arrc A1), .agg (arrc B1)] w fun e w' => e = .returned (.agg (arrc (dg A1 B1))) ∧ Below w.heap.size w w' := by
  have HA := Lib.hid hA; have HB := Lib.hid hB; clear hA hB
  go_enter Try.func39, Try.ntmps39
  go_wp2
  obtain ⟨W, hW⟩ : ∃ W, W = (((w.alloc (.cells (arrc A1) 56)).alloc (.cells (arrc B1) 56)).alloc (.cells (arrc fun _ => 0) 56)).alloc (.cells (arrc fun _ => 0) 56) := ⟨_, rfl⟩
  have b0 : W.heap[w.heap.size]? = some (.cells (arrc A1) 56 (0, 0)) := by rw [hW]; exact block_old (block_old (block_old (block_new _ _) _) _) _
  have b1 : W.heap[w.heap.size + 1]? = some (.cells (arrc B1) 56 (0, 0)) := by
    rw [hW]; have := block_new (w.alloc (.cells (arrc A1) 56)) (.cells (arrc B1) 56); rw [World.size_alloc] at this; exact block_old (block_old this _) _
  have b2 : W.heap[w.heap.size + 1 + 1]? = some (.cells (arrc fun _ => 0) 56 (0, 0)) := by
    rw [hW]; have := block_new ((w.alloc (.cells (arrc A1) 56)).alloc (.cells (arrc B1) 56)) (.cells (arrc fun _ => 0) 56); rw [World.size_alloc, World.size_alloc] at this; exact block_old this _
  have b3 : W.heap[w.heap.size + 3]? = some (.cells (arrc (upto 0 (dg A1 B1))) 56 (0, 0)) := by
    rw [hW]; have := block_new (((w.alloc (.cells (arrc A1) 56)).alloc (.cells (arrc B1) 56)).alloc (.cells (arrc fun _ => 0) 56)) (.cells (arrc fun _ => 0) 56); rw [World.size_alloc, World.size_alloc, World.size_alloc] at this; exact this
  have bW : Below w.heap.size w W := by rw [hW]; exact (((Below.alloc (Below.refl _ _) (Nat.le_refl _) _).alloc (by simp) _).alloc (by simp; omega) _).alloc (by simp; omega) _
  rw [← hW]
  clear hW
  have H0 := Lib.hid b0; have H1 := Lib.hid b1; have H2 := Lib.hid b2; have H3 := Lib.hid b3; have HW := Lib.hid bW
  clear b0 b1 b2 b3 bW
  go_loopw [6, 7] (fun vc vi wr => MoreRel w.heap.size A1 B1 W vc vi wr) (fun _ vi _ => 6 - (intOf vi).toNat)
  case atStart => exact ⟨0, by omega, rfl, rfl, H3.out, Below.refl _ _⟩
  case round =>
    obtain ⟨k, hk, rfl, rfl, ho, hbl⟩ := hrel
    have hsz := lt_of_block ho
    have HO := Lib.hid ho; have HBl := Lib.hid hbl
    clear ho hbl
    by_cases hlt : k < 6
    · have cA : wr.cell? ⟨w.heap.size, k, none⟩ = some (.int .u64 (A1 k)) := by rw [cell_of ((HBl.out.block _ (by omega)).trans H0.out)]; exact arrc_at A1 k hlt
      have cB : wr.cell? ⟨w.heap.size + 1, k, none⟩ = some (.int .u64 (B1 k)) := by rw [cell_of ((HBl.out.block _ (by omega)).trans H1.out)]; exact arrc_at B1 k hlt
      have cO : wr.cell? ⟨w.heap.size + 1 + 1 + 1, k, none⟩ = some (.int .u64 (upto k (dg A1 B1) k)) := by rw [cell_of (t := 56) (f := (0, 0)) (c := arrc (upto k (dg A1 B1))) (by exact HO.out)]; exact arrc_at _ k hlt
      have fO : wr.frozen? ⟨w.heap.size + 1 + 1 + 1, k, none⟩ = false := free_of (t := 56) (c := arrc (upto k (dg A1 B1))) (by exact HO.out) k
      have h1 := HA.out k; have h2 := HB.out k; have h3 := cy_01 HA.out HB.out k
      have e1 : IntKind.u64.wrap (A1 k + B1 k) = A1 k + B1 k := u64_in (by omega)
      have e2 : IntKind.u64.wrap (A1 k + B1 k + cy A1 B1 k) = A1 k + B1 k + cy A1 B1 k := u64_in (by omega)
      go_wp2
      go_quiet (fail)
      go_wp2
      go_roundw
      case rel =>
        refine ⟨k + 1, by omega, by go_num, ?_, ?_, ?_⟩
        · rfl
        · have := set_of HO.out k (.int .u64 (dg A1 B1 k))
          rw [upto_set k _ hlt] at this
          exact this
        · exact (below_drewN HBl.out _).setCell (Nat.le_refl _) _
      case measure => simp [intOf]; omega
    · have hk6 : k = 6 := by omega
      subst hk6
      have HOO : Hid (wr.heap[w.heap.size + 1 + 1 + 1]? = some (.cells (arrc (dg A1 B1)) 56 (0, 0))) := HO.out
      have HR : Hid (wr.heap[w.heap.size + 1 + 1]? = some (.cells (arrc fun _ => 0) 56 (0, 0))) := (HBl.out.block _ (by omega)).trans H2.out
      obtain ⟨c0, c1, c2, c3, c4, c5⟩ := arr_cells HOO.out
      obtain ⟨r0, r1, r2, r3, r4, r5⟩ := arr_cells HR.out
      obtain ⟨f0, f1, f2, f3, f4, f5, _⟩ := arr_free HR.out
      go_wp2
      refine bodyPost_ret (v := .agg (arrc (dg A1 B1))) (by simp [results, Try.results39, go_sem, r0, r1, r2, r3, r4, r5]) rfl ⟨rfl, ?_⟩
      have hb := HW.out.trans (HBl.out.mono (by omega))
      exact (((((hb.setCell (by simp; omega) _).setCell (by simp; omega) _).setCell (by simp; omega) _).setCell (by simp; omega) _).setCell (by simp; omega) _).setCell (by simp; omega) _
def LessRel (B : Nat) (A1 B1 : Nat → Int) (w : World) (vc vi : Value) (wr : World) : Prop :=
  ∃ k : Nat, k ≤ 6 ∧ vi = .int .i64 k ∧ vc = .int .u64 (bw A1 B1 k) ∧ wr.heap[B + 3]? = some (.cells (arrc (upto k (df A1 B1))) 56 (0, 0)) ∧ Below (B + 3) w wr

set_option maxHeartbeats 1000000 in
theorem less_any (A1 B1 : Nat → Int) (w : World) (hA : Limbs A1) (hB : Limbs B1) :
    Calls Try.prog 41 #[.agg (arrc A1), .agg (arrc B1)] w fun e w' => e = .returned (.agg (arrc (df A1 B1))) ∧ Below w.heap.size w w' := by
  have HA := Lib.hid hA; have HB := Lib.hid hB; clear hA hB
  go_enter Try.func41, Try.ntmps41
  go_wp2
  obtain ⟨W, hW⟩ : ∃ W, W = (((w.alloc (.cells (arrc A1) 56)).alloc (.cells (arrc B1) 56)).alloc (.cells (arrc fun _ => 0) 56)).alloc (.cells (arrc fun _ => 0) 56) := ⟨_, rfl⟩
  have b0 : W.heap[w.heap.size]? = some (.cells (arrc A1) 56 (0, 0)) := by rw [hW]; exact block_old (block_old (block_old (block_new _ _) _) _) _
  have b1 : W.heap[w.heap.size + 1]? = some (.cells (arrc B1) 56 (0, 0)) := by
    rw [hW]; have := block_new (w.alloc (.cells (arrc A1) 56)) (.cells (arrc B1) 56); rw [World.size_alloc] at this; exact block_old (block_old this _) _
  have b2 : W.heap[w.heap.size + 1 + 1]? = some (.cells (arrc fun _ => 0) 56 (0, 0)) := by
    rw [hW]; have := block_new ((w.alloc (.cells (arrc A1) 56)).alloc (.cells (arrc B1) 56)) (.cells (arrc fun _ => 0) 56); rw [World.size_alloc, World.size_alloc] at this; exact block_old this _
  have b3 : W.heap[w.heap.size + 3]? = some (.cells (arrc (upto 0 (df A1 B1))) 56 (0, 0)) := by
    rw [hW]; have := block_new (((w.alloc (.cells (arrc A1) 56)).alloc (.cells (arrc B1) 56)).alloc (.cells (arrc fun _ => 0) 56)) (.cells (arrc fun _ => 0) 56); rw [World.size_alloc, World.size_alloc, World.size_alloc] at this; exact this
  have bW : Below w.heap.size w W := by rw [hW]; exact (((Below.alloc (Below.refl _ _) (Nat.le_refl _) _).alloc (by simp) _).alloc (by simp; omega) _).alloc (by simp; omega) _
  rw [← hW]
  clear hW
  have H0 := Lib.hid b0; have H1 := Lib.hid b1; have H2 := Lib.hid b2; have H3 := Lib.hid b3; have HW := Lib.hid bW
  clear b0 b1 b2 b3 bW
  go_loopw [6, 7] (fun vc vi wr => LessRel w.heap.size A1 B1 W vc vi wr) (fun _ vi _ => 6 - (intOf vi).toNat)
  case atStart => exact ⟨0, by omega, rfl, rfl, H3.out, Below.refl _ _⟩
  case round =>
    obtain ⟨k, hk, rfl, rfl, ho, hbl⟩ := hrel
    have hsz := lt_of_block ho
    have HO := Lib.hid ho; have HBl := Lib.hid hbl
    clear ho hbl
    by_cases hlt : k < 6
    · have cA : wr.cell? ⟨w.heap.size, k, none⟩ = some (.int .u64 (A1 k)) := by rw [cell_of ((HBl.out.block _ (by omega)).trans H0.out)]; exact arrc_at A1 k hlt
      have cB : wr.cell? ⟨w.heap.size + 1, k, none⟩ = some (.int .u64 (B1 k)) := by rw [cell_of ((HBl.out.block _ (by omega)).trans H1.out)]; exact arrc_at B1 k hlt
      have cO : wr.cell? ⟨w.heap.size + 1 + 1 + 1, k, none⟩ = some (.int .u64 (upto k (df A1 B1) k)) := by rw [cell_of (t := 56) (f := (0, 0)) (c := arrc (upto k (df A1 B1))) (by exact HO.out)]; exact arrc_at _ k hlt
      have fO : wr.frozen? ⟨w.heap.size + 1 + 1 + 1, k, none⟩ = false := free_of (t := 56) (c := arrc (upto k (df A1 B1))) (by exact HO.out) k
      have h1 := HA.out k; have h2 := HB.out k; have h3 := bw_01 HA.out HB.out k
      have e1 : IntKind.u64.wrap (A1 k + 4294967296) = A1 k + 4294967296 := u64_in (by omega)
      have e2 : IntKind.u64.wrap (A1 k + 4294967296 - B1 k) = A1 k + 4294967296 - B1 k := u64_in (by omega)
      have e3 : IntKind.u64.wrap (A1 k + 4294967296 - B1 k - bw A1 B1 k) = A1 k + 4294967296 - B1 k - bw A1 B1 k := u64_in (by omega)
      go_wp2
      go_quiet (fail)
      go_wp2
      go_roundw
      case rel =>
        refine ⟨k + 1, by omega, by go_num, ?_, ?_, ?_⟩
        · rfl
        · have := set_of HO.out k (.int .u64 (df A1 B1 k))
          rw [upto_set k _ hlt] at this
          exact this
        · exact (below_drewN HBl.out _).setCell (Nat.le_refl _) _
      case measure => simp [intOf]; omega
    · have hk6 : k = 6 := by omega
      subst hk6
      have HOO : Hid (wr.heap[w.heap.size + 1 + 1 + 1]? = some (.cells (arrc (df A1 B1)) 56 (0, 0))) := HO.out
      have HR : Hid (wr.heap[w.heap.size + 1 + 1]? = some (.cells (arrc fun _ => 0) 56 (0, 0))) := (HBl.out.block _ (by omega)).trans H2.out
      obtain ⟨c0, c1, c2, c3, c4, c5⟩ := arr_cells HOO.out
      obtain ⟨r0, r1, r2, r3, r4, r5⟩ := arr_cells HR.out
      obtain ⟨f0, f1, f2, f3, f4, f5, _⟩ := arr_free HR.out
      go_wp2
      refine bodyPost_ret (v := .agg (arrc (df A1 B1))) (by simp [results, Try.results41, go_sem, r0, r1, r2, r3, r4, r5]) rfl ⟨rfl, ?_⟩
      have hb := HW.out.trans (HBl.out.mono (by omega))
      exact (((((hb.setCell (by simp; omega) _).setCell (by simp; omega) _).setCell (by simp; omega) _).setCell (by simp; omega) _).setCell (by simp; omega) _).setCell (by simp; omega) _

/-- How two magnitudes compare. -/
def szr (A B : Nat → Int) : Int := if vl A 6 < vl B 6 then -1 else if vl B 6 < vl A 6 then 1 else 0
theorem he_step {A B : Nat → Int} {m : Nat} (h : A m = B m) (he : ∀ j, m + 1 ≤ j → j < 6 → A j = B j) (j : Nat) (a : m ≤ j) (b : j < 6) : A j = B j := by
  rcases Nat.eq_or_lt_of_le a with e | e
  · subst e; exact h
  · exact he j e b
def SizeRel (A1 B1 : Nat → Int) (vi : Value) (w wr : World) : Prop :=
  ∃ k : Nat, k ≤ 6 ∧ vi = .int .i64 ((k : Int) - 1) ∧ (∀ j, k ≤ j → j < 6 → A1 j = B1 j) ∧ ∃ n, wr = w.drewN n
theorem szr_lt {A B : Nat → Int} (hA : Limbs A) (hB : Limbs B) {k : Nat} (hk : k < 6) (he : ∀ j, k < j → j < 6 → A j = B j) (h : A k < B k) : szr A B = -1 := by
  have := vl_split hA hB 6 k hk he h
  simp [szr, this]
theorem szr_gt {A B : Nat → Int} (hA : Limbs A) (hB : Limbs B) {k : Nat} (hk : k < 6) (he : ∀ j, k < j → j < 6 → A j = B j) (h : B k < A k) : szr A B = 1 := by
  have := vl_split hB hA 6 k hk (fun j a b => (he j a b).symm) h
  simp [szr, this]; omega
theorem szr_eq {A B : Nat → Int} (he : ∀ j, j < 6 → A j = B j) : szr A B = 0 := by
  have := vl_same 6 he
  simp [szr, this]

set_option maxHeartbeats 1000000 in
theorem size_any (A1 B1 : Nat → Int) (w : World) (hA : Limbs A1) (hB : Limbs B1) :
    Calls Try.prog 40 #[.agg (arrc A1), .agg (arrc B1)] w fun e w' => e = .returned (.int .i64 (szr A1 B1)) ∧ Below w.heap.size w w' := by
  have HA := Lib.hid hA; have HB := Lib.hid hB; clear hA hB
  go_enter Try.func40, Try.ntmps40
  go_wp2
  obtain ⟨W, hW⟩ : ∃ W, W = (w.alloc (.cells (arrc A1) 56)).alloc (.cells (arrc B1) 56) := ⟨_, rfl⟩
  have b0 : W.heap[w.heap.size]? = some (.cells (arrc A1) 56 (0, 0)) := by rw [hW]; exact block_old (block_new _ _) _
  have b1 : W.heap[w.heap.size + 1]? = some (.cells (arrc B1) 56 (0, 0)) := by
    rw [hW]; have := block_new (w.alloc (.cells (arrc A1) 56)) (.cells (arrc B1) 56); rw [World.size_alloc] at this; exact this
  have bW : Below w.heap.size w W := by rw [hW]; exact ((Below.alloc (Below.refl _ _) (Nat.le_refl _) _).alloc (by simp) _)
  rw [← hW]
  clear hW
  have H0 := Lib.hid b0; have H1 := Lib.hid b1; have HW := Lib.hid bW
  clear b0 b1 bW
  go_loopw [5] (fun vi wr => SizeRel A1 B1 vi W wr) (fun vi _ => ((intOf vi) + 1).toNat)
  case atStart => exact ⟨6, by omega, rfl, (fun j a b => by omega), 0, rfl⟩
  case round =>
    obtain ⟨k, hk, rfl, he, n, rfl⟩ := hrel
    have HE := Lib.hid he; clear he
    have HN : Hid (Below w.heap.size w (W.drewN n)) := below_drewN HW.out n
    by_cases hlt : 0 < k
    · obtain ⟨m, rfl⟩ : ∃ m, k = m + 1 := ⟨k - 1, by omega⟩
      have em : (((m + 1 : Nat) : Int) - 1) = (m : Int) := by omega
      rw [em]
      clear em
      have hm : m < 6 := by omega
      have cA : W.cell? ⟨w.heap.size, m, none⟩ = some (.int .u64 (A1 m)) := by rw [cell_of H0.out]; exact arrc_at A1 m hm
      have cB : W.cell? ⟨w.heap.size + 1, m, none⟩ = some (.int .u64 (B1 m)) := by rw [cell_of H1.out]; exact arrc_at B1 m hm
      by_cases h1 : A1 m < B1 m
      · have Hr := Lib.hid (szr_lt HA.out HB.out hm (fun j a b => HE.out j a b) h1)
        go_wp2
        go_quiet (fail)
        go_wp2
        go_ret
        exact ⟨by rw [Hr.out]; rfl, below_drewN HN.out _⟩
      · by_cases h2 : B1 m < A1 m
        · have Hr := Lib.hid (szr_gt HA.out HB.out hm (fun j a b => HE.out j a b) h2)
          go_wp2
          go_quiet (fail)
          go_wp2
          go_quiet (fail)
          go_wp2
          go_ret
          exact ⟨by rw [Hr.out]; rfl, below_drewN (below_drewN HN.out _) _⟩
        · go_wp2
          go_quiet (fail)
          go_wp2
          go_quiet (fail)
          go_wp2
          go_roundw
          case rel => exact ⟨m, by omega, rfl, he_step (by omega) HE.out, _, rfl⟩
          case measure => simp [intOf]
    · have hk0 : k = 0 := by omega
      subst hk0
      have Hr := Lib.hid (szr_eq (A := A1) (B := B1) (fun j b => HE.out j (Nat.zero_le _) b))
      go_wp2
      go_ret
      exact ⟨by rw [Hr.out]; rfl, HN.out⟩
end Go.Proofs.Ytbmlkanonmooeaa

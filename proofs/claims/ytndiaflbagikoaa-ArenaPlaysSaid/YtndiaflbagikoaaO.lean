/- same; List beside other blocks; the law ArenaApart. -/
import Derived.Test.YtndiaflbagikoaaL
namespace Go.Proofs.Ytndiaflbagikoaa
open Go.ChangeShapes Go.WideShapes Go.ChangeAt Go.RowKit

theorem IsInts.keep {S : Nat → Prop} {k : IntKind} {w w' : World} {a : Option Addr} {len cap : Nat} {zs : List Int} (h : IsInts k w a len cap zs) (ht : Touch S w w') (hs : ∀ x, a = some x → ¬ S x.block) : IsInts k w' a len cap zs := by
  obtain ⟨h1, h2, h3, h4, h5⟩ := h
  refine ⟨h1, h2, h3, fun hne => ?_, h5⟩
  obtain ⟨b, off, rfl, hb, hc⟩ := h4 hne
  refine ⟨b, off, rfl, Nat.lt_of_lt_of_le hb ht.size, fun i hi => ?_⟩
  rw [← hc i hi]
  unfold World.cell?
  rw [ht.block b hb (hs _ rfl)]
theorem IsInts.below {k : IntKind} {w w' : World} {a : Option Addr} {len cap : Nat} {zs : List Int} (h : IsInts k w a len cap zs) (hb : Below w.heap.size w w') : IsInts k w' a len cap zs :=
  h.keep (Touch.of_below hb (fun _ => False)) (fun _ _ h => h)
/-- The cell of an element. -/
theorem IsInts.cell {k : IntKind} {w : World} {a : Option Addr} {len cap : Nat} {zs : List Int} (h : IsInts k w a len cap zs) (hne : zs ≠ []) :
    ∃ b off, a = some ⟨b, off, none⟩ ∧ b < w.heap.size ∧ ∀ i, i < zs.length → w.cell? ⟨b, off + i, none⟩ = some (.int k (zs.getD i 0)) := h.at_ hne

def SameRel (w : World) (len : Nat) (vi : Value) (wr : World) : Prop := ∃ k : Nat, k ≤ len ∧ vi = .int .i64 k ∧ Below w.heap.size w wr
theorem same_yes {a b : Option Addr} {len cap len' cap' : Nat} {zs : List Int} {w : World} (ha : IsInts .i64 w a len cap zs) (hb : IsInts .i64 w b len' cap' zs) :
    Calls Try.prog 26 #[.slice a len cap, .slice b len' cap'] w fun e w' => e = .returned (.bool true) ∧ Below w.heap.size w w' := by
  have HA := Lib.hid ha; have HB := Lib.hid hb
  obtain ⟨hl, hc, hm, _, _⟩ := ha
  obtain ⟨hl', _, _, _, _⟩ := hb
  have hcl : zs.length ≤ maxLen := by omega
  clear hc hm
  obtain rfl : len = len' := by omega
  clear hl'
  unfold maxLen at hcl
  have hlen : len ≤ 9223372036854775807 := by omega
  have HL := Lib.hid hl
  clear hl hcl
  go_enter Try.func26, Try.ntmps26
  go_wp2
  go_loopw [4, 5] (fun _ vi wr => SameRel w len vi wr) (fun _ vi _ => len - (intOf vi).toNat)
  case atStart => exact ⟨0, Nat.zero_le _, rfl, Below.refl _ _⟩
  case round =>
    obtain ⟨k, hk, rfl, hbl⟩ := hrel
    have BL := Lib.hid hbl; clear hbl
    by_cases hlt : k < len
    · obtain ⟨ba, oa, rfl, hba, hca⟩ := HA.out.cell (by intro h; have := HL.out; simp [h] at this; omega)
      obtain ⟨bb, ob, rfl, hbb, hcb⟩ := HB.out.cell (by intro h; have := HL.out; simp [h] at this; omega)
      have c1 := (BL.out.cell (p := ⟨ba, oa + k, none⟩) hba).trans (hca k (by have := HL.out; omega))
      have c2 := (BL.out.cell (p := ⟨bb, ob + k, none⟩) hbb).trans (hcb k (by have := HL.out; omega))
      clear hca hcb
      generalize zs.getD k 0 = x at *
      go_wp2_with fail
      go_quiet (fail)
      go_wp2_with fail
      go_roundw
      case rel => exact ⟨k + 1, by omega, by go_num, below_drewN BL.out _⟩
      case measure => simp [intOf]; omega
    · go_wp2_with fail
      go_ret
      exact ⟨rfl, BL.out⟩

theorem own_more {w : World} {b : Nat} {A : Ar} {B : Nat} {X X' : List Nat} (h : IsAr w b A (Own B X)) (hx : ∀ x ∈ X', x ∈ X ∨ w.heap.size ≤ x) : IsAr w b A (Own B X') :=
  h.mono (fun k hk hF => ⟨hF.1, fun hm => (hx k hm).elim hF.2 (fun hle => by omega)⟩)
theorem list_own {w : World} {b : Nat} {A : Ar} {B : Nat} {X : List Nat} (h : IsAr w b A (Own B X)) :
    Calls Try.prog 21 #[.pointer (some ⟨b, 0, none⟩)] w fun e w' => ∃ a cap X', e = .returned (.slice a A.list.length cap) ∧ IsInts .i64 w' a A.list.length cap (A.list.map fun (x : Nat) => (x : Int)) ∧
      (∀ x, a = some x → x.block ∈ X') ∧ (∀ x ∈ X, x ∈ X') ∧ (∀ x ∈ X', x ∈ X ∨ x < w'.heap.size) ∧ IsAr w' b A (Own B X') ∧ Below w.heap.size w w' := by
  refine (list_is h).mono ?_
  rintro e w' ⟨a, cap, rfl, hin, hf, hb⟩
  cases a with
  | none => exact ⟨none, cap, X, rfl, hin, by simp, fun _ h => h, fun _ h => Or.inl h, h.below hb, hb⟩
  | some x =>
    obtain ⟨g, o, s⟩ := x
    obtain ⟨h1, h2⟩ := hf g o s rfl
    refine ⟨_, cap, g :: X, rfl, hin, fun x hx => by cases hx; simp, fun x hx => List.mem_cons_of_mem _ hx, fun x hx => ?_, (own_more h (fun x hx => ?_)).below hb, hb⟩
    · rcases List.mem_cons.1 hx with rfl | hx
      · exact Or.inr h2
      · exact Or.inl hx
    · rcases List.mem_cons.1 hx with rfl | hx
      · exact Or.inr h1
      · exact Or.inl hx

set_option maxHeartbeats 1000000 in
theorem apart_law (s : Int) (la : Option Addr) (len cap : Nat) (zs : List Int) (w : World) (hs : (Lit.int .u8 s).wf = true) (hz : IsInts .u8 w la len cap zs) :
    Calls Try.prog 3 #[.int .u8 s, .slice la len cap] w fun e w' => e = .returned (.bool true) ∧ Below w.heap.size w w' := by
  have HP := Lib.hid (play_any s la len cap zs w (bounds_u8 hs) hz)
  clear hs hz
  go_enter Try.func3, Try.ntmps3
  go_wp2_with fail
  refine (HP.out).mono ?_; rintro e w1 ⟨a, f, o, A, rfl, ha, hi, hk, hb⟩
  have B1 := Lib.hid hb
  clear hi hk hb
  go_wp2_with fail
  refine (works_any _).mono ?_; rintro e w2 ⟨rfl, hb⟩
  have B2 := Lib.hid (B1.out.trans (hb.mono B1.out.size)); clear hb
  go_wp2_with fail
  go_ret
  exact ⟨rfl, B2.out⟩
end Go.Proofs.Ytndiaflbagikoaa

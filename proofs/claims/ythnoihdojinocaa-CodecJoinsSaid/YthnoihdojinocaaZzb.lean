/- CodecGetsAll: the walk. -/
import Derived.Test.YthnoihdojinocaaZza
import Derived.Test.YthnoihdojinocaaZy
import Derived.Test.YthnoihdojinocaaZm
namespace Go.Proofs.Ythnoihdojinocaa
open Go.ChangeShapes Go.WideShapes Go.ChangeAt Go.RowKit
set_option linter.unusedVariables false
set_option linter.unusedSimpArgs false

def GaS (w : World) (g : List Cm × Nat × Bool) (e : Ending) (w' : World) : Prop :=
  ∃ a n cp zs, e = .returned (.tuple #[.slice a n cp, .int .i64 (g.2.1 : Nat), .int .i64 (if g.2.2 then 0 else 15)]) ∧ Below w.heap.size w w' ∧ Cms w' a n cp zs ∧ zs.map RV.c = g.1
theorem ga_sl {w w' : World} {b : List Nat} {e : Ending} (hb : By b) (h : GaR w (getAll b) e w') : GaS w (getAll b) e w' := by
  obtain ⟨v, zs, rfl, hB, ho, hc⟩ := h
  obtain ⟨a, cp, rfl⟩ := own_shape ho.out.row
  refine ⟨a, _, cp, zs, rfl, hB, ⟨IsSl.of_own enc7_len ho.out.row rfl, ho.ls, fun r hr => ?_⟩, hc⟩
  exact ((getAll_one b.length (Nat.le_refl _) hb).1 r.c (by rw [← hc]; exact List.mem_map.2 ⟨r, hr, rfl⟩)).1
set_option maxRecDepth 100000 in
set_option maxHeartbeats 8000000 in
theorem getsall_law (a : Option Addr) (n c : Nat) (zs : List Int) (w : World) (h : IsInts .u8 w a n c zs) :
    Calls Try.prog 12 #[.slice a n c] w fun e w' => e = .returned (.bool true) ∧ Below w.heap.size w w' := by
  obtain ⟨b, hS, hb⟩ := ints_by h
  have hn := hS.u8; have hnc := hS.hle; have hmx := hS.hmax
  unfold maxLen at hmx
  by_cases hl : 5000 < n
  · have W := Lib.hid (works_any w)
    have e1 : decide ((5000 : Int) < (n : Int)) = true := by simp; omega
    have e2 : decide (5000 < n) = true := by simp; omega
    clear h hS hb hn
    go_enter Try.func12, Try.ntmps12
    go_wp2_with fail
    refine (W.out).mono ?_; rintro e w1 ⟨rfl, hb⟩
    have B := Lib.hid hb
    clear hb
    go_wp2_with fail
    go_ret
    exact ⟨rfl, B.out⟩
  · have e1 : decide ((5000 : Int) < (n : Int)) = false := by simp; omega
    have e2 : decide (5000 < n) = false := by simp; omega
    have P1 := Lib.hid ((pgetall hS hb (by omega)).mono (fun e w' h => ga_sl hb h))
    have P2 : Hid (∀ w2, Below w.heap.size w w2 → Calls Try.prog 35 #[.slice a n c] w2 (GaS w2 (getAll b))) := Lib.hid (fun w2 h2 => (rgetall (hS.below h2) hb (by omega)).mono (fun e w' h => ga_sl hb h))
    generalize getAll b = g at *
    obtain ⟨l, k, ok⟩ := g
    unfold GaS at P1 P2
    dsimp only at P1 P2
    generalize (if ok = true then (0 : Int) else 15) = er at *
    clear h hS hb hn hl
    go_enter Try.func12, Try.ntmps12
    go_wp2_with fail
    refine (P1.out).mono ?_; rintro e w1 ⟨a1, n1, c1, zs1, rfl, hb1, hC1, hz1⟩
    have B1 := Lib.hid hb1
    have C1 := Lib.hid hC1
    have Z1 := Lib.hid hz1
    have P3 := Lib.hid (P2.out w1 hb1)
    clear hb1 hC1 hz1 P1 P2
    go_wp2_with fail
    refine (P3.out).mono ?_; rintro e w2 ⟨a2, n2, c2, zs2, rfl, hb2, hC2, hz2⟩
    have B2 := Lib.hid (B1.out.trans (hb2.mono B1.out.size))
    have Y := Lib.hid (cmds_yes (C1.out.below hb2) hC2 (Z1.out.trans hz2.symm))
    clear hb2 hC2 hz2 P3
    go_wp2_with fail
    refine (Y.out).mono ?_; rintro e w3 ⟨rfl, hb3⟩
    have B3 := Lib.hid (B2.out.trans (hb3.mono B2.out.size))
    have W := Lib.hid (works_any w3)
    clear hb3 Y
    go_wp2_with fail
    refine (W.out).mono ?_; rintro e w4 ⟨rfl, hb4⟩
    have B4 := Lib.hid (B3.out.trans (hb4.mono B3.out.size))
    clear hb4 W
    go_wp2_with fail
    go_ret
    exact ⟨rfl, B4.out⟩
end Go.Proofs.Ythnoihdojinocaa

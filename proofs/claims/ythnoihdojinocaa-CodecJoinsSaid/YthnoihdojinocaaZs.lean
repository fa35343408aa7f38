/- CodecPrefix: the walk. -/
import Derived.Test.YthnoihdojinocaaZr
namespace Go.Proofs.Ythnoihdojinocaa
open Go.ChangeShapes Go.WideShapes Go.ChangeAt Go.RowKit
set_option linter.unusedVariables false
set_option linter.unusedSimpArgs false

theorem by_flat {α : Type} {g : α → List Nat} (l : List α) (h : ∀ x ∈ l, By (g x)) : By (l.flatMap g) := fun q hq => by
  obtain ⟨x, hx, hx2⟩ := List.mem_flatMap.1 hq
  exact h x hx q hx2
theorem by_vi (x : Nat) : By (vi x) := fun q hq => vi_byte x q hq
theorem encF_by (c : Cm) (f : Fd) : By (encF c f) := by
  cases f <;> simp only [encF, encL, vf]
  · exact by_vi _
  · exact by_vi _
  · exact by_vi _
  · exact by_vi _
  · exact (by_vi _).app (by_flat _ (fun x _ => by_vi x))
  · exact (by_vi _).app (by_flat _ (fun x _ => by_vi _))
theorem frm_by {c : Cm} (h : chk c = 0) : By (frm c) := by
  obtain ⟨fs, hu, _⟩ := chk_ok h
  have hop := (uses_some hu).1
  unfold frm
  rw [hu]
  refine (by_vi _).app (fun q hq => ?_)
  unfold pay at hq
  rcases List.mem_cons.1 hq with e | e
  · rw [e]; omega
  · exact by_flat fs (fun f _ => encF_by c f) q e
def PxRel (w1 : World) (n : Nat) (v : Value) (wr : World) : Prop := ∃ i : Nat, i ≤ n ∧ v = .int .i64 (i : Int) ∧ Below w1.heap.size w1 wr
set_option maxRecDepth 100000 in
set_option maxHeartbeats 16000000 in
theorem prefix_law (c : Cm) (ad : Option Addr) (cd : Nat) (ab : Option Addr) (cb : Nat) (w : World) (hL : LsAt w c ad cd ab cb) (hc : c.ok) :
    Calls Try.prog 8 #[.agg (cmV c (.slice ad c.d.length cd) (.slice ab c.b.length cb))] w fun e w' => e = .returned (.bool true) ∧ Below w.heap.size w w' := by
  obtain ⟨W1, hW1⟩ : ∃ W1, W1 = w.alloc (.cells (cmV c (.slice ad c.d.length cd) (.slice ab c.b.length cb)) 27) := ⟨_, rfl⟩
  have A1 : Below w.heap.size w W1 := by rw [hW1]; exact Below.alloc (Below.refl _ _) (Nat.le_refl _) _
  have AW := Lib.hid A1
  have HX : W1.heap[w.heap.size]? = some (.cells (cmV c (.slice ad c.d.length cd) (.slice ab c.b.length cb)) 27 (0, 0)) := by rw [hW1]; exact block_new _ _
  have BX := Lib.hid (box_of HX)
  have HL1 := Lib.hid (hL.keep A1)
  have HW1 := Lib.hid hW1
  have HC := Lib.hid hc
  obtain ⟨x0, x1, x2, x3, x4, x5, x6⟩ := BX.out W1 (Below.refl _ _)
  by_cases hbad : 100 < c.d.length ∨ 100 < c.b.length
  · have W := Lib.hid (works_any W1)
    by_cases h1 : 100 < c.d.length
    · have e1 : decide ((100 : Int) < (c.d.length : Int)) = true := by simp; omega
      have e2 : decide (100 < c.d.length) = true := by simp; omega
      clear hbad hL hc A1 hW1 HX
      generalize c.d.length = dl at *
      generalize c.b.length = bl at *
      unfold cmV at *
      go_enter Try.func8, Try.ntmps8
      go_wp2_with fail
      rw [← HW1.out]
      refine (W.out).mono ?_; rintro e w1 ⟨rfl, hb⟩
      have B := Lib.hid (AW.out.trans (hb.mono AW.out.size))
      clear hb
      go_wp2_with fail
      go_ret
      exact ⟨rfl, B.out⟩
    · have e1 : decide ((100 : Int) < (c.d.length : Int)) = false := by simp; omega
      have e2 : decide (100 < c.d.length) = false := by simp; omega
      have e3 : decide ((100 : Int) < (c.b.length : Int)) = true := by simp; omega
      have e4 : decide (100 < c.b.length) = true := by simp; omega
      clear hbad hL hc A1 hW1 HX
      generalize c.d.length = dl at *
      generalize c.b.length = bl at *
      unfold cmV at *
      go_enter Try.func8, Try.ntmps8
      go_wp2_with fail
      rw [← HW1.out]
      refine (W.out).mono ?_; rintro e w1 ⟨rfl, hb⟩
      have B := Lib.hid (AW.out.trans (hb.mono AW.out.size))
      clear hb
      go_wp2_with fail
      go_ret
      exact ⟨rfl, B.out⟩
  · have e1 : decide ((100 : Int) < (c.d.length : Int)) = false := by simp; omega
    have e2 : decide (100 < c.d.length) = false := by simp; omega
    have e3 : decide ((100 : Int) < (c.b.length : Int)) = false := by simp; omega
    have e4 : decide (100 < c.b.length) = false := by simp; omega
    have P1 := Lib.hid (pput HL1.out HC.out (by omega) (by omega))
    obtain ⟨ck, hck⟩ : ∃ ck, chk c = ck := ⟨_, rfl⟩
    have HCK := Lib.hid hck
    clear hbad hL hc A1 hW1 HX hck
    generalize c.d.length = dl at *
    generalize c.b.length = bl at *
    unfold cmV at *
    by_cases hk : ck = 0
    · subst hk
      go_enter Try.func8, Try.ntmps8
      go_wp2_with fail
      rw [← HW1.out]
      refine (P1.out).mono ?_; rintro e w2 ⟨v2, rfl, hb2, ho2, -⟩
      have hO2 := ho2 HCK.out
      obtain ⟨a2, c2, rfl, hS2⟩ := hO2.sl
      rw [HCK.out]
      rw [ns_len] at hS2 ⊢
      have S2 := Lib.hid hS2
      have hc2 := hS2.hle; have hm2 := hS2.hmax
      unfold maxLen at hm2
      have B2 := Lib.hid (AW.out.trans (hb2.mono AW.out.size))
      have GP : Hid (∀ i, i < (frm c).length → get ((frm c).take i) = none) := Lib.hid (fun i hi => get_part HC.out HCK.out hi (frm_by HCK.out))
      have BF := Lib.hid (frm_by HCK.out)
      generalize frm c = F at *
      generalize hn : F.length = n at *
      have hsl : ∀ i : Nat, i ≤ n → ∀ w, (Instr.slice 29 (.slice a2 n c2) none (some (.int .i64 (i : Int))) none).run Try.prog w = .ok (.slice (part a2 0 c2 1) i c2) w := fun i hi => run_to Try.underlying29 size1 (a := a2) (len := n) (cap := c2) (h := (i : Int)) (k := i) rfl (by omega)
      have SP : Hid (∀ i, i ≤ n → ∀ w', Below w2.heap.size w2 w' → IsK .u8 w' (part a2 0 c2 1) i c2 (ns (F.take i))) := Lib.hid (fun i hi w' h => by
        have := (S2.out.below h).part (l := 0) (r := i) (m := c2) (by omega) hi (by omega) (Nat.le_refl _)
        rw [List.drop_zero, Nat.sub_zero, Nat.sub_zero] at this
        rwa [show ns (F.take i) = (ns F).take i by simp [ns, List.map_take]])
      generalize part a2 0 c2 1 = pa at *
      clear x0 x1 x2 x3 x4 x5 x6 hb2 ho2 hO2 hS2 P1 hn
      go_wp2_with fail
      go_loopw [5] (fun v5 wr => PxRel w2 n v5 wr) (fun v5 _ => n - (intOf v5).toNat)
      case atStart => exact ⟨0, Nat.zero_le _, rfl, Below.refl _ _⟩
      case round =>
        obtain ⟨i, hin, rfl, hb⟩ := hrel
        have BR := Lib.hid hb
        clear hb
        by_cases hlt : i < n
        · have hs := hsl i hin
          have G := Lib.hid (pget (SP.out i hin wr BR.out) (BF.out.take i))
          rw [GP.out i hlt] at G
          go_wp2_with fail
          refine (G.out).mono ?_; rintro e w5 ⟨ad5, cd5, ab5, cb5, rfl, -, hb5⟩
          have B5 := Lib.hid (BR.out.trans (hb5.mono BR.out.size))
          clear hb5 G
          simp only [getV, nul, cmV, List.length_nil]
          go_wp2_with fail
          go_roundw
          case rel => exact ⟨i + 1, hlt, by go_num, B5.out.alloc B5.out.size _⟩
          case measure => simp [intOf]; omega
        · have W := Lib.hid (works_any wr)
          go_wp2_with fail
          refine (W.out).mono ?_; rintro e w6 ⟨rfl, hb6⟩
          have B6 := Lib.hid (B2.out.trans ((BR.out.trans (hb6.mono BR.out.size)).mono B2.out.size))
          clear hb6 W
          go_wp2_with fail
          go_ret
          exact ⟨rfl, B6.out⟩
    · have f1 : (ck == 0) = false := by simpa using hk
      have f2 : (ck != 0) = true := by simpa using hk
      have HK := Lib.hid hk
      clear hk
      go_enter Try.func8, Try.ntmps8
      go_wp2_with fail
      rw [← HW1.out]
      refine (P1.out).mono ?_; rintro e w2 ⟨v2, rfl, hb2, -, ho2⟩
      rw [HCK.out]
      have hv2 := ho2 (fun h => HK.out (HCK.out.symm.trans h))
      subst hv2
      have B2 := Lib.hid (AW.out.trans (hb2.mono AW.out.size))
      have W := Lib.hid (works_any w2)
      clear hb2 ho2 P1 x0 x1 x2 x3 x4 x5 x6
      go_wp2_with fail
      refine (W.out).mono ?_; rintro e w6 ⟨rfl, hb6⟩
      have B6 := Lib.hid (B2.out.trans (hb6.mono B2.out.size))
      clear hb6 W
      go_wp2_with fail
      go_ret
      exact ⟨rfl, B6.out⟩
end Go.Proofs.Ythnoihdojinocaa

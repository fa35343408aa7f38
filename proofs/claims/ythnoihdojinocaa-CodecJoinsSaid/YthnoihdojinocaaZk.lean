/- Equal commands are found equal. -/
import Derived.Test.YthnoihdojinocaaZh
namespace Go.Proofs.Ythnoihdojinocaa
open Go.ChangeShapes Go.WideShapes Go.ChangeAt Go.RowKit
set_option linter.unusedVariables false
set_option linter.unusedSimpArgs false

def EqRel (W1 : World) (n : Nat) (v : Value) (wr : World) : Prop := ∃ i : Nat, i ≤ n ∧ v = .int .i64 (i : Int) ∧ Below W1.heap.size W1 wr
set_option maxRecDepth 100000 in
set_option maxHeartbeats 8000000 in
theorem cmd_yes {w : World} {c : Cm} {ad ab ad' ab' : Option Addr} {cd cb cd' cb' : Nat} (h : LsAt w c ad cd ab cb) (h' : LsAt w c ad' cd' ab' cb') :
    Calls Try.prog 23 #[.agg (cmV c (.slice ad c.d.length cd) (.slice ab c.b.length cb)), .agg (cmV c (.slice ad' c.d.length cd') (.slice ab' c.b.length cb'))] w fun e w' => e = .returned (.bool true) ∧ Below w.heap.size w w' := by
  obtain ⟨W1, hW1⟩ : ∃ W, W = (w.alloc (.cells (cmV c (.slice ad c.d.length cd) (.slice ab c.b.length cb)) 27)).alloc (.cells (cmV c (.slice ad' c.d.length cd') (.slice ab' c.b.length cb')) 27) := ⟨_, rfl⟩
  have A : Below w.heap.size w W1 := by rw [hW1]; exact (Below.alloc (Below.refl _ _) (Nat.le_refl _) _).alloc (by simp) _
  have AW := Lib.hid A
  have H := Lib.hid (h.keep A); have H' := Lib.hid (h'.keep A)
  have HX : Hid (W1.heap[w.heap.size]? = some (.cells (cmV c (.slice ad c.d.length cd) (.slice ab c.b.length cb)) 27 (0, 0))) := Lib.hid (by rw [hW1]; exact block_old (block_new _ _) _)
  have HY : Hid (W1.heap[w.heap.size + 1]? = some (.cells (cmV c (.slice ad' c.d.length cd') (.slice ab' c.b.length cb')) 27 (0, 0))) := Lib.hid (by
    rw [hW1]
    have := block_new (w.alloc (.cells (cmV c (.slice ad c.d.length cd) (.slice ab c.b.length cb)) 27)) (.cells (cmV c (.slice ad' c.d.length cd') (.slice ab' c.b.length cb')) 27)
    rwa [show (w.alloc (.cells (cmV c (.slice ad c.d.length cd) (.slice ab c.b.length cb)) 27)).heap.size = w.heap.size + 1 by simp] at this)
  have HW1 := Lib.hid hW1
  have hdx := h.d.hle; have hdm := h.d.hmax; have hbx := h.b.hle; have hbm := h.b.hmax
  unfold maxLen at hdm hbm
  clear h h' A hW1
  unfold cmV at *
  generalize hdl : c.d.length = dl at *
  generalize hbl : c.b.length = bl at *
  have HD := Lib.hid hdl; have HB := Lib.hid hbl
  clear hdl hbl
  go_enter Try.func23, Try.ntmps23
  go_wp2_with fail
  rw [← HW1.out]
  go_loopw [5] (fun v5 wr => EqRel W1 dl v5 wr) (fun v5 _ => dl - (intOf v5).toNat)
  case atStart => exact ⟨0, Nat.zero_le _, rfl, Below.refl _ _⟩
  case round =>
    obtain ⟨i, hi, rfl, hb⟩ := hrel
    have B := Lib.hid hb
    clear hb
    have x5 : wr.cell? ⟨w.heap.size, 5, none⟩ = some (.slice ad dl cd) := by rw [B.out.cell (p := ⟨w.heap.size, 5, none⟩) (lt_of_block HX.out)]; exact cell_of HX.out 5
    have y5 : wr.cell? ⟨w.heap.size + 1, 5, none⟩ = some (.slice ad' dl cd') := by rw [B.out.cell (p := ⟨w.heap.size + 1, 5, none⟩) (lt_of_block HY.out)]; exact cell_of HY.out 5
    by_cases hlt : i < dl
    · have hil : i < c.d.length := by have := HD.out; omega
      have s1 := H.out.d.below B.out
      have s2 := H'.out.d.below B.out
      obtain ⟨b1, o1, rfl, -, -⟩ := s1.at_ (by intro e; have h1 := ns_len c.d; rw [e, List.length_nil] at h1; omega)
      obtain ⟨b2, o2, rfl, -, -⟩ := s2.at_ (by intro e; have h1 := ns_len c.d; rw [e, List.length_nil] at h1; omega)
      have x0 := s1.cellK (i := i) (by rw [ns_len]; exact hil)
      have y0 := s2.cellK (i := i) (by rw [ns_len]; exact hil)
      generalize (ns c.d).getD i 0 = z at *
      clear s1 s2 hil
      go_wp2_with fail
      go_quiet (fail)
      go_wp2_with fail
      go_roundw
      case rel => exact ⟨i + 1, hlt, by go_num, below_drewN B.out _⟩
      case measure => simp [intOf]; omega
    · go_wp2_with fail
      clear x5 y5
      go_loopw [6] (fun v6 wr => EqRel W1 bl v6 wr) (fun v6 _ => bl - (intOf v6).toNat)
      case atStart => exact ⟨0, Nat.zero_le _, rfl, B.out⟩
      case round =>
        obtain ⟨j, hj, rfl, hb⟩ := hrel
        have B2 := Lib.hid hb
        clear hb B
        have x6 : wr.cell? ⟨w.heap.size, 6, none⟩ = some (.slice ab bl cb) := by rw [B2.out.cell (p := ⟨w.heap.size, 6, none⟩) (lt_of_block HX.out)]; exact cell_of HX.out 6
        have y6 : wr.cell? ⟨w.heap.size + 1, 6, none⟩ = some (.slice ab' bl cb') := by rw [B2.out.cell (p := ⟨w.heap.size + 1, 6, none⟩) (lt_of_block HY.out)]; exact cell_of HY.out 6
        by_cases hlt2 : j < bl
        · have hjl : j < c.b.length := by have := HB.out; omega
          have s1 := H.out.b.below B2.out
          have s2 := H'.out.b.below B2.out
          obtain ⟨b1, o1, rfl, -, -⟩ := s1.at_ (by intro e; rw [e] at hjl; simp at hjl)
          obtain ⟨b2, o2, rfl, -, -⟩ := s2.at_ (by intro e; rw [e] at hjl; simp at hjl)
          have x0 := s1.cellK (i := j) hjl
          have y0 := s2.cellK (i := j) hjl
          generalize c.b.getD j 0 = z at *
          clear s1 s2 hjl
          go_wp2_with fail
          go_quiet (fail)
          go_wp2_with fail
          go_roundw
          case rel => exact ⟨j + 1, hlt2, by go_num, below_drewN B2.out _⟩
          case measure => simp [intOf]; omega
        · go_wp2_with fail
          go_ret
          exact ⟨rfl, AW.out.trans (B2.out.mono AW.out.size)⟩
end Go.Proofs.Ythnoihdojinocaa

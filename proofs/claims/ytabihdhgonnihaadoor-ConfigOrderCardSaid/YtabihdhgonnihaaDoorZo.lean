/- Get of the document. -/
import Derived.Test.YtabihdhgonnihaaDoorZn
import Derived.Test.YtabihdhgonnihaaDoorV
namespace Go.Proofs.YtabihdhgonnihaaDoor
open Go.ChangeShapes Go.WideShapes Go.ChangeAt Go.RowKit
set_option linter.unusedVariables false
set_option linter.unusedSimpArgs false

def partG (l : List Int) (i k : Nat) : Cf := (halfG l i).put i (sg (be ((grp l i).take k)))
theorem partG_0 (l : List Int) {i : Nat} (hi : i < 4) : partG l i 0 = halfG l i := by
  have h4 : i = 0 ∨ i = 1 ∨ i = 2 ∨ i = 3 := by omega
  rcases h4 with rfl | rfl | rfl | rfl <;> simp [partG, halfG, Cf.put, be, sg]
theorem partG_8 (l : List Int) {i : Nat} (hi : i < 4) : partG l i 8 = halfG l (i + 1) := by
  have h8 : (grp l i).take 8 = grp l i := List.take_of_length_le (grp_len l i)
  unfold partG
  rw [h8]
  have h4 : i = 0 ∨ i = 1 ∨ i = 2 ∨ i = 3 := by omega
  rcases h4 with rfl | rfl | rfl | rfl <;> simp [halfG, Cf.put]
structure ReB (w : World) (l : List Int) (f : Cf) (wr : World) : Prop where
  box : wr.heap[w.heap.size + 1]? = some (.cells #[.int .i64 f.a, .int .i64 f.b, .int .i64 f.c, .int .i64 f.d] 2 (0, 0))
  out : wr.heap[w.heap.size]? = some (.cells #[.int .i64 0, .int .i64 0, .int .i64 0, .int .i64 0] 25 (0, 0))
  below : Below w.heap.size w wr
theorem ReB.next {w : World} {l : List Int} {f f' : Cf} {wr : World} (h : ReB w l f wr) {v : Value} {k : Nat}
    (hc : (#[.int .i64 f.a, .int .i64 f.b, .int .i64 f.c, .int .i64 f.d] : Array Value).setIfInBounds k v = #[.int .i64 f'.a, .int .i64 f'.b, .int .i64 f'.c, .int .i64 f'.d]) :
    ReB w l f' (wr.setCell ⟨w.heap.size + 1, k, none⟩ v).drew := by
  have h1 := set_of h.box k v
  rw [hc] at h1
  exact ⟨h1, block_set h.out (by simp) v, (h.below.setCell (by simp) _).drew⟩
theorem grp_get {l : List Int} (hl : 32 ≤ l.length) {i k : Nat} (hi : i < 4) (hk : k < 8) : (grp l i).getD k 0 = l.getD (8 * i + k) 0 := by
  unfold grp
  simp [List.getD_eq_getElem?_getD, List.getElem?_take, List.getElem?_drop, hk]
theorem sg_be {l : List Int} (h : IsB l) {k : Nat} (hk : k ≤ 7) : sg (be (l.take k)) = be (l.take k) := by
  have := be_in h hk
  unfold sg; rw [if_pos (by omega)]
/-- A round of the document's loop. -/
theorem re_step {l : List Int} (h : IsB l) (hl : l.length = 8) {k : Nat} (hk : k ≤ 7) : bits .or .i64 (wrap64 (sg (be (l.take k)) * 256)) (wrap64 (l.getD k 0)) = sg (be (l.take (k + 1))) := by
  have h1 := be_in h hk
  have h2 := isB_getD h k
  have h3 : wrap64 (l.getD k 0) = l.getD k 0 := by unfold wrap64; omega
  rw [h3, sg_be h hk, be_take (by omega), ← wrap64_i64, sg_wrap (by omega) (by omega), i64_step h1.1 h1.2 h2.1 h2.2]
set_option maxRecDepth 100000 in
theorem make4 : ∀ w, (Instr.makeSlice 81 (.int .i64 4) (.int .i64 4)).run Tryd.prog w = .ok (.slice (some ⟨w.heap.size, 0, none⟩) 4 4) (w.alloc (.cells #[.int .i64 0, .int .i64 0, .int .i64 0, .int .i64 0] 2)) := fun w => by kernel_rfl
set_option maxRecDepth 100000 in
set_option maxHeartbeats 16000000 in
theorem rget {aa : Option Addr} {n ca : Nat} {zs : List Int} {w : World} (hs : IsK .u8 w aa n ca zs) (hB : IsB zs) :
    Calls Tryd.prog 24 #[.slice aa n ca] w fun e w' => GetR (get zs) e ∧ Below w.heap.size w w' := by
  have hn := hs.hlen; have hle := hs.hle; have hmx := hs.hmax
  unfold maxLen at hmx
  by_cases hshort : n < 32
  · rw [get_short (by omega)]
    have e1 : decide ((n : Int) < 32) = true := by simp; omega
    have e2 : decide (n < 32) = true := by simpa using hshort
    have hy := block_new w (.cells #[.int .i64 0, .int .i64 0, .int .i64 0, .int .i64 0] 25)
    have N := Lib.hid (new25 w zero)
    clear hs hB hn hle hmx hshort
    go_enter Tryd.func24, Tryd.ntmps24
    have x0 : (w.alloc (.cells #[.int .i64 0, .int .i64 0, .int .i64 0, .int .i64 0] 25)).cell? ⟨w.heap.size, 0, none⟩ = some (.int .i64 0) := cell_of hy 0
    have x1 : (w.alloc (.cells #[.int .i64 0, .int .i64 0, .int .i64 0, .int .i64 0] 25)).cell? ⟨w.heap.size, 1, none⟩ = some (.int .i64 0) := cell_of hy 1
    have x2 : (w.alloc (.cells #[.int .i64 0, .int .i64 0, .int .i64 0, .int .i64 0] 25)).cell? ⟨w.heap.size, 2, none⟩ = some (.int .i64 0) := cell_of hy 2
    have x3 : (w.alloc (.cells #[.int .i64 0, .int .i64 0, .int .i64 0, .int .i64 0] 25)).cell? ⟨w.heap.size, 3, none⟩ = some (.int .i64 0) := cell_of hy 3
    go_wp2_with fail
    have B := N.out
    change Below w.heap.size w (w.alloc (.cells #[.int .i64 0, .int .i64 0, .int .i64 0, .int .i64 0] 25)) at B
    clear N hy
    generalize w.alloc (.cells #[.int .i64 0, .int .i64 0, .int .i64 0, .int .i64 0] 25) = W at *
    exact bodyPost_ret (v := .tuple #[.agg #[.int .i64 0, .int .i64 0, .int .i64 0, .int .i64 0], .int .i64 0, .int .i64 15]) (by simp [results, Tryd.results24, go_sem, x0, x1, x2, x3]) rfl ⟨rfl, B⟩
  · have e1 : decide ((n : Int) < 32) = false := by simp; omega
    have e2 : decide (n < 32) = false := by simpa using hshort
    have HS := Lib.hid hs
    have HBB := Lib.hid hB
    have HL : Hid (zs.length = n) := Lib.hid hn.symm
    have HN : Hid (32 ≤ n) := Lib.hid (by omega)
    have A : Hid (ReB w zs (partG zs 0 0) ((w.alloc (.cells #[.int .i64 0, .int .i64 0, .int .i64 0, .int .i64 0] 25)).alloc (.cells #[.int .i64 0, .int .i64 0, .int .i64 0, .int .i64 0] 2))) := Lib.hid (by
      rw [partG_0 zs (by omega)]
      refine ⟨?_, block_old (block_new _ _) _, (new25 w zero).alloc (by simp) _⟩
      have := block_new (w.alloc (.cells #[.int .i64 0, .int .i64 0, .int .i64 0, .int .i64 0] 25)) (.cells #[.int .i64 0, .int .i64 0, .int .i64 0, .int .i64 0] 2)
      rwa [show (w.alloc (.cells #[.int .i64 0, .int .i64 0, .int .i64 0, .int .i64 0] 25)).heap.size = w.heap.size + 1 by simp] at this)
    have hmk := make4
    obtain ⟨b, off, rfl, _, _⟩ := hs.at_ (by intro h; rw [h] at hn; simp at hn; omega)
    have KC := Lib.hid (fun w' (hb : Below w.heap.size w w') k (hk : k < zs.length) => (hs.below hb).cellK (i := k) hk)
    clear hs hB hn hle hmx hshort HS
    go_enter Tryd.func24, Tryd.ntmps24
    go_wp2_with fail
    clear hmk
    go_loopw [6] (fun v6 wr => ∃ (i : Nat) (z : Int), i ≤ 4 ∧ v6 = .int .i64 z ∧ z = (i : Int) ∧ ReB w zs (halfG zs i) wr) (fun v6 _ => 4 - (intOf v6).toNat)
    case atStart => exact ⟨0, 0, by omega, rfl, rfl, by have := A.out; rwa [partG_0 zs (by omega)] at this⟩
    case round =>
      obtain ⟨i, z, hi4, rfl, hz, hb⟩ := hrel
      have GB := Lib.hid hb
      clear hb A
      have h5 : i = 0 ∨ i = 1 ∨ i = 2 ∨ i = 3 ∨ i = 4 := by omega
      clear hi4
      rcases h5 with rfl | rfl | rfl | rfl | rfl
      · obtain rfl : z = 0 := by omega
        clear hz
        have GP : Hid (ReB w zs (partG zs 0 0) wr) := Lib.hid (by rw [partG_0 zs (by omega)]; exact GB.out)
        clear GB
        go_wp2_with fail
        go_loopw [7] (fun v7 wr => ∃ (k : Nat) (y : Int), k ≤ 8 ∧ v7 = .int .i64 y ∧ y = (k : Int) ∧ ReB w zs (partG zs 0 k) wr) (fun v7 _ => 8 - (intOf v7).toNat)
        case atStart => exact ⟨0, 0, by omega, rfl, rfl, GP.out⟩
        case round =>
          obtain ⟨k, y, hk8, rfl, hy, hc⟩ := hrel
          have GC := Lib.hid hc
          clear hc GP
          have h9 : k = 0 ∨ k = 1 ∨ k = 2 ∨ k = 3 ∨ k = 4 ∨ k = 5 ∨ k = 6 ∨ k = 7 ∨ k = 8 := by omega
          clear hk8
          rcases h9 with rfl | rfl | rfl | rfl | rfl | rfl | rfl | rfl | rfl
          · obtain rfl : y = 0 := by omega
            clear hy
            have hx : wr.cell? ⟨w.heap.size + 1, 0, none⟩ = some (.int .i64 (sg (be ((grp zs 0).take 0)))) := cell_of GC.out.box 0
            have hfz : wr.frozen? ⟨w.heap.size + 1, 0, none⟩ = false := free_of GC.out.box 0
            have hlt := lt_of_block GC.out.box
            have hix : 0 < n := by have := HN.out; omega
            have hixz : (0 : Int) < (n : Int) := by omega
            have hc := KC.out wr GC.out.below 0 (by have := HL.out; omega)
            rw [Nat.add_zero] at hc
            have hst := re_step (grp_b HBB.out 0) (by have := HN.out; have := HL.out; simp [grp]; omega) (k := 0) (by omega)
            rw [grp_get (by have := HN.out; have := HL.out; omega) (by omega) (by omega)] at hst
            rw [show 8 * 0 + 0 = 0 from rfl] at hst
            have HX : Hid (∀ x, x = sg (be ((grp zs 0).take (0 + 1))) → ReB w zs (partG zs 0 (0 + 1)) (wr.setCell ⟨w.heap.size + 1, 0, none⟩ (.int .i64 x)).drew) := Lib.hid (fun x hx => GC.out.next (by rw [hx]; rfl))
            generalize sg (be ((grp zs 0).take 0)) = x at *
            generalize zs.getD 0 0 = c at *
            have HST := Lib.hid hst
            clear hst GC
            go_wp2_with fail
            go_region
            go_wp2_with fail
            go_roundw
            case rel => exact ⟨0 + 1, _, by omega, rfl, by omega, HX.out _ HST.out⟩
            case measure => simp [intOf]
          · obtain rfl : y = 1 := by omega
            clear hy
            have hx : wr.cell? ⟨w.heap.size + 1, 0, none⟩ = some (.int .i64 (sg (be ((grp zs 0).take 1)))) := cell_of GC.out.box 0
            have hfz : wr.frozen? ⟨w.heap.size + 1, 0, none⟩ = false := free_of GC.out.box 0
            have hlt := lt_of_block GC.out.box
            have hix : 1 < n := by have := HN.out; omega
            have hixz : (1 : Int) < (n : Int) := by omega
            have hc := KC.out wr GC.out.below 1 (by have := HL.out; omega)
            have hst := re_step (grp_b HBB.out 0) (by have := HN.out; have := HL.out; simp [grp]; omega) (k := 1) (by omega)
            rw [grp_get (by have := HN.out; have := HL.out; omega) (by omega) (by omega)] at hst
            rw [show 8 * 0 + 1 = 1 from rfl] at hst
            have HX : Hid (∀ x, x = sg (be ((grp zs 0).take (1 + 1))) → ReB w zs (partG zs 0 (1 + 1)) (wr.setCell ⟨w.heap.size + 1, 0, none⟩ (.int .i64 x)).drew) := Lib.hid (fun x hx => GC.out.next (by rw [hx]; rfl))
            generalize sg (be ((grp zs 0).take 1)) = x at *
            generalize zs.getD 1 0 = c at *
            have HST := Lib.hid hst
            clear hst GC
            go_wp2_with fail
            go_region
            go_wp2_with fail
            go_roundw
            case rel => exact ⟨1 + 1, _, by omega, rfl, by omega, HX.out _ HST.out⟩
            case measure => simp [intOf]
          · obtain rfl : y = 2 := by omega
            clear hy
            have hx : wr.cell? ⟨w.heap.size + 1, 0, none⟩ = some (.int .i64 (sg (be ((grp zs 0).take 2)))) := cell_of GC.out.box 0
            have hfz : wr.frozen? ⟨w.heap.size + 1, 0, none⟩ = false := free_of GC.out.box 0
            have hlt := lt_of_block GC.out.box
            have hix : 2 < n := by have := HN.out; omega
            have hixz : (2 : Int) < (n : Int) := by omega
            have hc := KC.out wr GC.out.below 2 (by have := HL.out; omega)
            have hst := re_step (grp_b HBB.out 0) (by have := HN.out; have := HL.out; simp [grp]; omega) (k := 2) (by omega)
            rw [grp_get (by have := HN.out; have := HL.out; omega) (by omega) (by omega)] at hst
            rw [show 8 * 0 + 2 = 2 from rfl] at hst
            have HX : Hid (∀ x, x = sg (be ((grp zs 0).take (2 + 1))) → ReB w zs (partG zs 0 (2 + 1)) (wr.setCell ⟨w.heap.size + 1, 0, none⟩ (.int .i64 x)).drew) := Lib.hid (fun x hx => GC.out.next (by rw [hx]; rfl))
            generalize sg (be ((grp zs 0).take 2)) = x at *
            generalize zs.getD 2 0 = c at *
            have HST := Lib.hid hst
            clear hst GC
            go_wp2_with fail
            go_region
            go_wp2_with fail
            go_roundw
            case rel => exact ⟨2 + 1, _, by omega, rfl, by omega, HX.out _ HST.out⟩
            case measure => simp [intOf]
          · obtain rfl : y = 3 := by omega
            clear hy
            have hx : wr.cell? ⟨w.heap.size + 1, 0, none⟩ = some (.int .i64 (sg (be ((grp zs 0).take 3)))) := cell_of GC.out.box 0
            have hfz : wr.frozen? ⟨w.heap.size + 1, 0, none⟩ = false := free_of GC.out.box 0
            have hlt := lt_of_block GC.out.box
            have hix : 3 < n := by have := HN.out; omega
            have hixz : (3 : Int) < (n : Int) := by omega
            have hc := KC.out wr GC.out.below 3 (by have := HL.out; omega)
            have hst := re_step (grp_b HBB.out 0) (by have := HN.out; have := HL.out; simp [grp]; omega) (k := 3) (by omega)
            rw [grp_get (by have := HN.out; have := HL.out; omega) (by omega) (by omega)] at hst
            rw [show 8 * 0 + 3 = 3 from rfl] at hst
            have HX : Hid (∀ x, x = sg (be ((grp zs 0).take (3 + 1))) → ReB w zs (partG zs 0 (3 + 1)) (wr.setCell ⟨w.heap.size + 1, 0, none⟩ (.int .i64 x)).drew) := Lib.hid (fun x hx => GC.out.next (by rw [hx]; rfl))
            generalize sg (be ((grp zs 0).take 3)) = x at *
            generalize zs.getD 3 0 = c at *
            have HST := Lib.hid hst
            clear hst GC
            go_wp2_with fail
            go_region
            go_wp2_with fail
            go_roundw
            case rel => exact ⟨3 + 1, _, by omega, rfl, by omega, HX.out _ HST.out⟩
            case measure => simp [intOf]
          · obtain rfl : y = 4 := by omega
            clear hy
            have hx : wr.cell? ⟨w.heap.size + 1, 0, none⟩ = some (.int .i64 (sg (be ((grp zs 0).take 4)))) := cell_of GC.out.box 0
            have hfz : wr.frozen? ⟨w.heap.size + 1, 0, none⟩ = false := free_of GC.out.box 0
            have hlt := lt_of_block GC.out.box
            have hix : 4 < n := by have := HN.out; omega
            have hixz : (4 : Int) < (n : Int) := by omega
            have hc := KC.out wr GC.out.below 4 (by have := HL.out; omega)
            have hst := re_step (grp_b HBB.out 0) (by have := HN.out; have := HL.out; simp [grp]; omega) (k := 4) (by omega)
            rw [grp_get (by have := HN.out; have := HL.out; omega) (by omega) (by omega)] at hst
            rw [show 8 * 0 + 4 = 4 from rfl] at hst
            have HX : Hid (∀ x, x = sg (be ((grp zs 0).take (4 + 1))) → ReB w zs (partG zs 0 (4 + 1)) (wr.setCell ⟨w.heap.size + 1, 0, none⟩ (.int .i64 x)).drew) := Lib.hid (fun x hx => GC.out.next (by rw [hx]; rfl))
            generalize sg (be ((grp zs 0).take 4)) = x at *
            generalize zs.getD 4 0 = c at *
            have HST := Lib.hid hst
            clear hst GC
            go_wp2_with fail
            go_region
            go_wp2_with fail
            go_roundw
            case rel => exact ⟨4 + 1, _, by omega, rfl, by omega, HX.out _ HST.out⟩
            case measure => simp [intOf]
          · obtain rfl : y = 5 := by omega
            clear hy
            have hx : wr.cell? ⟨w.heap.size + 1, 0, none⟩ = some (.int .i64 (sg (be ((grp zs 0).take 5)))) := cell_of GC.out.box 0
            have hfz : wr.frozen? ⟨w.heap.size + 1, 0, none⟩ = false := free_of GC.out.box 0
            have hlt := lt_of_block GC.out.box
            have hix : 5 < n := by have := HN.out; omega
            have hixz : (5 : Int) < (n : Int) := by omega
            have hc := KC.out wr GC.out.below 5 (by have := HL.out; omega)
            have hst := re_step (grp_b HBB.out 0) (by have := HN.out; have := HL.out; simp [grp]; omega) (k := 5) (by omega)
            rw [grp_get (by have := HN.out; have := HL.out; omega) (by omega) (by omega)] at hst
            rw [show 8 * 0 + 5 = 5 from rfl] at hst
            have HX : Hid (∀ x, x = sg (be ((grp zs 0).take (5 + 1))) → ReB w zs (partG zs 0 (5 + 1)) (wr.setCell ⟨w.heap.size + 1, 0, none⟩ (.int .i64 x)).drew) := Lib.hid (fun x hx => GC.out.next (by rw [hx]; rfl))
            generalize sg (be ((grp zs 0).take 5)) = x at *
            generalize zs.getD 5 0 = c at *
            have HST := Lib.hid hst
            clear hst GC
            go_wp2_with fail
            go_region
            go_wp2_with fail
            go_roundw
            case rel => exact ⟨5 + 1, _, by omega, rfl, by omega, HX.out _ HST.out⟩
            case measure => simp [intOf]
          · obtain rfl : y = 6 := by omega
            clear hy
            have hx : wr.cell? ⟨w.heap.size + 1, 0, none⟩ = some (.int .i64 (sg (be ((grp zs 0).take 6)))) := cell_of GC.out.box 0
            have hfz : wr.frozen? ⟨w.heap.size + 1, 0, none⟩ = false := free_of GC.out.box 0
            have hlt := lt_of_block GC.out.box
            have hix : 6 < n := by have := HN.out; omega
            have hixz : (6 : Int) < (n : Int) := by omega
            have hc := KC.out wr GC.out.below 6 (by have := HL.out; omega)
            have hst := re_step (grp_b HBB.out 0) (by have := HN.out; have := HL.out; simp [grp]; omega) (k := 6) (by omega)
            rw [grp_get (by have := HN.out; have := HL.out; omega) (by omega) (by omega)] at hst
            rw [show 8 * 0 + 6 = 6 from rfl] at hst
            have HX : Hid (∀ x, x = sg (be ((grp zs 0).take (6 + 1))) → ReB w zs (partG zs 0 (6 + 1)) (wr.setCell ⟨w.heap.size + 1, 0, none⟩ (.int .i64 x)).drew) := Lib.hid (fun x hx => GC.out.next (by rw [hx]; rfl))
            generalize sg (be ((grp zs 0).take 6)) = x at *
            generalize zs.getD 6 0 = c at *
            have HST := Lib.hid hst
            clear hst GC
            go_wp2_with fail
            go_region
            go_wp2_with fail
            go_roundw
            case rel => exact ⟨6 + 1, _, by omega, rfl, by omega, HX.out _ HST.out⟩
            case measure => simp [intOf]
          · obtain rfl : y = 7 := by omega
            clear hy
            have hx : wr.cell? ⟨w.heap.size + 1, 0, none⟩ = some (.int .i64 (sg (be ((grp zs 0).take 7)))) := cell_of GC.out.box 0
            have hfz : wr.frozen? ⟨w.heap.size + 1, 0, none⟩ = false := free_of GC.out.box 0
            have hlt := lt_of_block GC.out.box
            have hix : 7 < n := by have := HN.out; omega
            have hixz : (7 : Int) < (n : Int) := by omega
            have hc := KC.out wr GC.out.below 7 (by have := HL.out; omega)
            have hst := re_step (grp_b HBB.out 0) (by have := HN.out; have := HL.out; simp [grp]; omega) (k := 7) (by omega)
            rw [grp_get (by have := HN.out; have := HL.out; omega) (by omega) (by omega)] at hst
            rw [show 8 * 0 + 7 = 7 from rfl] at hst
            have HX : Hid (∀ x, x = sg (be ((grp zs 0).take (7 + 1))) → ReB w zs (partG zs 0 (7 + 1)) (wr.setCell ⟨w.heap.size + 1, 0, none⟩ (.int .i64 x)).drew) := Lib.hid (fun x hx => GC.out.next (by rw [hx]; rfl))
            generalize sg (be ((grp zs 0).take 7)) = x at *
            generalize zs.getD 7 0 = c at *
            have HST := Lib.hid hst
            clear hst GC
            go_wp2_with fail
            go_region
            go_wp2_with fail
            go_roundw
            case rel => exact ⟨7 + 1, _, by omega, rfl, by omega, HX.out _ HST.out⟩
            case measure => simp [intOf]
          · obtain rfl : y = 8 := by omega
            clear hy
            go_wp2_with fail
            go_roundw
            case rel => exact ⟨0 + 1, _, by omega, rfl, by omega, by have := GC.out; rwa [partG_8 zs (by omega)] at this⟩
            case measure => simp [intOf]
      · obtain rfl : z = 1 := by omega
        clear hz
        have GP : Hid (ReB w zs (partG zs 1 0) wr) := Lib.hid (by rw [partG_0 zs (by omega)]; exact GB.out)
        clear GB
        go_wp2_with fail
        go_loopw [7] (fun v7 wr => ∃ (k : Nat) (y : Int), k ≤ 8 ∧ v7 = .int .i64 y ∧ y = (k : Int) ∧ ReB w zs (partG zs 1 k) wr) (fun v7 _ => 8 - (intOf v7).toNat)
        case atStart => exact ⟨0, 0, by omega, rfl, rfl, GP.out⟩
        case round =>
          obtain ⟨k, y, hk8, rfl, hy, hc⟩ := hrel
          have GC := Lib.hid hc
          clear hc GP
          have h9 : k = 0 ∨ k = 1 ∨ k = 2 ∨ k = 3 ∨ k = 4 ∨ k = 5 ∨ k = 6 ∨ k = 7 ∨ k = 8 := by omega
          clear hk8
          rcases h9 with rfl | rfl | rfl | rfl | rfl | rfl | rfl | rfl | rfl
          · obtain rfl : y = 0 := by omega
            clear hy
            have hx : wr.cell? ⟨w.heap.size + 1, 1, none⟩ = some (.int .i64 (sg (be ((grp zs 1).take 0)))) := cell_of GC.out.box 1
            have hfz : wr.frozen? ⟨w.heap.size + 1, 1, none⟩ = false := free_of GC.out.box 1
            have hlt := lt_of_block GC.out.box
            have hix : 8 < n := by have := HN.out; omega
            have hixz : (8 : Int) < (n : Int) := by omega
            have hc := KC.out wr GC.out.below 8 (by have := HL.out; omega)
            have hst := re_step (grp_b HBB.out 1) (by have := HN.out; have := HL.out; simp [grp]; omega) (k := 0) (by omega)
            rw [grp_get (by have := HN.out; have := HL.out; omega) (by omega) (by omega)] at hst
            rw [show 8 * 1 + 0 = 8 from rfl] at hst
            have HX : Hid (∀ x, x = sg (be ((grp zs 1).take (0 + 1))) → ReB w zs (partG zs 1 (0 + 1)) (wr.setCell ⟨w.heap.size + 1, 1, none⟩ (.int .i64 x)).drew) := Lib.hid (fun x hx => GC.out.next (by rw [hx]; rfl))
            generalize sg (be ((grp zs 1).take 0)) = x at *
            generalize zs.getD 8 0 = c at *
            have HST := Lib.hid hst
            clear hst GC
            go_wp2_with fail
            go_region
            go_wp2_with fail
            go_roundw
            case rel => exact ⟨0 + 1, _, by omega, rfl, by omega, HX.out _ HST.out⟩
            case measure => simp [intOf]
          · obtain rfl : y = 1 := by omega
            clear hy
            have hx : wr.cell? ⟨w.heap.size + 1, 1, none⟩ = some (.int .i64 (sg (be ((grp zs 1).take 1)))) := cell_of GC.out.box 1
            have hfz : wr.frozen? ⟨w.heap.size + 1, 1, none⟩ = false := free_of GC.out.box 1
            have hlt := lt_of_block GC.out.box
            have hix : 9 < n := by have := HN.out; omega
            have hixz : (9 : Int) < (n : Int) := by omega
            have hc := KC.out wr GC.out.below 9 (by have := HL.out; omega)
            have hst := re_step (grp_b HBB.out 1) (by have := HN.out; have := HL.out; simp [grp]; omega) (k := 1) (by omega)
            rw [grp_get (by have := HN.out; have := HL.out; omega) (by omega) (by omega)] at hst
            rw [show 8 * 1 + 1 = 9 from rfl] at hst
            have HX : Hid (∀ x, x = sg (be ((grp zs 1).take (1 + 1))) → ReB w zs (partG zs 1 (1 + 1)) (wr.setCell ⟨w.heap.size + 1, 1, none⟩ (.int .i64 x)).drew) := Lib.hid (fun x hx => GC.out.next (by rw [hx]; rfl))
            generalize sg (be ((grp zs 1).take 1)) = x at *
            generalize zs.getD 9 0 = c at *
            have HST := Lib.hid hst
            clear hst GC
            go_wp2_with fail
            go_region
            go_wp2_with fail
            go_roundw
            case rel => exact ⟨1 + 1, _, by omega, rfl, by omega, HX.out _ HST.out⟩
            case measure => simp [intOf]
          · obtain rfl : y = 2 := by omega
            clear hy
            have hx : wr.cell? ⟨w.heap.size + 1, 1, none⟩ = some (.int .i64 (sg (be ((grp zs 1).take 2)))) := cell_of GC.out.box 1
            have hfz : wr.frozen? ⟨w.heap.size + 1, 1, none⟩ = false := free_of GC.out.box 1
            have hlt := lt_of_block GC.out.box
            have hix : 10 < n := by have := HN.out; omega
            have hixz : (10 : Int) < (n : Int) := by omega
            have hc := KC.out wr GC.out.below 10 (by have := HL.out; omega)
            have hst := re_step (grp_b HBB.out 1) (by have := HN.out; have := HL.out; simp [grp]; omega) (k := 2) (by omega)
            rw [grp_get (by have := HN.out; have := HL.out; omega) (by omega) (by omega)] at hst
            rw [show 8 * 1 + 2 = 10 from rfl] at hst
            have HX : Hid (∀ x, x = sg (be ((grp zs 1).take (2 + 1))) → ReB w zs (partG zs 1 (2 + 1)) (wr.setCell ⟨w.heap.size + 1, 1, none⟩ (.int .i64 x)).drew) := Lib.hid (fun x hx => GC.out.next (by rw [hx]; rfl))
            generalize sg (be ((grp zs 1).take 2)) = x at *
            generalize zs.getD 10 0 = c at *
            have HST := Lib.hid hst
            clear hst GC
            go_wp2_with fail
            go_region
            go_wp2_with fail
            go_roundw
            case rel => exact ⟨2 + 1, _, by omega, rfl, by omega, HX.out _ HST.out⟩
            case measure => simp [intOf]
          · obtain rfl : y = 3 := by omega
            clear hy
            have hx : wr.cell? ⟨w.heap.size + 1, 1, none⟩ = some (.int .i64 (sg (be ((grp zs 1).take 3)))) := cell_of GC.out.box 1
            have hfz : wr.frozen? ⟨w.heap.size + 1, 1, none⟩ = false := free_of GC.out.box 1
            have hlt := lt_of_block GC.out.box
            have hix : 11 < n := by have := HN.out; omega
            have hixz : (11 : Int) < (n : Int) := by omega
            have hc := KC.out wr GC.out.below 11 (by have := HL.out; omega)
            have hst := re_step (grp_b HBB.out 1) (by have := HN.out; have := HL.out; simp [grp]; omega) (k := 3) (by omega)
            rw [grp_get (by have := HN.out; have := HL.out; omega) (by omega) (by omega)] at hst
            rw [show 8 * 1 + 3 = 11 from rfl] at hst
            have HX : Hid (∀ x, x = sg (be ((grp zs 1).take (3 + 1))) → ReB w zs (partG zs 1 (3 + 1)) (wr.setCell ⟨w.heap.size + 1, 1, none⟩ (.int .i64 x)).drew) := Lib.hid (fun x hx => GC.out.next (by rw [hx]; rfl))
            generalize sg (be ((grp zs 1).take 3)) = x at *
            generalize zs.getD 11 0 = c at *
            have HST := Lib.hid hst
            clear hst GC
            go_wp2_with fail
            go_region
            go_wp2_with fail
            go_roundw
            case rel => exact ⟨3 + 1, _, by omega, rfl, by omega, HX.out _ HST.out⟩
            case measure => simp [intOf]
          · obtain rfl : y = 4 := by omega
            clear hy
            have hx : wr.cell? ⟨w.heap.size + 1, 1, none⟩ = some (.int .i64 (sg (be ((grp zs 1).take 4)))) := cell_of GC.out.box 1
            have hfz : wr.frozen? ⟨w.heap.size + 1, 1, none⟩ = false := free_of GC.out.box 1
            have hlt := lt_of_block GC.out.box
            have hix : 12 < n := by have := HN.out; omega
            have hixz : (12 : Int) < (n : Int) := by omega
            have hc := KC.out wr GC.out.below 12 (by have := HL.out; omega)
            have hst := re_step (grp_b HBB.out 1) (by have := HN.out; have := HL.out; simp [grp]; omega) (k := 4) (by omega)
            rw [grp_get (by have := HN.out; have := HL.out; omega) (by omega) (by omega)] at hst
            rw [show 8 * 1 + 4 = 12 from rfl] at hst
            have HX : Hid (∀ x, x = sg (be ((grp zs 1).take (4 + 1))) → ReB w zs (partG zs 1 (4 + 1)) (wr.setCell ⟨w.heap.size + 1, 1, none⟩ (.int .i64 x)).drew) := Lib.hid (fun x hx => GC.out.next (by rw [hx]; rfl))
            generalize sg (be ((grp zs 1).take 4)) = x at *
            generalize zs.getD 12 0 = c at *
            have HST := Lib.hid hst
            clear hst GC
            go_wp2_with fail
            go_region
            go_wp2_with fail
            go_roundw
            case rel => exact ⟨4 + 1, _, by omega, rfl, by omega, HX.out _ HST.out⟩
            case measure => simp [intOf]
          · obtain rfl : y = 5 := by omega
            clear hy
            have hx : wr.cell? ⟨w.heap.size + 1, 1, none⟩ = some (.int .i64 (sg (be ((grp zs 1).take 5)))) := cell_of GC.out.box 1
            have hfz : wr.frozen? ⟨w.heap.size + 1, 1, none⟩ = false := free_of GC.out.box 1
            have hlt := lt_of_block GC.out.box
            have hix : 13 < n := by have := HN.out; omega
            have hixz : (13 : Int) < (n : Int) := by omega
            have hc := KC.out wr GC.out.below 13 (by have := HL.out; omega)
            have hst := re_step (grp_b HBB.out 1) (by have := HN.out; have := HL.out; simp [grp]; omega) (k := 5) (by omega)
            rw [grp_get (by have := HN.out; have := HL.out; omega) (by omega) (by omega)] at hst
            rw [show 8 * 1 + 5 = 13 from rfl] at hst
            have HX : Hid (∀ x, x = sg (be ((grp zs 1).take (5 + 1))) → ReB w zs (partG zs 1 (5 + 1)) (wr.setCell ⟨w.heap.size + 1, 1, none⟩ (.int .i64 x)).drew) := Lib.hid (fun x hx => GC.out.next (by rw [hx]; rfl))
            generalize sg (be ((grp zs 1).take 5)) = x at *
            generalize zs.getD 13 0 = c at *
            have HST := Lib.hid hst
            clear hst GC
            go_wp2_with fail
            go_region
            go_wp2_with fail
            go_roundw
            case rel => exact ⟨5 + 1, _, by omega, rfl, by omega, HX.out _ HST.out⟩
            case measure => simp [intOf]
          · obtain rfl : y = 6 := by omega
            clear hy
            have hx : wr.cell? ⟨w.heap.size + 1, 1, none⟩ = some (.int .i64 (sg (be ((grp zs 1).take 6)))) := cell_of GC.out.box 1
            have hfz : wr.frozen? ⟨w.heap.size + 1, 1, none⟩ = false := free_of GC.out.box 1
            have hlt := lt_of_block GC.out.box
            have hix : 14 < n := by have := HN.out; omega
            have hixz : (14 : Int) < (n : Int) := by omega
            have hc := KC.out wr GC.out.below 14 (by have := HL.out; omega)
            have hst := re_step (grp_b HBB.out 1) (by have := HN.out; have := HL.out; simp [grp]; omega) (k := 6) (by omega)
            rw [grp_get (by have := HN.out; have := HL.out; omega) (by omega) (by omega)] at hst
            rw [show 8 * 1 + 6 = 14 from rfl] at hst
            have HX : Hid (∀ x, x = sg (be ((grp zs 1).take (6 + 1))) → ReB w zs (partG zs 1 (6 + 1)) (wr.setCell ⟨w.heap.size + 1, 1, none⟩ (.int .i64 x)).drew) := Lib.hid (fun x hx => GC.out.next (by rw [hx]; rfl))
            generalize sg (be ((grp zs 1).take 6)) = x at *
            generalize zs.getD 14 0 = c at *
            have HST := Lib.hid hst
            clear hst GC
            go_wp2_with fail
            go_region
            go_wp2_with fail
            go_roundw
            case rel => exact ⟨6 + 1, _, by omega, rfl, by omega, HX.out _ HST.out⟩
            case measure => simp [intOf]
          · obtain rfl : y = 7 := by omega
            clear hy
            have hx : wr.cell? ⟨w.heap.size + 1, 1, none⟩ = some (.int .i64 (sg (be ((grp zs 1).take 7)))) := cell_of GC.out.box 1
            have hfz : wr.frozen? ⟨w.heap.size + 1, 1, none⟩ = false := free_of GC.out.box 1
            have hlt := lt_of_block GC.out.box
            have hix : 15 < n := by have := HN.out; omega
            have hixz : (15 : Int) < (n : Int) := by omega
            have hc := KC.out wr GC.out.below 15 (by have := HL.out; omega)
            have hst := re_step (grp_b HBB.out 1) (by have := HN.out; have := HL.out; simp [grp]; omega) (k := 7) (by omega)
            rw [grp_get (by have := HN.out; have := HL.out; omega) (by omega) (by omega)] at hst
            rw [show 8 * 1 + 7 = 15 from rfl] at hst
            have HX : Hid (∀ x, x = sg (be ((grp zs 1).take (7 + 1))) → ReB w zs (partG zs 1 (7 + 1)) (wr.setCell ⟨w.heap.size + 1, 1, none⟩ (.int .i64 x)).drew) := Lib.hid (fun x hx => GC.out.next (by rw [hx]; rfl))
            generalize sg (be ((grp zs 1).take 7)) = x at *
            generalize zs.getD 15 0 = c at *
            have HST := Lib.hid hst
            clear hst GC
            go_wp2_with fail
            go_region
            go_wp2_with fail
            go_roundw
            case rel => exact ⟨7 + 1, _, by omega, rfl, by omega, HX.out _ HST.out⟩
            case measure => simp [intOf]
          · obtain rfl : y = 8 := by omega
            clear hy
            go_wp2_with fail
            go_roundw
            case rel => exact ⟨1 + 1, _, by omega, rfl, by omega, by have := GC.out; rwa [partG_8 zs (by omega)] at this⟩
            case measure => simp [intOf]
      · obtain rfl : z = 2 := by omega
        clear hz
        have GP : Hid (ReB w zs (partG zs 2 0) wr) := Lib.hid (by rw [partG_0 zs (by omega)]; exact GB.out)
        clear GB
        go_wp2_with fail
        go_loopw [7] (fun v7 wr => ∃ (k : Nat) (y : Int), k ≤ 8 ∧ v7 = .int .i64 y ∧ y = (k : Int) ∧ ReB w zs (partG zs 2 k) wr) (fun v7 _ => 8 - (intOf v7).toNat)
        case atStart => exact ⟨0, 0, by omega, rfl, rfl, GP.out⟩
        case round =>
          obtain ⟨k, y, hk8, rfl, hy, hc⟩ := hrel
          have GC := Lib.hid hc
          clear hc GP
          have h9 : k = 0 ∨ k = 1 ∨ k = 2 ∨ k = 3 ∨ k = 4 ∨ k = 5 ∨ k = 6 ∨ k = 7 ∨ k = 8 := by omega
          clear hk8
          rcases h9 with rfl | rfl | rfl | rfl | rfl | rfl | rfl | rfl | rfl
          · obtain rfl : y = 0 := by omega
            clear hy
            have hx : wr.cell? ⟨w.heap.size + 1, 2, none⟩ = some (.int .i64 (sg (be ((grp zs 2).take 0)))) := cell_of GC.out.box 2
            have hfz : wr.frozen? ⟨w.heap.size + 1, 2, none⟩ = false := free_of GC.out.box 2
            have hlt := lt_of_block GC.out.box
            have hix : 16 < n := by have := HN.out; omega
            have hixz : (16 : Int) < (n : Int) := by omega
            have hc := KC.out wr GC.out.below 16 (by have := HL.out; omega)
            have hst := re_step (grp_b HBB.out 2) (by have := HN.out; have := HL.out; simp [grp]; omega) (k := 0) (by omega)
            rw [grp_get (by have := HN.out; have := HL.out; omega) (by omega) (by omega)] at hst
            rw [show 8 * 2 + 0 = 16 from rfl] at hst
            have HX : Hid (∀ x, x = sg (be ((grp zs 2).take (0 + 1))) → ReB w zs (partG zs 2 (0 + 1)) (wr.setCell ⟨w.heap.size + 1, 2, none⟩ (.int .i64 x)).drew) := Lib.hid (fun x hx => GC.out.next (by rw [hx]; rfl))
            generalize sg (be ((grp zs 2).take 0)) = x at *
            generalize zs.getD 16 0 = c at *
            have HST := Lib.hid hst
            clear hst GC
            go_wp2_with fail
            go_region
            go_wp2_with fail
            go_roundw
            case rel => exact ⟨0 + 1, _, by omega, rfl, by omega, HX.out _ HST.out⟩
            case measure => simp [intOf]
          · obtain rfl : y = 1 := by omega
            clear hy
            have hx : wr.cell? ⟨w.heap.size + 1, 2, none⟩ = some (.int .i64 (sg (be ((grp zs 2).take 1)))) := cell_of GC.out.box 2
            have hfz : wr.frozen? ⟨w.heap.size + 1, 2, none⟩ = false := free_of GC.out.box 2
            have hlt := lt_of_block GC.out.box
            have hix : 17 < n := by have := HN.out; omega
            have hixz : (17 : Int) < (n : Int) := by omega
            have hc := KC.out wr GC.out.below 17 (by have := HL.out; omega)
            have hst := re_step (grp_b HBB.out 2) (by have := HN.out; have := HL.out; simp [grp]; omega) (k := 1) (by omega)
            rw [grp_get (by have := HN.out; have := HL.out; omega) (by omega) (by omega)] at hst
            rw [show 8 * 2 + 1 = 17 from rfl] at hst
            have HX : Hid (∀ x, x = sg (be ((grp zs 2).take (1 + 1))) → ReB w zs (partG zs 2 (1 + 1)) (wr.setCell ⟨w.heap.size + 1, 2, none⟩ (.int .i64 x)).drew) := Lib.hid (fun x hx => GC.out.next (by rw [hx]; rfl))
            generalize sg (be ((grp zs 2).take 1)) = x at *
            generalize zs.getD 17 0 = c at *
            have HST := Lib.hid hst
            clear hst GC
            go_wp2_with fail
            go_region
            go_wp2_with fail
            go_roundw
            case rel => exact ⟨1 + 1, _, by omega, rfl, by omega, HX.out _ HST.out⟩
            case measure => simp [intOf]
          · obtain rfl : y = 2 := by omega
            clear hy
            have hx : wr.cell? ⟨w.heap.size + 1, 2, none⟩ = some (.int .i64 (sg (be ((grp zs 2).take 2)))) := cell_of GC.out.box 2
            have hfz : wr.frozen? ⟨w.heap.size + 1, 2, none⟩ = false := free_of GC.out.box 2
            have hlt := lt_of_block GC.out.box
            have hix : 18 < n := by have := HN.out; omega
            have hixz : (18 : Int) < (n : Int) := by omega
            have hc := KC.out wr GC.out.below 18 (by have := HL.out; omega)
            have hst := re_step (grp_b HBB.out 2) (by have := HN.out; have := HL.out; simp [grp]; omega) (k := 2) (by omega)
            rw [grp_get (by have := HN.out; have := HL.out; omega) (by omega) (by omega)] at hst
            rw [show 8 * 2 + 2 = 18 from rfl] at hst
            have HX : Hid (∀ x, x = sg (be ((grp zs 2).take (2 + 1))) → ReB w zs (partG zs 2 (2 + 1)) (wr.setCell ⟨w.heap.size + 1, 2, none⟩ (.int .i64 x)).drew) := Lib.hid (fun x hx => GC.out.next (by rw [hx]; rfl))
            generalize sg (be ((grp zs 2).take 2)) = x at *
            generalize zs.getD 18 0 = c at *
            have HST := Lib.hid hst
            clear hst GC
            go_wp2_with fail
            go_region
            go_wp2_with fail
            go_roundw
            case rel => exact ⟨2 + 1, _, by omega, rfl, by omega, HX.out _ HST.out⟩
            case measure => simp [intOf]
          · obtain rfl : y = 3 := by omega
            clear hy
            have hx : wr.cell? ⟨w.heap.size + 1, 2, none⟩ = some (.int .i64 (sg (be ((grp zs 2).take 3)))) := cell_of GC.out.box 2
            have hfz : wr.frozen? ⟨w.heap.size + 1, 2, none⟩ = false := free_of GC.out.box 2
            have hlt := lt_of_block GC.out.box
            have hix : 19 < n := by have := HN.out; omega
            have hixz : (19 : Int) < (n : Int) := by omega
            have hc := KC.out wr GC.out.below 19 (by have := HL.out; omega)
            have hst := re_step (grp_b HBB.out 2) (by have := HN.out; have := HL.out; simp [grp]; omega) (k := 3) (by omega)
            rw [grp_get (by have := HN.out; have := HL.out; omega) (by omega) (by omega)] at hst
            rw [show 8 * 2 + 3 = 19 from rfl] at hst
            have HX : Hid (∀ x, x = sg (be ((grp zs 2).take (3 + 1))) → ReB w zs (partG zs 2 (3 + 1)) (wr.setCell ⟨w.heap.size + 1, 2, none⟩ (.int .i64 x)).drew) := Lib.hid (fun x hx => GC.out.next (by rw [hx]; rfl))
            generalize sg (be ((grp zs 2).take 3)) = x at *
            generalize zs.getD 19 0 = c at *
            have HST := Lib.hid hst
            clear hst GC
            go_wp2_with fail
            go_region
            go_wp2_with fail
            go_roundw
            case rel => exact ⟨3 + 1, _, by omega, rfl, by omega, HX.out _ HST.out⟩
            case measure => simp [intOf]
          · obtain rfl : y = 4 := by omega
            clear hy
            have hx : wr.cell? ⟨w.heap.size + 1, 2, none⟩ = some (.int .i64 (sg (be ((grp zs 2).take 4)))) := cell_of GC.out.box 2
            have hfz : wr.frozen? ⟨w.heap.size + 1, 2, none⟩ = false := free_of GC.out.box 2
            have hlt := lt_of_block GC.out.box
            have hix : 20 < n := by have := HN.out; omega
            have hixz : (20 : Int) < (n : Int) := by omega
            have hc := KC.out wr GC.out.below 20 (by have := HL.out; omega)
            have hst := re_step (grp_b HBB.out 2) (by have := HN.out; have := HL.out; simp [grp]; omega) (k := 4) (by omega)
            rw [grp_get (by have := HN.out; have := HL.out; omega) (by omega) (by omega)] at hst
            rw [show 8 * 2 + 4 = 20 from rfl] at hst
            have HX : Hid (∀ x, x = sg (be ((grp zs 2).take (4 + 1))) → ReB w zs (partG zs 2 (4 + 1)) (wr.setCell ⟨w.heap.size + 1, 2, none⟩ (.int .i64 x)).drew) := Lib.hid (fun x hx => GC.out.next (by rw [hx]; rfl))
            generalize sg (be ((grp zs 2).take 4)) = x at *
            generalize zs.getD 20 0 = c at *
            have HST := Lib.hid hst
            clear hst GC
            go_wp2_with fail
            go_region
            go_wp2_with fail
            go_roundw
            case rel => exact ⟨4 + 1, _, by omega, rfl, by omega, HX.out _ HST.out⟩
            case measure => simp [intOf]
          · obtain rfl : y = 5 := by omega
            clear hy
            have hx : wr.cell? ⟨w.heap.size + 1, 2, none⟩ = some (.int .i64 (sg (be ((grp zs 2).take 5)))) := cell_of GC.out.box 2
            have hfz : wr.frozen? ⟨w.heap.size + 1, 2, none⟩ = false := free_of GC.out.box 2
            have hlt := lt_of_block GC.out.box
            have hix : 21 < n := by have := HN.out; omega
            have hixz : (21 : Int) < (n : Int) := by omega
            have hc := KC.out wr GC.out.below 21 (by have := HL.out; omega)
            have hst := re_step (grp_b HBB.out 2) (by have := HN.out; have := HL.out; simp [grp]; omega) (k := 5) (by omega)
            rw [grp_get (by have := HN.out; have := HL.out; omega) (by omega) (by omega)] at hst
            rw [show 8 * 2 + 5 = 21 from rfl] at hst
            have HX : Hid (∀ x, x = sg (be ((grp zs 2).take (5 + 1))) → ReB w zs (partG zs 2 (5 + 1)) (wr.setCell ⟨w.heap.size + 1, 2, none⟩ (.int .i64 x)).drew) := Lib.hid (fun x hx => GC.out.next (by rw [hx]; rfl))
            generalize sg (be ((grp zs 2).take 5)) = x at *
            generalize zs.getD 21 0 = c at *
            have HST := Lib.hid hst
            clear hst GC
            go_wp2_with fail
            go_region
            go_wp2_with fail
            go_roundw
            case rel => exact ⟨5 + 1, _, by omega, rfl, by omega, HX.out _ HST.out⟩
            case measure => simp [intOf]
          · obtain rfl : y = 6 := by omega
            clear hy
            have hx : wr.cell? ⟨w.heap.size + 1, 2, none⟩ = some (.int .i64 (sg (be ((grp zs 2).take 6)))) := cell_of GC.out.box 2
            have hfz : wr.frozen? ⟨w.heap.size + 1, 2, none⟩ = false := free_of GC.out.box 2
            have hlt := lt_of_block GC.out.box
            have hix : 22 < n := by have := HN.out; omega
            have hixz : (22 : Int) < (n : Int) := by omega
            have hc := KC.out wr GC.out.below 22 (by have := HL.out; omega)
            have hst := re_step (grp_b HBB.out 2) (by have := HN.out; have := HL.out; simp [grp]; omega) (k := 6) (by omega)
            rw [grp_get (by have := HN.out; have := HL.out; omega) (by omega) (by omega)] at hst
            rw [show 8 * 2 + 6 = 22 from rfl] at hst
            have HX : Hid (∀ x, x = sg (be ((grp zs 2).take (6 + 1))) → ReB w zs (partG zs 2 (6 + 1)) (wr.setCell ⟨w.heap.size + 1, 2, none⟩ (.int .i64 x)).drew) := Lib.hid (fun x hx => GC.out.next (by rw [hx]; rfl))
            generalize sg (be ((grp zs 2).take 6)) = x at *
            generalize zs.getD 22 0 = c at *
            have HST := Lib.hid hst
            clear hst GC
            go_wp2_with fail
            go_region
            go_wp2_with fail
            go_roundw
            case rel => exact ⟨6 + 1, _, by omega, rfl, by omega, HX.out _ HST.out⟩
            case measure => simp [intOf]
          · obtain rfl : y = 7 := by omega
            clear hy
            have hx : wr.cell? ⟨w.heap.size + 1, 2, none⟩ = some (.int .i64 (sg (be ((grp zs 2).take 7)))) := cell_of GC.out.box 2
            have hfz : wr.frozen? ⟨w.heap.size + 1, 2, none⟩ = false := free_of GC.out.box 2
            have hlt := lt_of_block GC.out.box
            have hix : 23 < n := by have := HN.out; omega
            have hixz : (23 : Int) < (n : Int) := by omega
            have hc := KC.out wr GC.out.below 23 (by have := HL.out; omega)
            have hst := re_step (grp_b HBB.out 2) (by have := HN.out; have := HL.out; simp [grp]; omega) (k := 7) (by omega)
            rw [grp_get (by have := HN.out; have := HL.out; omega) (by omega) (by omega)] at hst
            rw [show 8 * 2 + 7 = 23 from rfl] at hst
            have HX : Hid (∀ x, x = sg (be ((grp zs 2).take (7 + 1))) → ReB w zs (partG zs 2 (7 + 1)) (wr.setCell ⟨w.heap.size + 1, 2, none⟩ (.int .i64 x)).drew) := Lib.hid (fun x hx => GC.out.next (by rw [hx]; rfl))
            generalize sg (be ((grp zs 2).take 7)) = x at *
            generalize zs.getD 23 0 = c at *
            have HST := Lib.hid hst
            clear hst GC
            go_wp2_with fail
            go_region
            go_wp2_with fail
            go_roundw
            case rel => exact ⟨7 + 1, _, by omega, rfl, by omega, HX.out _ HST.out⟩
            case measure => simp [intOf]
          · obtain rfl : y = 8 := by omega
            clear hy
            go_wp2_with fail
            go_roundw
            case rel => exact ⟨2 + 1, _, by omega, rfl, by omega, by have := GC.out; rwa [partG_8 zs (by omega)] at this⟩
            case measure => simp [intOf]
      · obtain rfl : z = 3 := by omega
        clear hz
        have GP : Hid (ReB w zs (partG zs 3 0) wr) := Lib.hid (by rw [partG_0 zs (by omega)]; exact GB.out)
        clear GB
        go_wp2_with fail
        go_loopw [7] (fun v7 wr => ∃ (k : Nat) (y : Int), k ≤ 8 ∧ v7 = .int .i64 y ∧ y = (k : Int) ∧ ReB w zs (partG zs 3 k) wr) (fun v7 _ => 8 - (intOf v7).toNat)
        case atStart => exact ⟨0, 0, by omega, rfl, rfl, GP.out⟩
        case round =>
          obtain ⟨k, y, hk8, rfl, hy, hc⟩ := hrel
          have GC := Lib.hid hc
          clear hc GP
          have h9 : k = 0 ∨ k = 1 ∨ k = 2 ∨ k = 3 ∨ k = 4 ∨ k = 5 ∨ k = 6 ∨ k = 7 ∨ k = 8 := by omega
          clear hk8
          rcases h9 with rfl | rfl | rfl | rfl | rfl | rfl | rfl | rfl | rfl
          · obtain rfl : y = 0 := by omega
            clear hy
            have hx : wr.cell? ⟨w.heap.size + 1, 3, none⟩ = some (.int .i64 (sg (be ((grp zs 3).take 0)))) := cell_of GC.out.box 3
            have hfz : wr.frozen? ⟨w.heap.size + 1, 3, none⟩ = false := free_of GC.out.box 3
            have hlt := lt_of_block GC.out.box
            have hix : 24 < n := by have := HN.out; omega
            have hixz : (24 : Int) < (n : Int) := by omega
            have hc := KC.out wr GC.out.below 24 (by have := HL.out; omega)
            have hst := re_step (grp_b HBB.out 3) (by have := HN.out; have := HL.out; simp [grp]; omega) (k := 0) (by omega)
            rw [grp_get (by have := HN.out; have := HL.out; omega) (by omega) (by omega)] at hst
            rw [show 8 * 3 + 0 = 24 from rfl] at hst
            have HX : Hid (∀ x, x = sg (be ((grp zs 3).take (0 + 1))) → ReB w zs (partG zs 3 (0 + 1)) (wr.setCell ⟨w.heap.size + 1, 3, none⟩ (.int .i64 x)).drew) := Lib.hid (fun x hx => GC.out.next (by rw [hx]; rfl))
            generalize sg (be ((grp zs 3).take 0)) = x at *
            generalize zs.getD 24 0 = c at *
            have HST := Lib.hid hst
            clear hst GC
            go_wp2_with fail
            go_region
            go_wp2_with fail
            go_roundw
            case rel => exact ⟨0 + 1, _, by omega, rfl, by omega, HX.out _ HST.out⟩
            case measure => simp [intOf]
          · obtain rfl : y = 1 := by omega
            clear hy
            have hx : wr.cell? ⟨w.heap.size + 1, 3, none⟩ = some (.int .i64 (sg (be ((grp zs 3).take 1)))) := cell_of GC.out.box 3
            have hfz : wr.frozen? ⟨w.heap.size + 1, 3, none⟩ = false := free_of GC.out.box 3
            have hlt := lt_of_block GC.out.box
            have hix : 25 < n := by have := HN.out; omega
            have hixz : (25 : Int) < (n : Int) := by omega
            have hc := KC.out wr GC.out.below 25 (by have := HL.out; omega)
            have hst := re_step (grp_b HBB.out 3) (by have := HN.out; have := HL.out; simp [grp]; omega) (k := 1) (by omega)
            rw [grp_get (by have := HN.out; have := HL.out; omega) (by omega) (by omega)] at hst
            rw [show 8 * 3 + 1 = 25 from rfl] at hst
            have HX : Hid (∀ x, x = sg (be ((grp zs 3).take (1 + 1))) → ReB w zs (partG zs 3 (1 + 1)) (wr.setCell ⟨w.heap.size + 1, 3, none⟩ (.int .i64 x)).drew) := Lib.hid (fun x hx => GC.out.next (by rw [hx]; rfl))
            generalize sg (be ((grp zs 3).take 1)) = x at *
            generalize zs.getD 25 0 = c at *
            have HST := Lib.hid hst
            clear hst GC
            go_wp2_with fail
            go_region
            go_wp2_with fail
            go_roundw
            case rel => exact ⟨1 + 1, _, by omega, rfl, by omega, HX.out _ HST.out⟩
            case measure => simp [intOf]
          · obtain rfl : y = 2 := by omega
            clear hy
            have hx : wr.cell? ⟨w.heap.size + 1, 3, none⟩ = some (.int .i64 (sg (be ((grp zs 3).take 2)))) := cell_of GC.out.box 3
            have hfz : wr.frozen? ⟨w.heap.size + 1, 3, none⟩ = false := free_of GC.out.box 3
            have hlt := lt_of_block GC.out.box
            have hix : 26 < n := by have := HN.out; omega
            have hixz : (26 : Int) < (n : Int) := by omega
            have hc := KC.out wr GC.out.below 26 (by have := HL.out; omega)
            have hst := re_step (grp_b HBB.out 3) (by have := HN.out; have := HL.out; simp [grp]; omega) (k := 2) (by omega)
            rw [grp_get (by have := HN.out; have := HL.out; omega) (by omega) (by omega)] at hst
            rw [show 8 * 3 + 2 = 26 from rfl] at hst
            have HX : Hid (∀ x, x = sg (be ((grp zs 3).take (2 + 1))) → ReB w zs (partG zs 3 (2 + 1)) (wr.setCell ⟨w.heap.size + 1, 3, none⟩ (.int .i64 x)).drew) := Lib.hid (fun x hx => GC.out.next (by rw [hx]; rfl))
            generalize sg (be ((grp zs 3).take 2)) = x at *
            generalize zs.getD 26 0 = c at *
            have HST := Lib.hid hst
            clear hst GC
            go_wp2_with fail
            go_region
            go_wp2_with fail
            go_roundw
            case rel => exact ⟨2 + 1, _, by omega, rfl, by omega, HX.out _ HST.out⟩
            case measure => simp [intOf]
          · obtain rfl : y = 3 := by omega
            clear hy
            have hx : wr.cell? ⟨w.heap.size + 1, 3, none⟩ = some (.int .i64 (sg (be ((grp zs 3).take 3)))) := cell_of GC.out.box 3
            have hfz : wr.frozen? ⟨w.heap.size + 1, 3, none⟩ = false := free_of GC.out.box 3
            have hlt := lt_of_block GC.out.box
            have hix : 27 < n := by have := HN.out; omega
            have hixz : (27 : Int) < (n : Int) := by omega
            have hc := KC.out wr GC.out.below 27 (by have := HL.out; omega)
            have hst := re_step (grp_b HBB.out 3) (by have := HN.out; have := HL.out; simp [grp]; omega) (k := 3) (by omega)
            rw [grp_get (by have := HN.out; have := HL.out; omega) (by omega) (by omega)] at hst
            rw [show 8 * 3 + 3 = 27 from rfl] at hst
            have HX : Hid (∀ x, x = sg (be ((grp zs 3).take (3 + 1))) → ReB w zs (partG zs 3 (3 + 1)) (wr.setCell ⟨w.heap.size + 1, 3, none⟩ (.int .i64 x)).drew) := Lib.hid (fun x hx => GC.out.next (by rw [hx]; rfl))
            generalize sg (be ((grp zs 3).take 3)) = x at *
            generalize zs.getD 27 0 = c at *
            have HST := Lib.hid hst
            clear hst GC
            go_wp2_with fail
            go_region
            go_wp2_with fail
            go_roundw
            case rel => exact ⟨3 + 1, _, by omega, rfl, by omega, HX.out _ HST.out⟩
            case measure => simp [intOf]
          · obtain rfl : y = 4 := by omega
            clear hy
            have hx : wr.cell? ⟨w.heap.size + 1, 3, none⟩ = some (.int .i64 (sg (be ((grp zs 3).take 4)))) := cell_of GC.out.box 3
            have hfz : wr.frozen? ⟨w.heap.size + 1, 3, none⟩ = false := free_of GC.out.box 3
            have hlt := lt_of_block GC.out.box
            have hix : 28 < n := by have := HN.out; omega
            have hixz : (28 : Int) < (n : Int) := by omega
            have hc := KC.out wr GC.out.below 28 (by have := HL.out; omega)
            have hst := re_step (grp_b HBB.out 3) (by have := HN.out; have := HL.out; simp [grp]; omega) (k := 4) (by omega)
            rw [grp_get (by have := HN.out; have := HL.out; omega) (by omega) (by omega)] at hst
            rw [show 8 * 3 + 4 = 28 from rfl] at hst
            have HX : Hid (∀ x, x = sg (be ((grp zs 3).take (4 + 1))) → ReB w zs (partG zs 3 (4 + 1)) (wr.setCell ⟨w.heap.size + 1, 3, none⟩ (.int .i64 x)).drew) := Lib.hid (fun x hx => GC.out.next (by rw [hx]; rfl))
            generalize sg (be ((grp zs 3).take 4)) = x at *
            generalize zs.getD 28 0 = c at *
            have HST := Lib.hid hst
            clear hst GC
            go_wp2_with fail
            go_region
            go_wp2_with fail
            go_roundw
            case rel => exact ⟨4 + 1, _, by omega, rfl, by omega, HX.out _ HST.out⟩
            case measure => simp [intOf]
          · obtain rfl : y = 5 := by omega
            clear hy
            have hx : wr.cell? ⟨w.heap.size + 1, 3, none⟩ = some (.int .i64 (sg (be ((grp zs 3).take 5)))) := cell_of GC.out.box 3
            have hfz : wr.frozen? ⟨w.heap.size + 1, 3, none⟩ = false := free_of GC.out.box 3
            have hlt := lt_of_block GC.out.box
            have hix : 29 < n := by have := HN.out; omega
            have hixz : (29 : Int) < (n : Int) := by omega
            have hc := KC.out wr GC.out.below 29 (by have := HL.out; omega)
            have hst := re_step (grp_b HBB.out 3) (by have := HN.out; have := HL.out; simp [grp]; omega) (k := 5) (by omega)
            rw [grp_get (by have := HN.out; have := HL.out; omega) (by omega) (by omega)] at hst
            rw [show 8 * 3 + 5 = 29 from rfl] at hst
            have HX : Hid (∀ x, x = sg (be ((grp zs 3).take (5 + 1))) → ReB w zs (partG zs 3 (5 + 1)) (wr.setCell ⟨w.heap.size + 1, 3, none⟩ (.int .i64 x)).drew) := Lib.hid (fun x hx => GC.out.next (by rw [hx]; rfl))
            generalize sg (be ((grp zs 3).take 5)) = x at *
            generalize zs.getD 29 0 = c at *
            have HST := Lib.hid hst
            clear hst GC
            go_wp2_with fail
            go_region
            go_wp2_with fail
            go_roundw
            case rel => exact ⟨5 + 1, _, by omega, rfl, by omega, HX.out _ HST.out⟩
            case measure => simp [intOf]
          · obtain rfl : y = 6 := by omega
            clear hy
            have hx : wr.cell? ⟨w.heap.size + 1, 3, none⟩ = some (.int .i64 (sg (be ((grp zs 3).take 6)))) := cell_of GC.out.box 3
            have hfz : wr.frozen? ⟨w.heap.size + 1, 3, none⟩ = false := free_of GC.out.box 3
            have hlt := lt_of_block GC.out.box
            have hix : 30 < n := by have := HN.out; omega
            have hixz : (30 : Int) < (n : Int) := by omega
            have hc := KC.out wr GC.out.below 30 (by have := HL.out; omega)
            have hst := re_step (grp_b HBB.out 3) (by have := HN.out; have := HL.out; simp [grp]; omega) (k := 6) (by omega)
            rw [grp_get (by have := HN.out; have := HL.out; omega) (by omega) (by omega)] at hst
            rw [show 8 * 3 + 6 = 30 from rfl] at hst
            have HX : Hid (∀ x, x = sg (be ((grp zs 3).take (6 + 1))) → ReB w zs (partG zs 3 (6 + 1)) (wr.setCell ⟨w.heap.size + 1, 3, none⟩ (.int .i64 x)).drew) := Lib.hid (fun x hx => GC.out.next (by rw [hx]; rfl))
            generalize sg (be ((grp zs 3).take 6)) = x at *
            generalize zs.getD 30 0 = c at *
            have HST := Lib.hid hst
            clear hst GC
            go_wp2_with fail
            go_region
            go_wp2_with fail
            go_roundw
            case rel => exact ⟨6 + 1, _, by omega, rfl, by omega, HX.out _ HST.out⟩
            case measure => simp [intOf]
          · obtain rfl : y = 7 := by omega
            clear hy
            have hx : wr.cell? ⟨w.heap.size + 1, 3, none⟩ = some (.int .i64 (sg (be ((grp zs 3).take 7)))) := cell_of GC.out.box 3
            have hfz : wr.frozen? ⟨w.heap.size + 1, 3, none⟩ = false := free_of GC.out.box 3
            have hlt := lt_of_block GC.out.box
            have hix : 31 < n := by have := HN.out; omega
            have hixz : (31 : Int) < (n : Int) := by omega
            have hc := KC.out wr GC.out.below 31 (by have := HL.out; omega)
            have hst := re_step (grp_b HBB.out 3) (by have := HN.out; have := HL.out; simp [grp]; omega) (k := 7) (by omega)
            rw [grp_get (by have := HN.out; have := HL.out; omega) (by omega) (by omega)] at hst
            rw [show 8 * 3 + 7 = 31 from rfl] at hst
            have HX : Hid (∀ x, x = sg (be ((grp zs 3).take (7 + 1))) → ReB w zs (partG zs 3 (7 + 1)) (wr.setCell ⟨w.heap.size + 1, 3, none⟩ (.int .i64 x)).drew) := Lib.hid (fun x hx => GC.out.next (by rw [hx]; rfl))
            generalize sg (be ((grp zs 3).take 7)) = x at *
            generalize zs.getD 31 0 = c at *
            have HST := Lib.hid hst
            clear hst GC
            go_wp2_with fail
            go_region
            go_wp2_with fail
            go_roundw
            case rel => exact ⟨7 + 1, _, by omega, rfl, by omega, HX.out _ HST.out⟩
            case measure => simp [intOf]
          · obtain rfl : y = 8 := by omega
            clear hy
            go_wp2_with fail
            go_roundw
            case rel => exact ⟨3 + 1, _, by omega, rfl, by omega, by have := GC.out; rwa [partG_8 zs (by omega)] at this⟩
            case measure => simp [intOf]
      · obtain rfl : z = 4 := by omega
        clear hz
        have hb := GB.out
        have h4 : halfG zs 4 = getC zs := by simp [halfG, getC]
        rw [h4] at hb
        have HOK := Lib.hid (getC_ok HBB.out)
        have HQ : Hid (get zs = if wrong (getC zs) < 0 then (getC zs, 32, 0) else (zero, 0, 2)) := Lib.hid (by unfold get; rw [if_neg (by have := HN.out; have := HL.out; omega)])
        have BO := Lib.hid hb.out
        have BB := Lib.hid hb.below
        have hbx := hb.box
        clear GB h4 hb HBB HL HN KC
        generalize getC zs = q at *
        have x0 : wr.cell? ⟨w.heap.size + 1, 0, none⟩ = some (.int .i64 q.a) := cell_of hbx 0
        have x1 : wr.cell? ⟨w.heap.size + 1, 1, none⟩ = some (.int .i64 q.b) := cell_of hbx 1
        have x2 : wr.cell? ⟨w.heap.size + 1, 2, none⟩ = some (.int .i64 q.c) := cell_of hbx 2
        have x3 : wr.cell? ⟨w.heap.size + 1, 3, none⟩ = some (.int .i64 q.d) := cell_of hbx 3
        have P1 := Lib.hid (rmade q hbx)
        clear hbx x0 x1 x2 x3
        go_wp2_with fail
        refine (P1.out).mono ?_; rintro e w2 ⟨rfl, hb2⟩
        have B2 := Lib.hid ((BB.out.trans (hb2.mono BB.out.size)).alloc (Nat.le_trans BB.out.size hb2.size) (.cells #[.int .i64 q.a, .int .i64 q.b, .int .i64 q.c, .int .i64 q.d] 25))
        have X2 := Lib.hid (block_old ((hb2.block _ (lt_of_block BO.out)).trans BO.out) (.cells #[.int .i64 q.a, .int .i64 q.b, .int .i64 q.c, .int .i64 q.d] 25))
        have Y2 := Lib.hid (block_new w2 (.cells #[.int .i64 q.a, .int .i64 q.b, .int .i64 q.c, .int .i64 q.d] 25))
        have P2 : Hid (∀ w', Calls Tryd.prog 33 #[.agg #[.int .i64 q.a, .int .i64 q.b, .int .i64 q.c, .int .i64 q.d]] w' fun e w'' => e = .returned (.int .i64 (chk q)) ∧ Below w'.heap.size w' w'') := Lib.hid (fun w' => rcheck q HOK.out w')
        unfold chk at P2
        clear hb2 P1 BB BO HOK
        by_cases hw : wrong q < 0
        · rw [if_pos hw] at HQ P2
          clear hw
          go_wp2_with fail
          refine (P2.out _).mono ?_; rintro e w5 ⟨rfl, hb5⟩
          have B5 := Lib.hid (B2.out.trans (hb5.mono B2.out.size))
          have hx := (hb5.block _ (lt_of_block X2.out)).trans X2.out
          have hv := (hb5.block _ (lt_of_block Y2.out)).trans Y2.out
          have v0 : w5.cell? ⟨w2.heap.size, 0, none⟩ = some (.int .i64 q.a) := cell_of hv 0
          have v1 : w5.cell? ⟨w2.heap.size, 1, none⟩ = some (.int .i64 q.b) := cell_of hv 1
          have v2 : w5.cell? ⟨w2.heap.size, 2, none⟩ = some (.int .i64 q.c) := cell_of hv 2
          have v3 : w5.cell? ⟨w2.heap.size, 3, none⟩ = some (.int .i64 q.d) := cell_of hv 3
          have y0 : w5.cell? ⟨w.heap.size, 0, none⟩ = some (.int .i64 0) := cell_of hx 0
          have y1 : w5.cell? ⟨w.heap.size, 1, none⟩ = some (.int .i64 0) := cell_of hx 1
          have y2 : w5.cell? ⟨w.heap.size, 2, none⟩ = some (.int .i64 0) := cell_of hx 2
          have y3 : w5.cell? ⟨w.heap.size, 3, none⟩ = some (.int .i64 0) := cell_of hx 3
          have z0 : w5.frozen? ⟨w.heap.size, 0, none⟩ = false := free_of hx 0
          have z1 : w5.frozen? ⟨w.heap.size, 1, none⟩ = false := free_of hx 1
          have z2 : w5.frozen? ⟨w.heap.size, 2, none⟩ = false := free_of hx 2
          have z3 : w5.frozen? ⟨w.heap.size, 3, none⟩ = false := free_of hx 3
          have B6 : Hid (Below w.heap.size w ((((w5.setCell ⟨w.heap.size, 0, none⟩ (.int .i64 q.a)).setCell ⟨w.heap.size, 1, none⟩ (.int .i64 q.b)).setCell ⟨w.heap.size, 2, none⟩ (.int .i64 q.c)).setCell ⟨w.heap.size, 3, none⟩ (.int .i64 q.d))) := Lib.hid ((((B5.out.setCell (by simp) _).setCell (by simp) _).setCell (by simp) _).setCell (by simp) _)
          clear hb5 P2
          go_wp2_with fail
          have hy := set4 hx rfl (.int .i64 q.a) (.int .i64 q.b) (.int .i64 q.c) (.int .i64 q.d)
          clear y0 y1 y2 y3 z0 z1 z2 z3 v0 v1 v2 v3
          generalize (((w5.setCell ⟨w.heap.size, 0, none⟩ (.int .i64 q.a)).setCell ⟨w.heap.size, 1, none⟩ (.int .i64 q.b)).setCell ⟨w.heap.size, 2, none⟩ (.int .i64 q.c)).setCell ⟨w.heap.size, 3, none⟩ (.int .i64 q.d) = W6 at *
          have y0 : W6.cell? ⟨w.heap.size, 0, none⟩ = some (.int .i64 q.a) := cell_of hy 0
          have y1 : W6.cell? ⟨w.heap.size, 1, none⟩ = some (.int .i64 q.b) := cell_of hy 1
          have y2 : W6.cell? ⟨w.heap.size, 2, none⟩ = some (.int .i64 q.c) := cell_of hy 2
          have y3 : W6.cell? ⟨w.heap.size, 3, none⟩ = some (.int .i64 q.d) := cell_of hy 3
          exact bodyPost_ret (v := .tuple #[.agg #[.int .i64 q.a, .int .i64 q.b, .int .i64 q.c, .int .i64 q.d], .int .i64 32, .int .i64 0]) (by simp [results, Tryd.results24, go_sem, y0, y1, y2, y3]) rfl ⟨by rw [HQ.out]; rfl, B6.out⟩
        · rw [if_neg hw] at HQ P2
          clear hw
          go_wp2_with fail
          refine (P2.out _).mono ?_; rintro e w5 ⟨rfl, hb5⟩
          have B5 := Lib.hid (B2.out.trans (hb5.mono B2.out.size))
          have hx := (hb5.block _ (lt_of_block X2.out)).trans X2.out
          have y0 : w5.cell? ⟨w.heap.size, 0, none⟩ = some (.int .i64 0) := cell_of hx 0
          have y1 : w5.cell? ⟨w.heap.size, 1, none⟩ = some (.int .i64 0) := cell_of hx 1
          have y2 : w5.cell? ⟨w.heap.size, 2, none⟩ = some (.int .i64 0) := cell_of hx 2
          have y3 : w5.cell? ⟨w.heap.size, 3, none⟩ = some (.int .i64 0) := cell_of hx 3
          have z0 : w5.frozen? ⟨w.heap.size, 0, none⟩ = false := free_of hx 0
          have z1 : w5.frozen? ⟨w.heap.size, 1, none⟩ = false := free_of hx 1
          have z2 : w5.frozen? ⟨w.heap.size, 2, none⟩ = false := free_of hx 2
          have z3 : w5.frozen? ⟨w.heap.size, 3, none⟩ = false := free_of hx 3
          have B6 : Hid (Below w.heap.size w ((((w5.setCell ⟨w.heap.size, 0, none⟩ (.int .i64 0)).setCell ⟨w.heap.size, 1, none⟩ (.int .i64 0)).setCell ⟨w.heap.size, 2, none⟩ (.int .i64 0)).setCell ⟨w.heap.size, 3, none⟩ (.int .i64 0))) := Lib.hid ((((B5.out.setCell (by simp) _).setCell (by simp) _).setCell (by simp) _).setCell (by simp) _)
          clear hb5 P2
          go_wp2_with fail
          have hy := set4 hx rfl (.int .i64 0) (.int .i64 0) (.int .i64 0) (.int .i64 0)
          clear y0 y1 y2 y3 z0 z1 z2 z3
          generalize (((w5.setCell ⟨w.heap.size, 0, none⟩ (.int .i64 0)).setCell ⟨w.heap.size, 1, none⟩ (.int .i64 0)).setCell ⟨w.heap.size, 2, none⟩ (.int .i64 0)).setCell ⟨w.heap.size, 3, none⟩ (.int .i64 0) = W6 at *
          have y0 : W6.cell? ⟨w.heap.size, 0, none⟩ = some (.int .i64 0) := cell_of hy 0
          have y1 : W6.cell? ⟨w.heap.size, 1, none⟩ = some (.int .i64 0) := cell_of hy 1
          have y2 : W6.cell? ⟨w.heap.size, 2, none⟩ = some (.int .i64 0) := cell_of hy 2
          have y3 : W6.cell? ⟨w.heap.size, 3, none⟩ = some (.int .i64 0) := cell_of hy 3
          exact bodyPost_ret (v := .tuple #[.agg #[.int .i64 0, .int .i64 0, .int .i64 0, .int .i64 0], .int .i64 0, .int .i64 2]) (by simp [results, Tryd.results24, go_sem, y0, y1, y2, y3]) rfl ⟨by rw [HQ.out]; rfl, B6.out⟩
end Go.Proofs.YtabihdhgonnihaaDoor

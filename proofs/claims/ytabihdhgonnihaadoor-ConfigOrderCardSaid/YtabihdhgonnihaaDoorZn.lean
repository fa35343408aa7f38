/- Get of the program. -/
import Derived.Test.YtabihdhgonnihaaDoorZm
namespace Go.Proofs.YtabihdhgonnihaaDoor
open Go.ChangeShapes Go.WideShapes Go.ChangeAt Go.RowKit
set_option linter.unusedVariables false
set_option linter.unusedSimpArgs false

theorem be_take {l : List Int} {k : Nat} (hk : k < l.length) : be (l.take (k + 1)) = be (l.take k) * 256 + l.getD k 0 := by
  rw [List.take_succ_eq_append_getElem hk, be_step]
  simp [hk]
theorem be_in {l : List Int} (h : IsB l) {k : Nat} (hk : k ≤ 7) : 0 ≤ be (l.take k) ∧ be (l.take k) < 72057594037927936 := by
  have h2 := be_lt _ (l.take k) rfl (h.take k)
  have h3 : (256 : Int) ^ (l.take k).length ≤ 256 ^ 7 := p256 (by simp; omega)
  omega
theorem be_in8 {l : List Int} (h : IsB l) (hl : l.length ≤ 8) : 0 ≤ be l ∧ be l < 18446744073709551616 := by
  have h2 := be_lt _ l rfl h
  have h3 : (256 : Int) ^ l.length ≤ 256 ^ 8 := p256 hl
  omega
theorem isB_getD {l : List Int} (h : IsB l) (k : Nat) : 0 ≤ l.getD k 0 ∧ l.getD k 0 < 256 := by
  by_cases hk : k < l.length
  · rw [List.getD_eq_getElem?_getD, List.getElem?_eq_getElem hk]; exact h _ (List.getElem_mem hk)
  · rw [List.getD_eq_getElem?_getD, List.getElem?_eq_none (by omega)]; decide
theorem wrap64_i64 (x : Int) : IntKind.i64.wrap x = wrap64 x := by rw [wrap_i64]; unfold wrap64; split <;> omega
theorem size5 : ∀ w, (sizeOf 5).run Tryd.prog w = .ok 1 w := fun w => by kernel_rfl
/-- The fields below i are read. -/
def halfG (l : List Int) (i : Nat) : Cf := ⟨if 0 < i then sg (be (grp l 0)) else 0, if 1 < i then sg (be (grp l 1)) else 0, if 2 < i then sg (be (grp l 2)) else 0, if 3 < i then sg (be (grp l 3)) else 0⟩
structure GeB (w : World) (l : List Int) (i : Nat) (wr : World) : Prop where
  box : wr.heap[w.heap.size + 1]? = some (.cells #[.int .i64 (halfG l i).a, .int .i64 (halfG l i).b, .int .i64 (halfG l i).c, .int .i64 (halfG l i).d] 60 (0, 0))
  out : wr.heap[w.heap.size]? = some (.cells #[.int .i64 0, .int .i64 0, .int .i64 0, .int .i64 0] 25 (0, 0))
  below : Below w.heap.size w wr
theorem GeB.next {w : World} {l : List Int} {i : Nat} {wr : World} (h : GeB w l i wr) {v : Value} {k : Nat}
    (hc : (#[.int .i64 (halfG l i).a, .int .i64 (halfG l i).b, .int .i64 (halfG l i).c, .int .i64 (halfG l i).d] : Array Value).setIfInBounds k v = #[.int .i64 (halfG l (i + 1)).a, .int .i64 (halfG l (i + 1)).b, .int .i64 (halfG l (i + 1)).c, .int .i64 (halfG l (i + 1)).d]) :
    GeB w l (i + 1) (wr.setCell ⟨w.heap.size + 1, k, none⟩ v) := by
  have h1 := set_of h.box k v
  rw [hc] at h1
  exact ⟨h1, block_set h.out (by simp) v, h.below.setCell (by simp) _⟩
def GetR (r : Cf × Int × Int) (e : Ending) : Prop := e = .returned (.tuple #[.agg #[.int .i64 r.1.a, .int .i64 r.1.b, .int .i64 r.1.c, .int .i64 r.1.d], .int .i64 r.2.1, .int .i64 r.2.2])
set_option maxRecDepth 100000 in
set_option maxHeartbeats 8000000 in
theorem pget {w : World} (h : Env w) {aa : Option Addr} {n ca : Nat} {zs : List Int} (hs : IsK .u8 w aa n ca zs) (hB : IsB zs) :
    Calls Tryd.prog 23 #[.slice aa n ca] w fun e w' => GetR (get zs) e ∧ Below w.heap.size w w' := by
  have hn := hs.hlen; have hle := hs.hle; have hmx := hs.hmax
  unfold maxLen at hmx
  by_cases hshort : n < 32
  · rw [get_short (by omega)]
    have e1 : decide ((n : Int) < 32) = true := by simp; omega
    have e2 : decide (n < 32) = true := by simpa using hshort
    have hy := block_new w (.cells #[.int .i64 0, .int .i64 0, .int .i64 0, .int .i64 0] 25)
    have N := Lib.hid (new25 w zero)
    clear h hs hB hn hle hmx hshort
    go_enter Tryd.func23, Tryd.ntmps23
    have x0 : (w.alloc (.cells #[.int .i64 0, .int .i64 0, .int .i64 0, .int .i64 0] 25)).cell? ⟨w.heap.size, 0, none⟩ = some (.int .i64 0) := cell_of hy 0
    have x1 : (w.alloc (.cells #[.int .i64 0, .int .i64 0, .int .i64 0, .int .i64 0] 25)).cell? ⟨w.heap.size, 1, none⟩ = some (.int .i64 0) := cell_of hy 1
    have x2 : (w.alloc (.cells #[.int .i64 0, .int .i64 0, .int .i64 0, .int .i64 0] 25)).cell? ⟨w.heap.size, 2, none⟩ = some (.int .i64 0) := cell_of hy 2
    have x3 : (w.alloc (.cells #[.int .i64 0, .int .i64 0, .int .i64 0, .int .i64 0] 25)).cell? ⟨w.heap.size, 3, none⟩ = some (.int .i64 0) := cell_of hy 3
    have z0 : (w.alloc (.cells #[.int .i64 0, .int .i64 0, .int .i64 0, .int .i64 0] 25)).frozen? ⟨w.heap.size, 0, none⟩ = false := free_of hy 0
    have z1 : (w.alloc (.cells #[.int .i64 0, .int .i64 0, .int .i64 0, .int .i64 0] 25)).frozen? ⟨w.heap.size, 1, none⟩ = false := free_of hy 1
    have z2 : (w.alloc (.cells #[.int .i64 0, .int .i64 0, .int .i64 0, .int .i64 0] 25)).frozen? ⟨w.heap.size, 2, none⟩ = false := free_of hy 2
    have z3 : (w.alloc (.cells #[.int .i64 0, .int .i64 0, .int .i64 0, .int .i64 0] 25)).frozen? ⟨w.heap.size, 3, none⟩ = false := free_of hy 3
    have HY := Lib.hid hy
    clear hy
    go_wp2_with fail
    have B := N.out
    change Below w.heap.size w (w.alloc (.cells #[.int .i64 0, .int .i64 0, .int .i64 0, .int .i64 0] 25)) at B
    clear N HY z0 z1 z2 z3
    generalize w.alloc (.cells #[.int .i64 0, .int .i64 0, .int .i64 0, .int .i64 0] 25) = W at *
    exact bodyPost_ret (v := .tuple #[.agg #[.int .i64 0, .int .i64 0, .int .i64 0, .int .i64 0], .int .i64 0, .int .i64 15]) (by simp [results, Tryd.results23, go_sem, x0, x1, x2, x3]) rfl ⟨rfl, B⟩
  · have e1 : decide ((n : Int) < 32) = false := by simp; omega
    have e2 : decide (n < 32) = false := by simpa using hshort
    have HE := Lib.hid h
    have HS := Lib.hid hs
    have HBB := Lib.hid hB
    have HLE : Hid (32 ≤ ca) := Lib.hid (by omega)
    have HL : Hid (zs.length = n) := Lib.hid hn.symm
    have HN : Hid (32 ≤ n) := Lib.hid (by omega)
    have HMX : Hid (ca ≤ maxLen) := Lib.hid hs.hmax
    have A : Hid (GeB w zs 0 ((w.alloc (.cells #[.int .i64 0, .int .i64 0, .int .i64 0, .int .i64 0] 25)).alloc (.cells #[.int .i64 0, .int .i64 0, .int .i64 0, .int .i64 0] 60))) := Lib.hid (by
      refine ⟨?_, block_old (block_new _ _) _, (new25 w zero).alloc (by simp) _⟩
      have := block_new (w.alloc (.cells #[.int .i64 0, .int .i64 0, .int .i64 0, .int .i64 0] 25)) (.cells #[.int .i64 0, .int .i64 0, .int .i64 0, .int .i64 0] 60)
      rwa [show (w.alloc (.cells #[.int .i64 0, .int .i64 0, .int .i64 0, .int .i64 0] 25)).heap.size = w.heap.size + 1 by simp] at this)
    clear h hs hB hn hle hmx hshort
    go_enter Tryd.func23, Tryd.ntmps23
    go_wp2_with fail
    go_loopw [14] (fun v14 wr => ∃ (i : Nat) (z : Int), i ≤ 4 ∧ v14 = .int .i64 z ∧ z = (i : Int) ∧ GeB w zs i wr) (fun v14 _ => 4 - (intOf v14).toNat)
    case atStart => exact ⟨0, 0, by omega, rfl, rfl, A.out⟩
    case round =>
      obtain ⟨i, z, hi4, rfl, hz, hb⟩ := hrel
      have GB := Lib.hid hb
      clear hb A
      have h5 : i = 0 ∨ i = 1 ∨ i = 2 ∨ i = 3 ∨ i = 4 := by omega
      clear hi4
      rcases h5 with rfl | rfl | rfl | rfl | rfl
      · obtain rfl : z = 0 := by omega
        clear hz
        have hsl := run_lh (P := Tryd.prog) (t := 41) (e := 5) (sz := 1) Tryd.underlying41 size5 (a := aa) (len := n) (cap := ca) (l := 0) (h := 8) (k := 0) (m := 8) rfl rfl (by omega) (by have := HLE.out; omega)
        have KS0 := IsSl.part (HS.out.below GB.out.below) (l := 0) (r := 8) (m := ca) (by omega) (by have := HN.out; omega) (by have := HLE.out; omega) (Nat.le_refl _)
        have hg : (zs.take 8).drop 0 = grp zs 0 := by unfold grp; rw [List.drop_take]
        rw [hg] at KS0
        have KS := Lib.hid KS0
        have BG : Hid (IsB (grp zs 0)) := Lib.hid (grp_b HBB.out 0)
        have LG : Hid ((grp zs 0).length = 8) := Lib.hid (by have := HN.out; have := HL.out; simp [grp]; omega)
        have HN1 : Hid (∀ x, x = IntKind.i64.wrap (be (grp zs 0)) → GeB w zs (0 + 1) (wr.setCell ⟨w.heap.size + 1, 0, none⟩ (.int .i64 x))) := Lib.hid (fun x hx => by
          have e8 := be_in8 BG.out (by have := LG.out; omega)
          rw [hx, sg_wrap e8.1 e8.2]
          exact GB.out.next rfl)
        clear KS0 hg
        obtain ⟨b, off, hp, _, _⟩ := KS.out.at_ (by intro h; have := LG.out; rw [h] at this; cases this)
        rw [hp] at hsl KS
        generalize grp zs 0 = L at *
        have KC := Lib.hid (fun k (hk : k < L.length) => KS.out.cellK (i := k) hk)
        clear KS hp
        rw [show 8 - 0 = 8 from rfl] at hsl
        generalize ca - 0 = cc at *
        have hfz : wr.frozen? ⟨w.heap.size + 1, 0, none⟩ = false := free_of GB.out.box 0
        have hlt := lt_of_block GB.out.box
        have hce : wr.cell? ⟨w.heap.size + 1, 0, none⟩ = some (.int .i64 0) := cell_of GB.out.box 0
        go_wp2_with fail
        clear hsl hfz hlt hce
        go_loopw [7, 25] (fun v7 v25 wr' => ∃ (k : Nat) (y x : Int), k ≤ 8 ∧ v25 = .int .i64 y ∧ y = (k : Int) ∧ v7 = .int .u64 x ∧ x = be (L.take k) ∧ wr' = wr) (fun _ v25 _ => 8 - (intOf v25).toNat)
        case atStart => exact ⟨0, 0, 0, by omega, rfl, rfl, rfl, rfl, rfl⟩
        case round =>
          obtain ⟨k, y, x, hk8, rfl, hy, rfl, hx, rfl⟩ := hrel
          by_cases h8 : k = 8
          · subst h8
            obtain rfl : y = 8 := by omega
            have hxx : x = be L := by rw [hx, List.take_of_length_le (by have := LG.out; omega)]
            clear hx hy hk8
            have hfz : wr.frozen? ⟨w.heap.size + 1, 0, none⟩ = false := free_of GB.out.box 0
            have hlt := lt_of_block GB.out.box
            have hce : wr.cell? ⟨w.heap.size + 1, 0, none⟩ = some (.int .i64 0) := cell_of GB.out.box 0
            have HX := Lib.hid hxx
            clear hxx
            go_wp2_with fail
            go_roundw
            case rel => exact ⟨0 + 1, _, by omega, rfl, by omega, HN1.out _ (by rw [HX.out]; exact (wrap64_i64 _).symm)⟩
            case measure => simp [intOf]
          · have hk7 : k ≤ 7 := by omega
            have hkl : k < L.length := by have := LG.out; omega
            have hin := be_in BG.out hk7
            have hby := isB_getD BG.out k
            have hc := KC.out k hkl
            have hnx := be_take hkl
            rw [← hx] at hin hnx
            generalize L.getD k 0 = c at *
            have hst := u64_step hin.1 hin.2 hby.1 hby.2
            have e8 : decide (y < 8) = true := by simp; omega
            have hyr : 0 ≤ y ∧ y < 8 := by omega
            have hya : (y.toNat : Int) = y := by omega
            have HX := Lib.hid hx
            have HNX := Lib.hid hnx
            have HY := Lib.hid hy
            obtain rfl : y = (k : Int) := hy
            clear hx hnx hk8
            go_wp2_with fail
            go_roundw
            case rel => exact ⟨k + 1, _, _, by omega, rfl, by omega, rfl, HNX.out.symm, by first | rfl | trivial⟩
            case measure => simp [intOf]; omega
      · obtain rfl : z = 1 := by omega
        clear hz
        have hsl := run_lh (P := Tryd.prog) (t := 41) (e := 5) (sz := 1) Tryd.underlying41 size5 (a := aa) (len := n) (cap := ca) (l := 8) (h := 16) (k := 8) (m := 16) rfl rfl (by omega) (by have := HLE.out; omega)
        have KS0 := IsSl.part (HS.out.below GB.out.below) (l := 8) (r := 16) (m := ca) (by omega) (by have := HN.out; omega) (by have := HLE.out; omega) (Nat.le_refl _)
        have hg : (zs.take 16).drop 8 = grp zs 1 := by unfold grp; rw [List.drop_take]
        rw [hg] at KS0
        have KS := Lib.hid KS0
        have BG : Hid (IsB (grp zs 1)) := Lib.hid (grp_b HBB.out 1)
        have LG : Hid ((grp zs 1).length = 8) := Lib.hid (by have := HN.out; have := HL.out; simp [grp]; omega)
        have HN1 : Hid (∀ x, x = IntKind.i64.wrap (be (grp zs 1)) → GeB w zs (1 + 1) (wr.setCell ⟨w.heap.size + 1, 1, none⟩ (.int .i64 x))) := Lib.hid (fun x hx => by
          have e8 := be_in8 BG.out (by have := LG.out; omega)
          rw [hx, sg_wrap e8.1 e8.2]
          exact GB.out.next rfl)
        clear KS0 hg
        obtain ⟨b, off, hp, _, _⟩ := KS.out.at_ (by intro h; have := LG.out; rw [h] at this; cases this)
        rw [hp] at hsl KS
        generalize grp zs 1 = L at *
        have KC := Lib.hid (fun k (hk : k < L.length) => KS.out.cellK (i := k) hk)
        clear KS hp
        rw [show 16 - 8 = 8 from rfl] at hsl
        generalize ca - 8 = cc at *
        have hfz : wr.frozen? ⟨w.heap.size + 1, 1, none⟩ = false := free_of GB.out.box 1
        have hlt := lt_of_block GB.out.box
        have hce : wr.cell? ⟨w.heap.size + 1, 1, none⟩ = some (.int .i64 0) := cell_of GB.out.box 1
        go_wp2_with fail
        clear hsl hfz hlt hce
        go_loopw [7, 25] (fun v7 v25 wr' => ∃ (k : Nat) (y x : Int), k ≤ 8 ∧ v25 = .int .i64 y ∧ y = (k : Int) ∧ v7 = .int .u64 x ∧ x = be (L.take k) ∧ wr' = wr) (fun _ v25 _ => 8 - (intOf v25).toNat)
        case atStart => exact ⟨0, 0, 0, by omega, rfl, rfl, rfl, rfl, rfl⟩
        case round =>
          obtain ⟨k, y, x, hk8, rfl, hy, rfl, hx, rfl⟩ := hrel
          by_cases h8 : k = 8
          · subst h8
            obtain rfl : y = 8 := by omega
            have hxx : x = be L := by rw [hx, List.take_of_length_le (by have := LG.out; omega)]
            clear hx hy hk8
            have hfz : wr.frozen? ⟨w.heap.size + 1, 1, none⟩ = false := free_of GB.out.box 1
            have hlt := lt_of_block GB.out.box
            have hce : wr.cell? ⟨w.heap.size + 1, 1, none⟩ = some (.int .i64 0) := cell_of GB.out.box 1
            have HX := Lib.hid hxx
            clear hxx
            go_wp2_with fail
            go_roundw
            case rel => exact ⟨1 + 1, _, by omega, rfl, by omega, HN1.out _ (by rw [HX.out]; exact (wrap64_i64 _).symm)⟩
            case measure => simp [intOf]
          · have hk7 : k ≤ 7 := by omega
            have hkl : k < L.length := by have := LG.out; omega
            have hin := be_in BG.out hk7
            have hby := isB_getD BG.out k
            have hc := KC.out k hkl
            have hnx := be_take hkl
            rw [← hx] at hin hnx
            generalize L.getD k 0 = c at *
            have hst := u64_step hin.1 hin.2 hby.1 hby.2
            have e8 : decide (y < 8) = true := by simp; omega
            have hyr : 0 ≤ y ∧ y < 8 := by omega
            have hya : (y.toNat : Int) = y := by omega
            have HX := Lib.hid hx
            have HNX := Lib.hid hnx
            have HY := Lib.hid hy
            obtain rfl : y = (k : Int) := hy
            clear hx hnx hk8
            go_wp2_with fail
            go_roundw
            case rel => exact ⟨k + 1, _, _, by omega, rfl, by omega, rfl, HNX.out.symm, by first | rfl | trivial⟩
            case measure => simp [intOf]; omega
      · obtain rfl : z = 2 := by omega
        clear hz
        have hsl := run_lh (P := Tryd.prog) (t := 41) (e := 5) (sz := 1) Tryd.underlying41 size5 (a := aa) (len := n) (cap := ca) (l := 16) (h := 24) (k := 16) (m := 24) rfl rfl (by omega) (by have := HLE.out; omega)
        have KS0 := IsSl.part (HS.out.below GB.out.below) (l := 16) (r := 24) (m := ca) (by omega) (by have := HN.out; omega) (by have := HLE.out; omega) (Nat.le_refl _)
        have hg : (zs.take 24).drop 16 = grp zs 2 := by unfold grp; rw [List.drop_take]
        rw [hg] at KS0
        have KS := Lib.hid KS0
        have BG : Hid (IsB (grp zs 2)) := Lib.hid (grp_b HBB.out 2)
        have LG : Hid ((grp zs 2).length = 8) := Lib.hid (by have := HN.out; have := HL.out; simp [grp]; omega)
        have HN1 : Hid (∀ x, x = IntKind.i64.wrap (be (grp zs 2)) → GeB w zs (2 + 1) (wr.setCell ⟨w.heap.size + 1, 2, none⟩ (.int .i64 x))) := Lib.hid (fun x hx => by
          have e8 := be_in8 BG.out (by have := LG.out; omega)
          rw [hx, sg_wrap e8.1 e8.2]
          exact GB.out.next rfl)
        clear KS0 hg
        obtain ⟨b, off, hp, _, _⟩ := KS.out.at_ (by intro h; have := LG.out; rw [h] at this; cases this)
        rw [hp] at hsl KS
        generalize grp zs 2 = L at *
        have KC := Lib.hid (fun k (hk : k < L.length) => KS.out.cellK (i := k) hk)
        clear KS hp
        rw [show 24 - 16 = 8 from rfl] at hsl
        generalize ca - 16 = cc at *
        have hfz : wr.frozen? ⟨w.heap.size + 1, 2, none⟩ = false := free_of GB.out.box 2
        have hlt := lt_of_block GB.out.box
        have hce : wr.cell? ⟨w.heap.size + 1, 2, none⟩ = some (.int .i64 0) := cell_of GB.out.box 2
        go_wp2_with fail
        clear hsl hfz hlt hce
        go_loopw [7, 25] (fun v7 v25 wr' => ∃ (k : Nat) (y x : Int), k ≤ 8 ∧ v25 = .int .i64 y ∧ y = (k : Int) ∧ v7 = .int .u64 x ∧ x = be (L.take k) ∧ wr' = wr) (fun _ v25 _ => 8 - (intOf v25).toNat)
        case atStart => exact ⟨0, 0, 0, by omega, rfl, rfl, rfl, rfl, rfl⟩
        case round =>
          obtain ⟨k, y, x, hk8, rfl, hy, rfl, hx, rfl⟩ := hrel
          by_cases h8 : k = 8
          · subst h8
            obtain rfl : y = 8 := by omega
            have hxx : x = be L := by rw [hx, List.take_of_length_le (by have := LG.out; omega)]
            clear hx hy hk8
            have hfz : wr.frozen? ⟨w.heap.size + 1, 2, none⟩ = false := free_of GB.out.box 2
            have hlt := lt_of_block GB.out.box
            have hce : wr.cell? ⟨w.heap.size + 1, 2, none⟩ = some (.int .i64 0) := cell_of GB.out.box 2
            have HX := Lib.hid hxx
            clear hxx
            go_wp2_with fail
            go_roundw
            case rel => exact ⟨2 + 1, _, by omega, rfl, by omega, HN1.out _ (by rw [HX.out]; exact (wrap64_i64 _).symm)⟩
            case measure => simp [intOf]
          · have hk7 : k ≤ 7 := by omega
            have hkl : k < L.length := by have := LG.out; omega
            have hin := be_in BG.out hk7
            have hby := isB_getD BG.out k
            have hc := KC.out k hkl
            have hnx := be_take hkl
            rw [← hx] at hin hnx
            generalize L.getD k 0 = c at *
            have hst := u64_step hin.1 hin.2 hby.1 hby.2
            have e8 : decide (y < 8) = true := by simp; omega
            have hyr : 0 ≤ y ∧ y < 8 := by omega
            have hya : (y.toNat : Int) = y := by omega
            have HX := Lib.hid hx
            have HNX := Lib.hid hnx
            have HY := Lib.hid hy
            obtain rfl : y = (k : Int) := hy
            clear hx hnx hk8
            go_wp2_with fail
            go_roundw
            case rel => exact ⟨k + 1, _, _, by omega, rfl, by omega, rfl, HNX.out.symm, by first | rfl | trivial⟩
            case measure => simp [intOf]; omega
      · obtain rfl : z = 3 := by omega
        clear hz
        have hsl := run_lh (P := Tryd.prog) (t := 41) (e := 5) (sz := 1) Tryd.underlying41 size5 (a := aa) (len := n) (cap := ca) (l := 24) (h := 32) (k := 24) (m := 32) rfl rfl (by omega) (by have := HLE.out; omega)
        have KS0 := IsSl.part (HS.out.below GB.out.below) (l := 24) (r := 32) (m := ca) (by omega) (by have := HN.out; omega) (by have := HLE.out; omega) (Nat.le_refl _)
        have hg : (zs.take 32).drop 24 = grp zs 3 := by unfold grp; rw [List.drop_take]
        rw [hg] at KS0
        have KS := Lib.hid KS0
        have BG : Hid (IsB (grp zs 3)) := Lib.hid (grp_b HBB.out 3)
        have LG : Hid ((grp zs 3).length = 8) := Lib.hid (by have := HN.out; have := HL.out; simp [grp]; omega)
        have HN1 : Hid (∀ x, x = IntKind.i64.wrap (be (grp zs 3)) → GeB w zs (3 + 1) (wr.setCell ⟨w.heap.size + 1, 3, none⟩ (.int .i64 x))) := Lib.hid (fun x hx => by
          have e8 := be_in8 BG.out (by have := LG.out; omega)
          rw [hx, sg_wrap e8.1 e8.2]
          exact GB.out.next rfl)
        clear KS0 hg
        obtain ⟨b, off, hp, _, _⟩ := KS.out.at_ (by intro h; have := LG.out; rw [h] at this; cases this)
        rw [hp] at hsl KS
        generalize grp zs 3 = L at *
        have KC := Lib.hid (fun k (hk : k < L.length) => KS.out.cellK (i := k) hk)
        clear KS hp
        rw [show 32 - 24 = 8 from rfl] at hsl
        generalize ca - 24 = cc at *
        have hfz : wr.frozen? ⟨w.heap.size + 1, 3, none⟩ = false := free_of GB.out.box 3
        have hlt := lt_of_block GB.out.box
        have hce : wr.cell? ⟨w.heap.size + 1, 3, none⟩ = some (.int .i64 0) := cell_of GB.out.box 3
        go_wp2_with fail
        clear hsl hfz hlt hce
        go_loopw [7, 25] (fun v7 v25 wr' => ∃ (k : Nat) (y x : Int), k ≤ 8 ∧ v25 = .int .i64 y ∧ y = (k : Int) ∧ v7 = .int .u64 x ∧ x = be (L.take k) ∧ wr' = wr) (fun _ v25 _ => 8 - (intOf v25).toNat)
        case atStart => exact ⟨0, 0, 0, by omega, rfl, rfl, rfl, rfl, rfl⟩
        case round =>
          obtain ⟨k, y, x, hk8, rfl, hy, rfl, hx, rfl⟩ := hrel
          by_cases h8 : k = 8
          · subst h8
            obtain rfl : y = 8 := by omega
            have hxx : x = be L := by rw [hx, List.take_of_length_le (by have := LG.out; omega)]
            clear hx hy hk8
            have hfz : wr.frozen? ⟨w.heap.size + 1, 3, none⟩ = false := free_of GB.out.box 3
            have hlt := lt_of_block GB.out.box
            have hce : wr.cell? ⟨w.heap.size + 1, 3, none⟩ = some (.int .i64 0) := cell_of GB.out.box 3
            have HX := Lib.hid hxx
            clear hxx
            go_wp2_with fail
            go_roundw
            case rel => exact ⟨3 + 1, _, by omega, rfl, by omega, HN1.out _ (by rw [HX.out]; exact (wrap64_i64 _).symm)⟩
            case measure => simp [intOf]
          · have hk7 : k ≤ 7 := by omega
            have hkl : k < L.length := by have := LG.out; omega
            have hin := be_in BG.out hk7
            have hby := isB_getD BG.out k
            have hc := KC.out k hkl
            have hnx := be_take hkl
            rw [← hx] at hin hnx
            generalize L.getD k 0 = c at *
            have hst := u64_step hin.1 hin.2 hby.1 hby.2
            have e8 : decide (y < 8) = true := by simp; omega
            have hyr : 0 ≤ y ∧ y < 8 := by omega
            have hya : (y.toNat : Int) = y := by omega
            have HX := Lib.hid hx
            have HNX := Lib.hid hnx
            have HY := Lib.hid hy
            obtain rfl : y = (k : Int) := hy
            clear hx hnx hk8
            go_wp2_with fail
            go_roundw
            case rel => exact ⟨k + 1, _, _, by omega, rfl, by omega, rfl, HNX.out.symm, by first | rfl | trivial⟩
            case measure => simp [intOf]; omega
      · obtain rfl : z = 4 := by omega
        clear hz
        have hb := GB.out
        have h4 : halfG zs 4 = getC zs := by simp [halfG, getC]
        have hbx := hb.box
        rw [h4] at hbx
        have HOK := Lib.hid (getC_ok HBB.out)
        have HQ : Hid (get zs = if wrong (getC zs) < 0 then (getC zs, 32, 0) else (zero, 0, 2)) := Lib.hid (by unfold get; rw [if_neg (by have := HN.out; have := HL.out; omega)])
        have BO := Lib.hid hb.out
        have BB := Lib.hid hb.below
        clear GB h4 hb HS HBB HLE HL HN HMX
        generalize getC zs = q at *
        have x0 : wr.cell? ⟨w.heap.size + 1, 0, none⟩ = some (.int .i64 q.a) := cell_of hbx 0
        have x1 : wr.cell? ⟨w.heap.size + 1, 1, none⟩ = some (.int .i64 q.b) := cell_of hbx 1
        have x2 : wr.cell? ⟨w.heap.size + 1, 2, none⟩ = some (.int .i64 q.c) := cell_of hbx 2
        have x3 : wr.cell? ⟨w.heap.size + 1, 3, none⟩ = some (.int .i64 q.d) := cell_of hbx 3
        have P1 := Lib.hid (pwrong (HE.out.below BB.out) q HOK.out)
        have HBX := Lib.hid hbx
        clear hbx HE HOK
        by_cases hw : wrong q < 0
        · have e3 : decide (0 ≤ wrong q) = false := by simp; omega
          rw [if_pos hw] at HQ
          clear hw
          generalize wrong q = m at *
          go_wp2_with fail
          refine (P1.out).mono ?_; rintro e w2 ⟨rfl, hb2⟩
          have B2 := Lib.hid (BB.out.trans (hb2.mono BB.out.size))
          have hx := (hb2.block _ (lt_of_block HBX.out)).trans HBX.out
          have X2 := Lib.hid ((hb2.block _ (lt_of_block BO.out)).trans BO.out)
          have y0 : w2.cell? ⟨w.heap.size + 1, 0, none⟩ = some (.int .i64 q.a) := cell_of hx 0
          have y1 : w2.cell? ⟨w.heap.size + 1, 1, none⟩ = some (.int .i64 q.b) := cell_of hx 1
          have y2 : w2.cell? ⟨w.heap.size + 1, 2, none⟩ = some (.int .i64 q.c) := cell_of hx 2
          have y3 : w2.cell? ⟨w.heap.size + 1, 3, none⟩ = some (.int .i64 q.d) := cell_of hx 3
          have J := Lib.hid (pjoin q.a q.b q.c q.d w2)
          clear hb2 P1 x0 x1 x2 x3 BB BO HBX hx
          go_wp2_with fail
          refine (J.out).mono ?_; rintro e w5 ⟨rfl, hb5⟩
          have B5 := Lib.hid (B2.out.trans (hb5.mono B2.out.size))
          have hx := (hb5.block _ (lt_of_block X2.out)).trans X2.out
          clear y0 y1 y2 y3
          have y0 : w5.cell? ⟨w.heap.size, 0, none⟩ = some (.int .i64 0) := cell_of hx 0
          have y1 : w5.cell? ⟨w.heap.size, 1, none⟩ = some (.int .i64 0) := cell_of hx 1
          have y2 : w5.cell? ⟨w.heap.size, 2, none⟩ = some (.int .i64 0) := cell_of hx 2
          have y3 : w5.cell? ⟨w.heap.size, 3, none⟩ = some (.int .i64 0) := cell_of hx 3
          have z0 : w5.frozen? ⟨w.heap.size, 0, none⟩ = false := free_of hx 0
          have z1 : w5.frozen? ⟨w.heap.size, 1, none⟩ = false := free_of hx 1
          have z2 : w5.frozen? ⟨w.heap.size, 2, none⟩ = false := free_of hx 2
          have z3 : w5.frozen? ⟨w.heap.size, 3, none⟩ = false := free_of hx 3
          have B6 : Hid (Below w.heap.size w ((((w5.setCell ⟨w.heap.size, 0, none⟩ (.int .i64 q.a)).setCell ⟨w.heap.size, 1, none⟩ (.int .i64 q.b)).setCell ⟨w.heap.size, 2, none⟩ (.int .i64 q.c)).setCell ⟨w.heap.size, 3, none⟩ (.int .i64 q.d))) := Lib.hid ((((B5.out.setCell (by simp) _).setCell (by simp) _).setCell (by simp) _).setCell (by simp) _)
          clear hb5 J
          go_wp2_with fail
          have hy := set4 hx rfl (.int .i64 q.a) (.int .i64 q.b) (.int .i64 q.c) (.int .i64 q.d)
          clear y0 y1 y2 y3 z0 z1 z2 z3
          generalize (((w5.setCell ⟨w.heap.size, 0, none⟩ (.int .i64 q.a)).setCell ⟨w.heap.size, 1, none⟩ (.int .i64 q.b)).setCell ⟨w.heap.size, 2, none⟩ (.int .i64 q.c)).setCell ⟨w.heap.size, 3, none⟩ (.int .i64 q.d) = W6 at *
          have y0 : W6.cell? ⟨w.heap.size, 0, none⟩ = some (.int .i64 q.a) := cell_of hy 0
          have y1 : W6.cell? ⟨w.heap.size, 1, none⟩ = some (.int .i64 q.b) := cell_of hy 1
          have y2 : W6.cell? ⟨w.heap.size, 2, none⟩ = some (.int .i64 q.c) := cell_of hy 2
          have y3 : W6.cell? ⟨w.heap.size, 3, none⟩ = some (.int .i64 q.d) := cell_of hy 3
          exact bodyPost_ret (v := .tuple #[.agg #[.int .i64 q.a, .int .i64 q.b, .int .i64 q.c, .int .i64 q.d], .int .i64 32, .int .i64 0]) (by simp [results, Tryd.results23, go_sem, y0, y1, y2, y3]) rfl ⟨by rw [HQ.out]; rfl, B6.out⟩
        · have e3 : decide (0 ≤ wrong q) = true := by simp; omega
          rw [if_neg hw] at HQ
          clear hw
          generalize wrong q = m at *
          go_wp2_with fail
          refine (P1.out).mono ?_; rintro e w5 ⟨rfl, hb5⟩
          have B5 := Lib.hid (BB.out.trans (hb5.mono BB.out.size))
          have hx := (hb5.block _ (lt_of_block BO.out)).trans BO.out
          clear x0 x1 x2 x3
          have y0 : w5.cell? ⟨w.heap.size, 0, none⟩ = some (.int .i64 0) := cell_of hx 0
          have y1 : w5.cell? ⟨w.heap.size, 1, none⟩ = some (.int .i64 0) := cell_of hx 1
          have y2 : w5.cell? ⟨w.heap.size, 2, none⟩ = some (.int .i64 0) := cell_of hx 2
          have y3 : w5.cell? ⟨w.heap.size, 3, none⟩ = some (.int .i64 0) := cell_of hx 3
          have z0 : w5.frozen? ⟨w.heap.size, 0, none⟩ = false := free_of hx 0
          have z1 : w5.frozen? ⟨w.heap.size, 1, none⟩ = false := free_of hx 1
          have z2 : w5.frozen? ⟨w.heap.size, 2, none⟩ = false := free_of hx 2
          have z3 : w5.frozen? ⟨w.heap.size, 3, none⟩ = false := free_of hx 3
          have B6 : Hid (Below w.heap.size w ((((w5.setCell ⟨w.heap.size, 0, none⟩ (.int .i64 0)).setCell ⟨w.heap.size, 1, none⟩ (.int .i64 0)).setCell ⟨w.heap.size, 2, none⟩ (.int .i64 0)).setCell ⟨w.heap.size, 3, none⟩ (.int .i64 0))) := Lib.hid ((((B5.out.setCell (by simp) _).setCell (by simp) _).setCell (by simp) _).setCell (by simp) _)
          clear hb5 P1
          go_wp2_with fail
          have hy := set4 hx rfl (.int .i64 0) (.int .i64 0) (.int .i64 0) (.int .i64 0)
          clear y0 y1 y2 y3 z0 z1 z2 z3
          generalize (((w5.setCell ⟨w.heap.size, 0, none⟩ (.int .i64 0)).setCell ⟨w.heap.size, 1, none⟩ (.int .i64 0)).setCell ⟨w.heap.size, 2, none⟩ (.int .i64 0)).setCell ⟨w.heap.size, 3, none⟩ (.int .i64 0) = W6 at *
          have y0 : W6.cell? ⟨w.heap.size, 0, none⟩ = some (.int .i64 0) := cell_of hy 0
          have y1 : W6.cell? ⟨w.heap.size, 1, none⟩ = some (.int .i64 0) := cell_of hy 1
          have y2 : W6.cell? ⟨w.heap.size, 2, none⟩ = some (.int .i64 0) := cell_of hy 2
          have y3 : W6.cell? ⟨w.heap.size, 3, none⟩ = some (.int .i64 0) := cell_of hy 3
          exact bodyPost_ret (v := .tuple #[.agg #[.int .i64 0, .int .i64 0, .int .i64 0, .int .i64 0], .int .i64 0, .int .i64 2]) (by simp [results, Tryd.results23, go_sem, y0, y1, y2, y3]) rfl ⟨by rw [HQ.out]; rfl, B6.out⟩
end Go.Proofs.YtabihdhgonnihaaDoor

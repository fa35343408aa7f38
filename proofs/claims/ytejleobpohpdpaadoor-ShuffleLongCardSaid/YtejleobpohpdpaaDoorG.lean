/- Inverse and Compose of both. -/
import Derived.Test.YtejleobpohpdpaaDoorF
namespace Go.Proofs.YtejleobpohpdpaaDoor
open Go.ChangeShapes Go.WideShapes Go.ChangeAt Go.RowKit

theorem keep_block {W w1 : World} {b : Nat} {o : Obj} (h : W.heap[b]? = some o) (hb : Below W.heap.size W w1) : w1.heap[b]? = some o := (hb.block b (lt_of_block h)).trans h
def InvRel (w : World) (p : List Nat) (g : Nat) (vi : Value) (wr : World) : Prop :=
  ∃ k : Nat, k ≤ p.length ∧ vi = .int .i64 k ∧ Blk .i64 3 wr g p.length (ns (invK p k)) ∧ Below w.heap.size w wr
set_option maxRecDepth 100000 in
set_option maxHeartbeats 2000000 in
theorem pinv_ok {p : List Nat} (hp : IsP p) (hl : p.length ≤ 16384) {w : World} {aa : Option Addr} {la ca : Nat} (h : IsK .i64 w aa la ca (ns p)) :
    Calls Tryd.prog 27 #[.slice aa la ca] w fun e w' => ∃ g, w.heap.size ≤ g ∧ e = .returned (.tuple #[.slice (some ⟨g, 0, none⟩) la la, .int .i64 0]) ∧ Blk .i64 3 w' g la (ns (invp p)) ∧ Below w.heap.size w w' := by
  have hal := h.hlen; have hac := h.hle; have ham := h.hmax
  rw [ns_len] at hal
  unfold maxLen at ham
  have HC := Lib.hid (pcheck h)
  rw [chk_yes (okP_ns hp hl)] at HC
  have H := Lib.hid h; have HAL := Lib.hid hal; have HP := Lib.hid hp
  obtain ⟨CI, hCI⟩ : ∃ C, C = madeCells #[Value.int .i64 0] la := ⟨_, rfl⟩
  have m1 := make_i la (by omega)
  rw [← hCI] at m1
  have HCI := Lib.hid hCI
  clear h hal hCI hp
  go_enter Tryd.func27, Tryd.ntmps27
  go_wp2_with fail
  refine (HC.out).mono ?_; rintro e w1 ⟨rfl, hb⟩
  have H1 := Lib.hid (H.out.below hb); have B1 := Lib.hid hb
  have hw1 := hb.size
  clear hb
  go_wp2_with fail
  go_loopw [6, 7, 18] (fun _ _ vi wr => InvRel w p w1.heap.size vi wr) (fun _ _ vi _ => la - (intOf vi).toNat)
  case atStart =>
    refine ⟨0, Nat.zero_le _, rfl, ?_, B1.out.alloc hw1 _⟩
    rw [HCI.out, HAL.out, invK_0, ← ns_rep]
    exact Blk.new _ _ (by unfold maxLen; omega)
  case round =>
    clear m1
    obtain ⟨k, hk, rfl, hg, hbl⟩ := hrel
    have HG := Lib.hid hg; have BL := Lib.hid hbl
    clear hg hbl
    by_cases hlt : k < la
    · have hkp : k < p.length := by have := HAL.out; omega
      obtain ⟨b, off, rfl, _, _⟩ := H.out.at_ (by intro h; have h1 := ns_len p; rw [h] at h1; simp at h1; omega)
      have x0 := (H.out.below BL.out).cellK (i := k) (by rw [ns_len]; exact hkp)
      rw [ns_get] at x0
      have hxl := HP.out.get_lt hkp
      have HN : Hid (Blk .i64 3 (wr.setCell ⟨w1.heap.size, p.getD k 0, none⟩ (.int .i64 (k : Nat))) w1.heap.size p.length (ns (invK p (k + 1)))) := Lib.hid (by
        have := HG.out.set (i := p.getD k 0) (by rw [ns_len, invK_len]; exact hxl) (k : Nat)
        rw [ns_set, invK_set HP.out hkp] at this; exact this)
      have BN := Lib.hid (BL.out.setCell (p := ⟨w1.heap.size, p.getD k 0, none⟩) hw1 (.int .i64 (k : Nat)))
      have cg := HG.out.cell (i := p.getD k 0) (by rw [ns_len, invK_len]; exact hxl)
      have fg := HG.out.free (p.getD k 0)
      have hxl' : p.getD k 0 < la := by have := HAL.out; omega
      clear hxl
      generalize p.getD k 0 = x at *
      generalize (ns (invK p k)).getD x 0 = y at *
      go_wp2_with fail
      go_roundw
      case rel => exact ⟨k + 1, by omega, by go_num, HN.out, BN.out⟩
      case measure => simp [intOf]; omega
    · have hkk : k = p.length := by have := HAL.out; omega
      have HF : Hid (Blk .i64 3 wr w1.heap.size la (ns (invp p))) := Lib.hid (by have := HG.out; rw [hkk, invK_all HP.out] at this; rw [HAL.out]; exact this)
      clear hkk
      go_wp2_with fail
      go_ret2
      exact ⟨_, hw1, rfl, HF.out, BL.out⟩
theorem pinv_no {zs : List Int} (hz : okP zs = false) {w : World} {aa : Option Addr} {la ca : Nat} (h : IsK .i64 w aa la ca zs) :
    Calls Tryd.prog 27 #[.slice aa la ca] w fun e w' => e = .returned (.tuple #[.slice none 0 0, .int .i64 2]) ∧ Below w.heap.size w w' := by
  have HC := Lib.hid (pcheck h)
  rw [chk_no hz] at HC
  clear h hz
  go_enter Tryd.func27, Tryd.ntmps27
  go_wp2_with fail
  refine (HC.out).mono ?_; rintro e w1 ⟨rfl, hb⟩
  have B1 := Lib.hid hb
  clear hb
  go_wp2_with fail
  go_ret2
  exact ⟨rfl, B1.out⟩
theorem rinv_no {zs : List Int} (hz : okP zs = false) {w : World} {aa : Option Addr} {la ca : Nat} (h : IsK .i64 w aa la ca zs) :
    Calls Tryd.prog 28 #[.slice aa la ca] w fun e w' => e = .returned (.tuple #[.slice none 0 0, .int .i64 2]) ∧ Below w.heap.size w w' := by
  have HC := Lib.hid (rcheck h)
  rw [chk_no hz] at HC
  clear h hz
  go_enter Tryd.func28, Tryd.ntmps28
  go_wp2_with fail
  refine (HC.out).mono ?_; rintro e w1 ⟨rfl, hb⟩
  have B1 := Lib.hid hb
  clear hb
  go_wp2_with fail
  go_ret2
  exact ⟨rfl, B1.out⟩
def WhRel (w : World) (p : List Nat) (m : Nat) (vi : Value) (wr : World) : Prop :=
  ∃ k : Nat, k ≤ p.length ∧ vi = .int .i64 k ∧ (∀ i, i < k → p.getD i 0 ≠ m) ∧ Below w.heap.size w wr
set_option maxHeartbeats 2000000 in
theorem where_ok {p : List Nat} (hp : IsP p) {m : Nat} (hm : m < p.length) {w : World} {aa : Option Addr} {la ca : Nat} (h : IsK .i64 w aa la ca (ns p)) :
    Calls Tryd.prog 40 #[.slice aa la ca, .int .i64 (m : Int)] w fun e w' => e = .returned (.int .i64 (p.idxOf m : Nat)) ∧ Below w.heap.size w w' := by
  have hal := h.hlen; have hac := h.hle; have ham := h.hmax
  rw [ns_len] at hal
  unfold maxLen at ham
  have H := Lib.hid h; have HAL := Lib.hid hal; have HP := Lib.hid hp
  generalize hr : p.idxOf m = r at *
  have HR := Lib.hid hr
  clear h hal hp hr
  go_enter Tryd.func40, Tryd.ntmps40
  go_wp2_with fail
  go_loopw [5] (fun vi wr => WhRel w p m vi wr) (fun vi _ => la - (intOf vi).toNat)
  case atStart => exact ⟨0, Nat.zero_le _, rfl, fun i hi => absurd hi (Nat.not_lt_zero _), Below.refl _ _⟩
  case round =>
    obtain ⟨k, hk, rfl, hno, hbl⟩ := hrel
    have BL := Lib.hid hbl; have NO := Lib.hid hno
    clear hbl hno
    by_cases hlt : k < la
    · have hkp : k < p.length := by have := HAL.out; omega
      obtain ⟨b, off, rfl, _, _⟩ := H.out.at_ (by intro h; have h1 := ns_len p; rw [h] at h1; simp at h1; omega)
      have x0 := (H.out.below BL.out).cellK (i := k) (by rw [ns_len]; exact hkp)
      rw [ns_get] at x0
      have hi := HP.out.idx_get hkp
      by_cases hx : p.getD k 0 = m
      · rw [hx] at x0 hi
        have HI := Lib.hid (HR.out.symm.trans hi)
        clear hx hi
        go_wp2_with fail
        go_ret
        exact ⟨ret_int (by rw [HI.out]), BL.out⟩
      · have hne : ∀ i, i < k + 1 → p.getD i 0 ≠ m := fun i hi => by
          rcases Nat.lt_or_ge i k with h1 | h1
          · exact NO.out i h1
          · obtain rfl : i = k := by omega
            exact hx
        have NE := Lib.hid hne
        clear hne hi
        generalize p.getD k 0 = x at *
        have hd : (((x : Nat) : Int) == ((m : Nat) : Int)) = false := by simp; omega
        clear hx
        go_wp2_with fail
        go_roundw
        case rel => exact ⟨k + 1, by omega, by go_num, NE.out, BL.out⟩
        case measure => simp [intOf]; omega
    · exfalso
      have h1 := HP.out.get_idx hm
      exact NO.out _ (by have := HP.out.idx_lt hm; have := HAL.out; omega) h1
def RInvRel (w : World) (p : List Nat) (vo vi : Value) (wr : World) : Prop :=
  ∃ k : Nat, k ≤ p.length ∧ vi = .int .i64 k ∧ OutR 1 (encK .i64) 3 wr w.heap.size vo (ns ((invp p).take k)) ∧ Below w.heap.size w wr
theorem nat_take_snoc {l : List Nat} {j : Nat} (h : j < l.length) : l.take (j + 1) = l.take j ++ [l.getD j 0] := by
  rw [List.take_succ_eq_append_getElem h]; simp [h]
set_option maxHeartbeats 2000000 in
theorem rinv_ok {p : List Nat} (hp : IsP p) (hl : p.length ≤ 16384) {w : World} {aa : Option Addr} {la ca : Nat} (h : IsK .i64 w aa la ca (ns p)) :
    Calls Tryd.prog 28 #[.slice aa la ca] w fun e w' => ∃ v, e = .returned (.tuple #[v, .int .i64 0]) ∧ OutR 1 (encK .i64) 3 w' w.heap.size v (ns (invp p)) ∧ Below w.heap.size w w' := by
  have hal := h.hlen; have hac := h.hle; have ham := h.hmax
  rw [ns_len] at hal
  unfold maxLen at ham
  have HC := Lib.hid (rcheck h)
  rw [chk_yes (okP_ns hp hl)] at HC
  have H := Lib.hid h; have HAL := Lib.hid hal; have HP := Lib.hid hp
  obtain ⟨i0, hi, hz0, hz1, hz2⟩ := info_parts info3
  clear h hal hp
  go_enter Tryd.func28, Tryd.ntmps28
  go_wp2_with fail
  refine (HC.out).mono ?_; rintro e w1 ⟨rfl, hb⟩
  have B1 := Lib.hid hb
  clear hb
  go_wp2_with fail
  go_loopw [4, 5] (fun vo vi wr => RInvRel w p vo vi wr) (fun _ vi _ => la - (intOf vi).toNat)
  case atStart => exact ⟨0, Nat.zero_le _, rfl, ⟨World.ownsRow_nil _ _ _ _, fun g h => by cases h⟩, B1.out⟩
  case round =>
    obtain ⟨k, hk, rfl, ho, hbl⟩ := hrel
    have BL := Lib.hid hbl; have O := Lib.hid ho
    clear hbl ho
    by_cases hlt : k < la
    · have hkp : k < p.length := by have := HAL.out; omega
      have CL := Lib.hid (where_ok HP.out hkp (H.out.below BL.out))
      have hix := invp_get hkp
      have HIX := Lib.hid hix
      clear hix
      generalize p.idxOf k = x at *
      go_wp2_with fail
      refine (CL.out).mono ?_; rintro e w3 ⟨rfl, hb⟩
      have BL3 := Lib.hid (BL.out.trans (hb.mono BL.out.size)); have O3 := Lib.hid (O.out.below hb)
      have hbw := BL3.out.size
      clear hb
      go_wp2_with (at_builtin; refine wpList_app rfl (.tmp 15) (.tmp 19) 24 rfl 3 i0 .i64 8 Tryd.underlying24 hi hz0 hz1 hz2 (by decide) rfl O3.out hbw (x : Int) rfl (by simp [ns]; omega) ?_)
      intro v1 w4 h1 h2 h3 h4
      have O4 := Lib.hid h1; have B4 := Lib.hid (BL3.out.trans h3)
      clear h1 h2 h3 h4
      go_wp2_with fail
      go_roundw
      case rel => exact ⟨k + 1, by omega, by go_num, by rw [nat_take_snoc (by rw [invp_len]; exact hkp), HIX.out, ← ns_app]; exact O4.out, B4.out⟩
      case measure => simp [intOf]; omega
    · have hkk : k = (invp p).length := by rw [invp_len]; have := HAL.out; omega
      have HF : Hid (OutR 1 (encK .i64) 3 wr w.heap.size u4 (ns (invp p))) := Lib.hid (by have := O.out; rw [hkk, List.take_length] at this; exact this)
      clear hkk
      go_wp2_with fail
      go_ret2
      exact ⟨_, rfl, HF.out, BL.out⟩
theorem ent39 : ∀ (args : Array Value) (w : World), (callFunc 39 args).run Tryd.prog w = .ok (.enter 39 args) w := enters_of Tryd.func39 (by kernel_rfl) rfl
set_option maxHeartbeats 1000000 in
theorem comp1_any {p : List Nat} {w : World} {b off la ca c : Nat} (h : IsK .i64 w (some ⟨b, off, none⟩) la ca (ns p)) (hc : w.heap[c]? = some (.cells #[.slice (some ⟨b, off, none⟩) la ca] 24 (0, 0))) (i : Nat) {x : Nat} (hx : x < p.length) :
    Calls Tryd.prog 39 (#[.int .i64 (i : Int), .int .i64 (x : Int)] ++ #[.pointer (some ⟨c, 0, none⟩)]) w fun e w' => e = .returned (.int .i64 (p.getD x 0 : Nat)) ∧ Below w.heap.size w w' := by
  have hal := h.hlen; have hac := h.hle; have ham := h.hmax
  rw [ns_len] at hal
  unfold maxLen at ham
  have x0 := h.cellK (i := x) (by rw [ns_len]; exact hx)
  rw [ns_get] at x0
  have c0 := cell_of hc 0
  simp at c0
  have hx' : x < la := by omega
  clear h hc hal
  generalize p.getD x 0 = y at *
  go_enter Tryd.func39, Tryd.ntmps39
  go_wp2_with fail
  go_ret
  exact ⟨rfl, Below.refl _ _⟩
set_option maxHeartbeats 2000000 in
theorem pcomp_ok {p q : List Nat} (hp : IsP p) (hq : IsP q) (hpl : p.length ≤ 16384) (hpq : p.length = q.length) {w : World} {aa ab : Option Addr} {la ca lb cb : Nat} (h : IsK .i64 w aa la ca (ns p)) (h2 : IsK .i64 w ab lb cb (ns q)) :
    Calls Tryd.prog 25 #[.slice aa la ca, .slice ab lb cb] w fun e w' => ∃ g, w.heap.size ≤ g ∧ e = .returned (.tuple #[.slice (some ⟨g, 0, none⟩) lb lb, .int .i64 0]) ∧ Blk .i64 3 w' g lb (ns (comp p q)) ∧ Below w.heap.size w w' := by
  have hal := h.hlen; have hac := h.hle; have ham := h.hmax; have hbl := h2.hlen; have hbc := h2.hle; have hbm := h2.hmax
  rw [ns_len] at hal hbl
  unfold maxLen at ham hbm
  obtain rfl : la = lb := by omega
  have C1 := Lib.hid (fun w (h : IsK .i64 w aa la ca (ns p)) => pcheck h)
  rw [chk_yes (okP_ns hp hpl)] at C1
  have C2 := Lib.hid (fun w (h : IsK .i64 w ab la cb (ns q)) => pcheck h)
  rw [chk_yes (okP_ns hq (by omega))] at C2
  have HE := Lib.hid (fun (w1 : World) (c : Nat) (h1 : IsK .i64 w1 aa la ca (ns p)) (hh : IsK .i64 w1 ab la cb (ns q)) (hc : w1.heap[c]? = some (.cells #[.slice aa la ca] 24 (0, 0))) => each_any #[.pointer (some ⟨c, 0, none⟩)] ent39 (ys := ns (comp p q)) hh (by rw [ns_len, comp_len]; omega) (by omega) (fun W hW i hi => by
    obtain ⟨b, off, rfl, _, _⟩ := h1.at_ (by intro h; have h1 := ns_len p; rw [h] at h1; simp at h1; omega)
    have := comp1_any (p := p) (h1.below hW) (keep_block hc hW) i (x := q.getD i 0) (by rw [hpq]; exact hq.get_lt (by omega))
    rw [ns_get, ns_get, comp_get (by omega)]; exact this))
  have H := Lib.hid h; have H2 := Lib.hid h2
  clear h h2 hal hbl hp hq hpq
  go_enter Tryd.func25, Tryd.ntmps25
  go_wp2_with fail
  have A1 := Lib.hid (Below.alloc (Below.refl w.heap.size w) (Nat.le_refl _) (.cells #[.slice aa la ca] 24))
  have K1 := Lib.hid (block_new w (.cells #[.slice aa la ca] 24))
  have H' := Lib.hid (H.out.below A1.out); have H2' := Lib.hid (H2.out.below A1.out)
  generalize hw0 : w.alloc (.cells #[.slice aa la ca] 24) = w0 at *
  have cc := cell_of K1.out 0
  simp at cc
  clear hw0
  refine (C1.out _ H'.out).mono ?_; rintro e w1 ⟨rfl, hb⟩
  have B1 := Lib.hid (A1.out.trans (hb.mono A1.out.size)); have K2 := Lib.hid (keep_block K1.out hb); have H1 := Lib.hid (H'.out.below hb); have H21 := Lib.hid (H2'.out.below hb)
  clear hb cc
  have cc := cell_of K2.out 0
  simp at cc
  go_wp2_with fail
  refine (C2.out _ H21.out).mono ?_; rintro e w2 ⟨rfl, hb⟩
  have B2 := Lib.hid (B1.out.trans (hb.mono B1.out.size)); have K3 := Lib.hid (keep_block K2.out hb); have H13 := Lib.hid (H1.out.below hb); have H23 := Lib.hid (H21.out.below hb)
  clear hb cc
  have cc := cell_of K3.out 0
  simp at cc
  go_wp2_with fail
  refine (HE.out _ _ H13.out H23.out K3.out).mono ?_; rintro e w3 ⟨rfl, hg, hb⟩
  have B3 := Lib.hid (B2.out.trans (hb.mono B2.out.size)); have HG := Lib.hid hg
  have hw2 := B2.out.size
  clear hb hg cc
  go_wp2_with fail
  go_ret2
  exact ⟨_, hw2, rfl, HG.out, B3.out⟩
set_option maxHeartbeats 2000000 in
theorem pcomp_no {xs ys : List Int} (hn : ¬ (okP xs = true ∧ okP ys = true ∧ xs.length = ys.length)) {w : World} {aa ab : Option Addr} {la ca lb cb : Nat} (h : IsK .i64 w aa la ca xs) (h2 : IsK .i64 w ab lb cb ys) :
    Calls Tryd.prog 25 #[.slice aa la ca, .slice ab lb cb] w fun e w' => e = .returned (.tuple #[.slice none 0 0, .int .i64 2]) ∧ Below w.heap.size w w' := by
  have hal := h.hlen; have hac := h.hle; have ham := h.hmax; have hbl := h2.hlen; have hbc := h2.hle; have hbm := h2.hmax
  unfold maxLen at ham hbm
  have C1 := Lib.hid (fun w (h : IsK .i64 w aa la ca xs) => pcheck h)
  have C2 := Lib.hid (fun w (h : IsK .i64 w ab lb cb ys) => pcheck h)
  have H := Lib.hid h; have H2 := Lib.hid h2
  cases e1 : okP xs
  · rw [chk_no e1] at C1
    clear h h2 hn e1 hal hbl
    go_enter Tryd.func25, Tryd.ntmps25
    go_wp2_with fail
    have A1 := Lib.hid (Below.alloc (Below.refl w.heap.size w) (Nat.le_refl _) (.cells #[.slice aa la ca] 24))
    have H' := Lib.hid (H.out.below A1.out)
    generalize hw0 : w.alloc (.cells #[.slice aa la ca] 24) = w0 at *
    clear hw0
    refine (C1.out _ H'.out).mono ?_; rintro e w1 ⟨rfl, hb⟩
    have B1 := Lib.hid (A1.out.trans (hb.mono A1.out.size))
    clear hb
    go_wp2_with fail
    go_ret2
    exact ⟨rfl, B1.out⟩
  · rw [chk_yes e1] at C1
    cases e2 : okP ys
    · rw [chk_no e2] at C2
      clear h h2 hn e1 e2 hal hbl
      go_enter Tryd.func25, Tryd.ntmps25
      go_wp2_with fail
      have A1 := Lib.hid (Below.alloc (Below.refl w.heap.size w) (Nat.le_refl _) (.cells #[.slice aa la ca] 24))
      have H' := Lib.hid (H.out.below A1.out); have H2' := Lib.hid (H2.out.below A1.out)
      generalize hw0 : w.alloc (.cells #[.slice aa la ca] 24) = w0 at *
      clear hw0
      refine (C1.out _ H'.out).mono ?_; rintro e w1 ⟨rfl, hb⟩
      have B1 := Lib.hid (A1.out.trans (hb.mono A1.out.size)); have H21 := Lib.hid (H2'.out.below hb)
      clear hb
      go_wp2_with fail
      refine (C2.out _ H21.out).mono ?_; rintro e w2 ⟨rfl, hb⟩
      have B2 := Lib.hid (B1.out.trans (hb.mono B1.out.size))
      clear hb
      go_wp2_with fail
      go_ret2
      exact ⟨rfl, B2.out⟩
    · rw [chk_yes e2] at C2
      have hne : ((la : Int) == (lb : Int)) = false := by
        have : la ≠ lb := fun e => hn ⟨e1, e2, by omega⟩
        simp; omega
      have hne2 : ((la : Int) != (lb : Int)) = true := by simp [bne, hne]
      clear h h2 hn e1 e2 hal hbl
      go_enter Tryd.func25, Tryd.ntmps25
      go_wp2_with fail
      have A1 := Lib.hid (Below.alloc (Below.refl w.heap.size w) (Nat.le_refl _) (.cells #[.slice aa la ca] 24))
      have K1 := Lib.hid (block_new w (.cells #[.slice aa la ca] 24))
      have H' := Lib.hid (H.out.below A1.out); have H2' := Lib.hid (H2.out.below A1.out)
      generalize hw0 : w.alloc (.cells #[.slice aa la ca] 24) = w0 at *
      clear hw0
      refine (C1.out _ H'.out).mono ?_; rintro e w1 ⟨rfl, hb⟩
      have B1 := Lib.hid (A1.out.trans (hb.mono A1.out.size)); have K2 := Lib.hid (keep_block K1.out hb); have H21 := Lib.hid (H2'.out.below hb)
      clear hb
      go_wp2_with fail
      refine (C2.out _ H21.out).mono ?_; rintro e w2 ⟨rfl, hb⟩
      have B2 := Lib.hid (B1.out.trans (hb.mono B1.out.size)); have K3 := Lib.hid (keep_block K2.out hb)
      clear hb
      have cc := cell_of K3.out 0
      simp at cc
      go_wp2_with fail
      go_ret2
      exact ⟨rfl, B2.out⟩
end Go.Proofs.YtejleobpohpdpaaDoor

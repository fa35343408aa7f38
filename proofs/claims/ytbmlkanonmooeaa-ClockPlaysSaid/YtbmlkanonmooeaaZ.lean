/- The walk of the law ClockPlays. -/
import Derived.Test.YtbmlkanonmooeaaY
import Derived.Deep.SlicePairs
namespace Go.Proofs.Ytbmlkanonmooeaa
open Go.ChangeShapes Go.WideShapes Go.ChangeAt Go.RowKit Go.Deep

/-- A slice of steps that came in. -/
structure IsSteps (w : World) (a : Option Addr) (len cap : Nat) (zs : List (Int × Int)) : Prop where
  hlen : len = zs.length
  hle : len ≤ cap
  hmax : cap ≤ maxLen
  at_ : zs ≠ [] → ∃ b off, a = some ⟨b, off, none⟩ ∧ b < w.heap.size ∧ ∀ i, i < zs.length → w.cell? ⟨b, off + i * 2, none⟩ = some (.int .i64 (zs.getD i (0, 0)).1) ∧ w.cell? ⟨b, off + i * 2 + 1, none⟩ = some (.int .i64 (zs.getD i (0, 0)).2)
  fit : ∀ p ∈ zs, fits p.1 ∧ fits p.2
theorem addr_add (b off i : Nat) : (⟨b, off, none⟩ : Addr).add i = ⟨b, off + i, none⟩ := by
  by_cases h : i = 0
  · subst h; simp [Addr.add]
  · simp [Addr.add, h]
theorem lt_of_cell {w : World} {b o : Nat} {v : Value} (h : w.cell? ⟨b, o, none⟩ = some v) : b < w.heap.size := by
  unfold World.cell? at h
  split at h
  · rename_i h'; exact lt_of_block h'
  · cases h
theorem openSteps {H : Type} {enc : TypeId × Value → H} {W : World} {a : Option Addr} {len cap : Nat} {d : DataW H} {p : List MemPlace}
    (h : DataW.Trod enc Try.prog W 0 (fun _ => true) true 42 (.slice a len cap) d p) : ∃ zs, IsSteps W a len cap zs := by
  obtain ⟨fuel, hf⟩ := h
  rcases open_slice_pairs Try.underlying42 Try.underlying44 (by kernel_rfl) rfl rfl (by kernel_rfl) (by kernel_rfl) hf with ⟨hcs, _⟩ | ⟨x, l, c, m, n, V0, V1, D0, D1, P0, P1, hcs, _, hl, hm, hmm, _, hx⟩
  · simp [Value.cells] at hcs
    obtain ⟨rfl, rfl, rfl⟩ := hcs
    exact ⟨[], rfl, Nat.le_refl _, Nat.zero_le _, fun h => absurd rfl h, fun _ h => by cases h⟩
  · simp [Value.cells] at hcs
    obtain ⟨rfl, rfl, rfl⟩ := hcs
    have hmc : m = cap := by simpa using hmm
    subst hmc
    have each : ∀ i, i < len → ∃ q : Int × Int, W.cell? (x.add (i * 2)) = some (.int .i64 q.1) ∧ W.cell? (x.add (i * 2 + 1)) = some (.int .i64 q.2) ∧ fits q.1 ∧ fits q.2 := by
      intro i hi
      obtain ⟨c0, c1, t0, t1⟩ := hx i (by omega)
      obtain ⟨u, eu, _, wu⟩ := DataW.trod_int (k := .i64) (by kernel_rfl) t0
      obtain ⟨v, ev, _, wv⟩ := DataW.trod_int (k := .i64) (by kernel_rfl) t1
      simp at eu ev
      exact ⟨(u, v), by rw [c0, eu], by rw [c1, ev], fits_wf wu, fits_wf wv⟩
    obtain ⟨f, hf'⟩ := choose_lt each
    obtain ⟨b, off, spot⟩ := x
    refine ⟨(List.range len).map f, by simp, hl, hm, fun hne => ?_, fun q hq => ?_⟩
    · have h0 : 0 < len := by
        rcases Nat.eq_zero_or_pos len with h | h
        · subst h; simp at hne
        · exact h
      have hspot : spot = none := by simpa [Addr.add] using World.cell?_spot (hf' 0 h0).1
      subst hspot
      have e0 := (hf' 0 h0).1
      rw [addr_add] at e0
      refine ⟨b, off, rfl, lt_of_cell e0, fun i hi => ?_⟩
      simp at hi
      have := hf' i hi
      rw [addr_add, addr_add] at this
      rw [show off + (i * 2 + 1) = off + i * 2 + 1 from by omega] at this
      simp [hi, this.1, this.2.1]
    · simp at hq
      obtain ⟨i, hi, rfl⟩ := hq
      exact ⟨(hf' i hi).2.2.1, (hf' i hi).2.2.2⟩

def PlayRel (w : World) (s : Int) (len : Nat) (vc vd vi : Value) (wr : World) : Prop :=
  ∃ (k : Nat) (n : Int) (b r : Nat), k ≤ len ∧ vi = .int .i64 k ∧ vc = .pointer (some ⟨b, 0, none⟩) ∧ vd = .pointer (some ⟨r, 0, none⟩) ∧ Two wr b r s n ∧ (w.heap.size ≤ b ∧ w.heap.size ≤ r ∧ b ≠ r) ∧ Below w.heap.size w wr

set_option maxRecDepth 100000 in
set_option maxHeartbeats 8000000 in
theorem plays_yes (s t u : Int) (a : Option Addr) (len cap : Nat) (zs : List (Int × Int)) (w : World) (hs : fits s) (hp : 1 ≤ s) (ht : fits t) (hu : fits u) (hz : IsSteps w a len cap zs) (h200 : ¬ 200 < zs.length) :
    Calls Try.prog 8 #[.int .i64 s, .slice a len cap, .int .i64 t, .int .i64 u] w fun e w' => e = .returned (.bool true) ∧ Below w.heap.size w w' := by
  obtain ⟨hlen, hle, hmax, hat, hfit⟩ := hz
  have Hat := Lib.hid hat; have Hfit := Lib.hid hfit; have HS := Lib.hid hs; have HT := Lib.hid ht; have HU := Lib.hid hu
  clear hat hfit hs ht hu
  subst hlen
  unfold maxLen at hmax
  go_enter Try.func8, Try.ntmps8
  go_wp2_with fail
  refine (new_yes s _ hp).mono ?_; rintro e w1 ⟨rfl, rfl⟩
  go_wp2_with fail
  refine (rnew_yes s _ hp).mono ?_; rintro e w1 ⟨rfl, rfl⟩
  have H : Hid (Two ((w.alloc (clk s 0)).alloc (rclk s 0)) w.heap.size (w.heap.size + 1) s 0) :=
    ⟨block_old (block_new _ _) _, by have := block_new (w.alloc (clk s 0)) (rclk s 0); rw [World.size_alloc] at this; exact this, hp, HS.out, by decide, by simpa using HS.out⟩
  have HB : Hid (Below w.heap.size w ((w.alloc (clk s 0)).alloc (rclk s 0))) := (Below.alloc (Below.refl _ _) (Nat.le_refl _) _).alloc (by simp) _
  go_wp2_with fail
  go_loopw [9, 11, 13] (fun vc vd vi wr => PlayRel w s zs.length vc vd vi wr) (fun _ _ vi _ => zs.length - (intOf vi).toNat)
  case atStart => exact ⟨0, 0, _, _, Nat.zero_le _, rfl, rfl, rfl, H.out, ⟨Nat.le_refl _, Nat.le_succ _, by omega⟩, HB.out⟩
  case round =>
    clear H HB
    obtain ⟨k, n, b, r, hk, rfl, rfl, rfl, hTw, hBR, hB⟩ := hrel
    have HTw := Lib.hid hTw; have HBR := Lib.hid hBR; have HB := Lib.hid hB
    clear hTw hBR hB
    by_cases hlt : k < zs.length
    · obtain ⟨bs, off, rfl, hbl, hcell⟩ := Hat.out (by intro h; simp [h] at hlt)
      have hc := hcell k hlt
      have hf := Hfit.out _ (show zs.getD k (0, 0) ∈ zs by simp [List.getElem?_eq_getElem hlt])
      clear hcell
      generalize zs.getD k (0, 0) = q at *
      obtain ⟨d, x⟩ := q
      have cd : wr.cell? ⟨bs, off + k * 2, none⟩ = some (.int .i64 d) := (HB.out.cell (p := ⟨bs, off + k * 2, none⟩) hbl).trans hc.1
      have cx : wr.cell? ⟨bs, off + k * 2 + 1, none⟩ = some (.int .i64 x) := (HB.out.cell (p := ⟨bs, off + k * 2 + 1, none⟩) hbl).trans hc.2
      have HX := Lib.hid hf.2
      clear hc hf
      by_cases d0 : d = 0
      · have e0 : (d == 0) = true := by simp [d0]
        clear d0
        go_wp2_with fail
        refine (advance_any _ s n x _ HTw.out.c HTw.out.pos HTw.out.fs HX.out).mono ?_; rintro e w1 ⟨rfl, hc1, ht1⟩
        have K1 := Lib.hid (ht1.keep HTw.out.d (by have := HBR.out.2.2; omega))
        have C1 := Lib.hid hc1
        have BB1 := Lib.hid (HB.out.trans (ht1.below HB.out.size (fun k hk => by have := HBR.out.1; omega)))
        clear hc1 ht1
        go_wp2_with fail
        refine (radvance_any _ s n x _ K1.out HTw.out.fs HX.out).mono ?_; rintro e w2 ⟨rfl, hd2, ht2⟩
        have K2 := Lib.hid (ht2.keep C1.out (by have := HBR.out.2.2; omega))
        have H2 : Hid (Two w2 b r s (adv s n x)) := ⟨K2.out, hd2, HTw.out.pos, HTw.out.fs, adv_fits HTw.out.fn HX.out, adv_fit2 HTw.out.fns⟩
        have BB2 := Lib.hid (BB1.out.trans (ht2.below BB1.out.size (fun k hk => by have := HBR.out.2.1; omega)))
        clear hd2 ht2
        go_wp2_with fail
        refine (agree_yes _ _ s (adv s n x) t _ H2.out HT.out).mono ?_; rintro e wa0 ⟨rfl, hba0⟩
        have BA0 := Lib.hid (BB2.out.trans (hba0.mono BB2.out.size)); have HA0 := Lib.hid (H2.out.later hba0); clear hba0
        go_wp2_with fail
        refine (agree_yes _ _ s (adv s n x) u _ HA0.out HU.out).mono ?_; rintro e wa1 ⟨rfl, hba1⟩
        have BA1 := Lib.hid (BA0.out.trans (hba1.mono BA0.out.size)); have HA1 := Lib.hid (HA0.out.later hba1); clear hba1
        go_wp2_with fail
        refine (agree_yes _ _ s (adv s n x) x _ HA1.out HX.out).mono ?_; rintro e wa2 ⟨rfl, hba2⟩
        have BA2 := Lib.hid (BA1.out.trans (hba2.mono BA1.out.size)); have HA2 := Lib.hid (HA1.out.later hba2); clear hba2
        go_wp2_with fail
        refine (rnow_any _ s (adv s n x) _ HA2.out.d).mono ?_; rintro e wn ⟨rfl, rfl⟩
        go_wp2_with fail
        refine (agree_yes _ _ s (adv s n x) (adv s n x) _ HA2.out HA2.out.fn).mono ?_; rintro e wa3 ⟨rfl, hba3⟩
        have BA3 := Lib.hid (BA2.out.trans (hba3.mono BA2.out.size)); have HA3 := Lib.hid (HA2.out.later hba3); clear hba3
        go_wp2
        go_roundw
        case rel => exact ⟨k + 1, (adv s n x), b, r, by omega, by go_num, rfl, rfl, HA3.out, HBR.out, BA3.out⟩
        case measure => simp [intOf]; omega
      have e0 : (d == 0) = false := by simp [d0]
      by_cases d1 : d = 1
      · have e1 : (d == 1) = true := by simp [d1]
        clear d0 d1
        go_wp2_with fail
        refine (check_any _ s n x _ HTw.out.c HTw.out.pos HTw.out.fs HX.out).mono ?_; rintro e w1 ⟨rfl, rfl⟩
        go_wp2_with fail
        refine (rcheck_any _ s n x _ HTw.out.d HTw.out.fs HX.out).mono ?_; rintro e w2 ⟨rfl, hb2⟩
        have BB2 := Lib.hid (HB.out.trans (hb2.mono HB.out.size)); have H2 := Lib.hid (HTw.out.later hb2); clear hb2
        go_wp2_with fail
        refine (agree_yes _ _ s n t _ H2.out HT.out).mono ?_; rintro e wa0 ⟨rfl, hba0⟩
        have BA0 := Lib.hid (BB2.out.trans (hba0.mono BB2.out.size)); have HA0 := Lib.hid (H2.out.later hba0); clear hba0
        go_wp2_with fail
        refine (agree_yes _ _ s n u _ HA0.out HU.out).mono ?_; rintro e wa1 ⟨rfl, hba1⟩
        have BA1 := Lib.hid (BA0.out.trans (hba1.mono BA0.out.size)); have HA1 := Lib.hid (HA0.out.later hba1); clear hba1
        go_wp2_with fail
        refine (agree_yes _ _ s n x _ HA1.out HX.out).mono ?_; rintro e wa2 ⟨rfl, hba2⟩
        have BA2 := Lib.hid (BA1.out.trans (hba2.mono BA1.out.size)); have HA2 := Lib.hid (HA1.out.later hba2); clear hba2
        go_wp2_with fail
        refine (rnow_any _ s n _ HA2.out.d).mono ?_; rintro e wn ⟨rfl, rfl⟩
        go_wp2_with fail
        refine (agree_yes _ _ s n n _ HA2.out HA2.out.fn).mono ?_; rintro e wa3 ⟨rfl, hba3⟩
        have BA3 := Lib.hid (BA2.out.trans (hba3.mono BA2.out.size)); have HA3 := Lib.hid (HA2.out.later hba3); clear hba3
        go_wp2
        go_roundw
        case rel => exact ⟨k + 1, n, b, r, by omega, by go_num, rfl, rfl, HA3.out, HBR.out, BA3.out⟩
        case measure => simp [intOf]; omega
      have e1 : (d == 1) = false := by simp [d1]
      by_cases d2 : d = 2
      · have e2 : (d == 2) = true := by simp [d2]
        clear d0 d1 d2
        go_wp2_with fail
        refine (copy_any _ s n _ HTw.out.c HTw.out.pos).mono ?_; rintro e w1 ⟨rfl, rfl⟩
        have KD := Lib.hid (block_old HTw.out.d (clk s n)); have KC := Lib.hid (block_old HTw.out.c (clk s n)); have KN := Lib.hid (block_new wr (clk s n))
        go_wp2_with fail
        refine (rcopy_any _ s n _ KD.out).mono ?_; rintro e w1 ⟨rfl, rfl⟩
        have KD2 : Hid (((wr.alloc (clk s n)).alloc (rclk s n)).drew.heap[wr.heap.size + 1]? = some (rclk s n)) := by
          have := block_new (wr.alloc (clk s n)) (rclk s n); rw [World.size_alloc] at this; exact this
        have KC2 : Hid (((wr.alloc (clk s n)).alloc (rclk s n)).drew.heap[b]? = some (clk s n)) := block_old KC.out _
        have KN2 : Hid (((wr.alloc (clk s n)).alloc (rclk s n)).drew.heap[wr.heap.size]? = some (clk s n)) := block_old KN.out _
        have hbl := lt_of_block HTw.out.c
        have BB1 : Hid (Below w.heap.size w ((wr.alloc (clk s n)).alloc (rclk s n)).drew) := Below.drew ((Below.alloc HB.out HB.out.size _).alloc (by have := HB.out.size; simp; omega) _)
        go_wp2_with fail
        refine (advance_any _ s n x _ KC2.out HTw.out.pos HTw.out.fs HX.out).mono ?_; rintro e w2 ⟨rfl, hc2, ht2⟩
        have H2 : Hid (Two w2 wr.heap.size (wr.heap.size + 1) s n) := ⟨ht2.keep KN2.out (by omega), ht2.keep KD2.out (by omega), HTw.out.pos, HTw.out.fs, HTw.out.fn, HTw.out.fns⟩
        have BB2 := Lib.hid (BB1.out.trans (ht2.below BB1.out.size (fun k hk => by have := HBR.out.1; omega)))
        clear hc2 ht2
        go_wp2_with fail
        refine (agree_yes _ _ s n t _ H2.out HT.out).mono ?_; rintro e wa0 ⟨rfl, hba0⟩
        have BA0 := Lib.hid (BB2.out.trans (hba0.mono BB2.out.size)); have HA0 := Lib.hid (H2.out.later hba0); clear hba0
        go_wp2_with fail
        refine (agree_yes _ _ s n u _ HA0.out HU.out).mono ?_; rintro e wa1 ⟨rfl, hba1⟩
        have BA1 := Lib.hid (BA0.out.trans (hba1.mono BA0.out.size)); have HA1 := Lib.hid (HA0.out.later hba1); clear hba1
        go_wp2_with fail
        refine (agree_yes _ _ s n x _ HA1.out HX.out).mono ?_; rintro e wa2 ⟨rfl, hba2⟩
        have BA2 := Lib.hid (BA1.out.trans (hba2.mono BA1.out.size)); have HA2 := Lib.hid (HA1.out.later hba2); clear hba2
        go_wp2_with fail
        refine (rnow_any _ s n _ HA2.out.d).mono ?_; rintro e wn ⟨rfl, rfl⟩
        go_wp2_with fail
        refine (agree_yes _ _ s n n _ HA2.out HA2.out.fn).mono ?_; rintro e wa3 ⟨rfl, hba3⟩
        have BA3 := Lib.hid (BA2.out.trans (hba3.mono BA2.out.size)); have HA3 := Lib.hid (HA2.out.later hba3); clear hba3
        go_wp2
        go_roundw
        case rel => exact ⟨k + 1, n, wr.heap.size, (wr.heap.size + 1), by omega, by go_num, rfl, rfl, HA3.out, ⟨HB.out.size, Nat.le_succ_of_le HB.out.size, by omega⟩, BA3.out⟩
        case measure => simp [intOf]; omega
      have e2 : (d == 2) = false := by simp [d2]
      clear d0 d1 d2
      have H2 := HTw; have BB2 := HB
      go_wp2_with fail
      refine (agree_yes _ _ s n t _ H2.out HT.out).mono ?_; rintro e wa0 ⟨rfl, hba0⟩
      have BA0 := Lib.hid (BB2.out.trans (hba0.mono BB2.out.size)); have HA0 := Lib.hid (H2.out.later hba0); clear hba0
      go_wp2_with fail
      refine (agree_yes _ _ s n u _ HA0.out HU.out).mono ?_; rintro e wa1 ⟨rfl, hba1⟩
      have BA1 := Lib.hid (BA0.out.trans (hba1.mono BA0.out.size)); have HA1 := Lib.hid (HA0.out.later hba1); clear hba1
      go_wp2_with fail
      refine (agree_yes _ _ s n x _ HA1.out HX.out).mono ?_; rintro e wa2 ⟨rfl, hba2⟩
      have BA2 := Lib.hid (BA1.out.trans (hba2.mono BA1.out.size)); have HA2 := Lib.hid (HA1.out.later hba2); clear hba2
      go_wp2_with fail
      refine (rnow_any _ s n _ HA2.out.d).mono ?_; rintro e wn ⟨rfl, rfl⟩
      go_wp2_with fail
      refine (agree_yes _ _ s n n _ HA2.out HA2.out.fn).mono ?_; rintro e wa3 ⟨rfl, hba3⟩
      have BA3 := Lib.hid (BA2.out.trans (hba3.mono BA2.out.size)); have HA3 := Lib.hid (HA2.out.later hba3); clear hba3
      go_wp2
      go_roundw
      case rel => exact ⟨k + 1, n, b, r, by omega, by go_num, rfl, rfl, HA3.out, HBR.out, BA3.out⟩
      case measure => simp [intOf]; omega
    · go_wp2_with fail
      refine (works_any _).mono ?_; rintro e w3 ⟨rfl, b3⟩
      have B3 := Lib.hid (HB.out.trans (b3.mono HB.out.size)); clear b3
      go_wp2_with fail
      go_ret
      exact ⟨rfl, B3.out⟩


def PlayNo (w : World) (len : Nat) (vc vd vi : Value) (wr : World) : Prop :=
  ∃ (k : Nat), k ≤ len ∧ vi = .int .i64 k ∧ vc = .pointer none ∧ vd = .pointer none ∧ Below w.heap.size w wr

set_option maxRecDepth 100000 in
set_option maxHeartbeats 8000000 in
theorem plays_no (s t u : Int) (a : Option Addr) (len cap : Nat) (zs : List (Int × Int)) (w : World) (hp : ¬ 1 ≤ s) (hz : IsSteps w a len cap zs) (h200 : ¬ 200 < zs.length) :
    Calls Try.prog 8 #[.int .i64 s, .slice a len cap, .int .i64 t, .int .i64 u] w fun e w' => e = .returned (.bool true) ∧ Below w.heap.size w w' := by
  obtain ⟨hlen, hle, hmax, hat, hfit⟩ := hz
  have Hat := Lib.hid hat
  clear hat hfit
  subst hlen
  unfold maxLen at hmax
  go_enter Try.func8, Try.ntmps8
  go_wp2_with fail
  refine (new_no s _ (by omega)).mono ?_; rintro e w1 ⟨rfl, rfl⟩
  go_wp2_with fail
  refine (rnew_no s _ (by omega)).mono ?_; rintro e w1 ⟨rfl, rfl⟩
  go_wp2_with fail
  go_loopw [9, 11, 13] (fun vc vd vi wr => PlayNo w zs.length vc vd vi wr) (fun _ _ vi _ => zs.length - (intOf vi).toNat)
  case atStart => exact ⟨0, Nat.zero_le _, rfl, rfl, rfl, Below.refl _ _⟩
  case round =>
    obtain ⟨k, hk, rfl, rfl, rfl, hB⟩ := hrel
    have HB := Lib.hid hB
    clear hB
    by_cases hlt : k < zs.length
    · obtain ⟨bs, off, rfl, hbl, hcell⟩ := Hat.out (by intro h; simp [h] at hlt)
      have hc := hcell k hlt
      clear hcell
      generalize zs.getD k (0, 0) = q at *
      obtain ⟨d, x⟩ := q
      have cd : wr.cell? ⟨bs, off + k * 2, none⟩ = some (.int .i64 d) := (HB.out.cell (p := ⟨bs, off + k * 2, none⟩) hbl).trans hc.1
      have cx : wr.cell? ⟨bs, off + k * 2 + 1, none⟩ = some (.int .i64 x) := (HB.out.cell (p := ⟨bs, off + k * 2 + 1, none⟩) hbl).trans hc.2
      clear hc
      by_cases d0 : d = 0
      · have e0 : (d == 0) = true := by simp [d0]
        clear d0
        go_wp2_with fail
        refine (advance_no none x _ (Or.inl rfl)).mono ?_; rintro e w1 ⟨rfl, rfl⟩
        go_wp2_with fail
        refine (radvance_no x _).mono ?_; rintro e w1 ⟨rfl, rfl⟩
        go_wp2_with fail
        refine (agree_no t _).mono ?_; rintro e wa ⟨rfl, rfl⟩
        go_wp2_with fail
        refine (agree_no u _).mono ?_; rintro e wa ⟨rfl, rfl⟩
        go_wp2_with fail
        refine (agree_no x _).mono ?_; rintro e wa ⟨rfl, rfl⟩
        go_wp2_with fail
        refine (rnow_no _).mono ?_; rintro e wn ⟨rfl, rfl⟩
        go_wp2_with fail
        refine (agree_no 0 _).mono ?_; rintro e wa ⟨rfl, rfl⟩
        go_wp2
        go_roundw
        case rel => exact ⟨k + 1, by omega, by go_num, rfl, rfl, HB.out⟩
        case measure => simp [intOf]; omega
      have e0 : (d == 0) = false := by simp [d0]
      by_cases d1 : d = 1
      · have e1 : (d == 1) = true := by simp [d1]
        clear d0 d1
        go_wp2_with fail
        refine (check_no none x _ (Or.inl rfl)).mono ?_; rintro e w1 ⟨rfl, rfl⟩
        go_wp2_with fail
        refine (rcheck_no x _).mono ?_; rintro e w1 ⟨rfl, rfl⟩
        go_wp2_with fail
        refine (agree_no t _).mono ?_; rintro e wa ⟨rfl, rfl⟩
        go_wp2_with fail
        refine (agree_no u _).mono ?_; rintro e wa ⟨rfl, rfl⟩
        go_wp2_with fail
        refine (agree_no x _).mono ?_; rintro e wa ⟨rfl, rfl⟩
        go_wp2_with fail
        refine (rnow_no _).mono ?_; rintro e wn ⟨rfl, rfl⟩
        go_wp2_with fail
        refine (agree_no 0 _).mono ?_; rintro e wa ⟨rfl, rfl⟩
        go_wp2
        go_roundw
        case rel => exact ⟨k + 1, by omega, by go_num, rfl, rfl, HB.out⟩
        case measure => simp [intOf]; omega
      have e1 : (d == 1) = false := by simp [d1]
      by_cases d2 : d = 2
      · have e2 : (d == 2) = true := by simp [d2]
        clear d0 d1 d2
        go_wp2_with fail
        refine (copy_no none _ (Or.inl rfl)).mono ?_; rintro e w1 ⟨rfl, rfl⟩
        go_wp2_with fail
        refine (rcopy_no _).mono ?_; rintro e w1 ⟨rfl, rfl⟩
        go_wp2_with fail
        refine (advance_no none x _ (Or.inl rfl)).mono ?_; rintro e w1 ⟨rfl, rfl⟩
        go_wp2_with fail
        refine (agree_no t _).mono ?_; rintro e wa ⟨rfl, rfl⟩
        go_wp2_with fail
        refine (agree_no u _).mono ?_; rintro e wa ⟨rfl, rfl⟩
        go_wp2_with fail
        refine (agree_no x _).mono ?_; rintro e wa ⟨rfl, rfl⟩
        go_wp2_with fail
        refine (rnow_no _).mono ?_; rintro e wn ⟨rfl, rfl⟩
        go_wp2_with fail
        refine (agree_no 0 _).mono ?_; rintro e wa ⟨rfl, rfl⟩
        go_wp2
        go_roundw
        case rel => exact ⟨k + 1, by omega, by go_num, rfl, rfl, HB.out⟩
        case measure => simp [intOf]; omega
      have e2 : (d == 2) = false := by simp [d2]
      clear d0 d1 d2
      go_wp2_with fail
      refine (agree_no t _).mono ?_; rintro e wa ⟨rfl, rfl⟩
      go_wp2_with fail
      refine (agree_no u _).mono ?_; rintro e wa ⟨rfl, rfl⟩
      go_wp2_with fail
      refine (agree_no x _).mono ?_; rintro e wa ⟨rfl, rfl⟩
      go_wp2_with fail
      refine (rnow_no _).mono ?_; rintro e wn ⟨rfl, rfl⟩
      go_wp2_with fail
      refine (agree_no 0 _).mono ?_; rintro e wa ⟨rfl, rfl⟩
      go_wp2
      go_roundw
      case rel => exact ⟨k + 1, by omega, by go_num, rfl, rfl, HB.out⟩
      case measure => simp [intOf]; omega
    · go_wp2_with fail
      refine (works_any _).mono ?_; rintro e w3 ⟨rfl, b3⟩
      have B3 := Lib.hid (HB.out.trans (b3.mono HB.out.size)); clear b3
      go_wp2_with fail
      go_ret
      exact ⟨rfl, B3.out⟩

theorem plays_long (s t u : Int) (a : Option Addr) (len cap : Nat) (w : World) (h200 : 200 < len) :
    Calls Try.prog 8 #[.int .i64 s, .slice a len cap, .int .i64 t, .int .i64 u] w fun e w' => e = .returned (.bool true) ∧ Below w.heap.size w w' := by
  go_enter Try.func8, Try.ntmps8
  go_wp2_with (go_at_call 17; refine (works_any _).mono ?_; rintro e w3 ⟨rfl, b3⟩)
  go_ret
  exact ⟨rfl, ‹_›⟩
theorem plays_law (s : Int) (a : Option Addr) (len cap : Nat) (zs : List (Int × Int)) (t u : Int) (w : World) (h0 : (Lit.int .i64 s).wf = true) (hz : IsSteps w a len cap zs) (h1 : (Lit.int .i64 t).wf = true) (h2 : (Lit.int .i64 u).wf = true) :
    Calls Try.prog 8 #[.int .i64 s, .slice a len cap, .int .i64 t, .int .i64 u] w fun e w' => e = .returned (.bool true) ∧ Below w.heap.size w w' := by
  by_cases h200 : 200 < zs.length
  · exact plays_long s t u a len cap w (by rw [hz.hlen]; exact h200)
  · by_cases hp : 1 ≤ s
    · exact plays_yes s t u a len cap zs w (fits_wf h0) hp (fits_wf h1) (fits_wf h2) hz h200
    · exact plays_no s t u a len cap zs w hp hz h200
theorem openArg1 {H : Type} {enc : TypeId × Value → H} {W : World} {a : Option Addr} {len cap : Nat} {d : DataW H} {p : List MemPlace}
    (h : DataW.Trod enc Try.prog W 0 (fun _ => true) true 42 (.slice a len cap) d p) : ∃ zs, IsSteps W a len cap zs := openSteps h
end Go.Proofs.Ytbmlkanonmooeaa

/- The walks of the laws ClockExpires, ClockRises. -/
import Derived.Test.YtbmlkanonmooeaaB
namespace Go.Proofs.Ytbmlkanonmooeaa
open Go.ChangeShapes Go.WideShapes Go.ChangeAt Go.RowKit

theorem adv_ge (s n t : Int) : n ≤ adv s n t := by
  unfold adv chk; by_cases h : t < n
  · simp [h]
  · simp [h]; split <;> omega
theorem adv_fit2 {s n t : Int} (h : fits (n + s)) : fits (adv s n t + s) := by
  unfold adv chk addE
  by_cases h1 : t < n
  · simp [h1]; exact h
  · by_cases h2 : fits (t + s)
    · simp [h1, h2]
    · simp [h1, h2]; exact h
theorem lv_self {s n : Int} (h : fits (n + s)) (hs : 1 ≤ s) : lv s n n = true := by simp [lv, h]; omega
theorem lv_later {s n m : Int} (h : fits (n + s)) (hm : n ≤ m) : lv s m n = decide (m < n + s) := by simp [lv, h, hm]
/-- The edge of the time t has expired. -/
def dead (s m t : Int) : Prop := t ≤ m ∧ lv s m t = false
theorem dead_mono {s m m' t : Int} (h : dead s m t) (hm : m ≤ m') : dead s m' t := by
  unfold dead lv at *; simp at *; refine ⟨by omega, fun h1 h2 => ?_⟩; have := h.2 h.1 h2; omega
theorem dead_new {s m m' t : Int} (h : lv s m t = true) (hm : m ≤ m') (h2 : lv s m' t = false) : dead s m' t := by
  refine ⟨?_, h2⟩; unfold lv at h; simp at h; omega

def ExpRel (B : Nat) (s t : Int) (len : Nat) (w : World) (vw vg vi : Value) (wr : World) : Prop :=
  ∃ (k : Nat) (m : Int) (g : Bool), k ≤ len ∧ vi = .int .i64 k ∧ vw = .bool (lv s m t) ∧ vg = .bool g ∧ (g = true → dead s m t) ∧ fits m ∧ fits (m + s) ∧ wr.heap[B]? = some (clk s m) ∧ Below B w wr

theorem at_fits {zs : List Int} (h : ∀ n ∈ zs, (Lit.int .i64 n).wf = true) {k : Nat} (hk : k < zs.length) : fits (zs.getD k 0) := by
  have : zs.getD k 0 ∈ zs := by simp [List.getElem?_eq_getElem hk]
  exact fits_wf (h _ this)

set_option maxHeartbeats 2000000 in
theorem expires_walk (n t : Int) (a : Option Addr) (len cap : Nat) (zs : List Int) (w : World) (hn : fits n) (ht : fits t) (hz : IsInts .i64 w a len cap zs) :
    Calls Try.prog 4 #[.int .i64 n, .int .i64 t, .slice a len cap] w fun e w' => e = .returned (.bool true) ∧ Below w.heap.size w w' := by
  obtain ⟨hlen, hle, hmax, hat, hwf⟩ := hz
  have Hat := Lib.hid hat; clear hat
  have Hwf := Lib.hid hwf; clear hwf
  subst hlen
  unfold maxLen at hmax
  have hs1 := spn_pos n
  have hs2 := spn_fits n hn
  by_cases h200 : 200 < zs.length
  · go_enter Try.func4, Try.ntmps4
    go_wp2_with (go_at_call 17; refine (works_any _).mono ?_; rintro e w3 ⟨rfl, b3⟩)
    go_ret
    exact ⟨rfl, ‹_›⟩
  go_enter Try.func4, Try.ntmps4
  go_wp2_with (first | (go_at_call 12; refine (span_any n _ hn).mono ?_; rintro e w1 ⟨rfl, rfl⟩) | (go_at_call 11; refine (new_yes _ _ hs1).mono ?_; rintro e w1 ⟨rfl, rfl⟩) | (go_at_call 15; refine (live_any _ (spn n) 0 t _ (block_new w (clk (spn n) 0)) hs1 hs2 ht).mono ?_; rintro e w1 ⟨rfl, rfl⟩))
  generalize spn n = s at *
  have T0 := Lib.hid (Below.alloc (Below.refl w.heap.size w) (Nat.le_refl _) (clk s 0))
  have B0 := Lib.hid (block_new w (clk s 0))
  go_loopw [9, 10, 11] (fun vw vg vi wr => ExpRel w.heap.size s t zs.length w vw vg vi wr) (fun _ _ vi _ => zs.length - (intOf vi).toNat)
  case atStart => exact ⟨0, 0, false, Nat.zero_le _, rfl, rfl, rfl, (fun h => by cases h), by decide, by simpa using hs2, B0.out, T0.out⟩
  case round =>
    obtain ⟨k, m, g, hk, rfl, rfl, rfl, hg, hm, hms, hb, hB⟩ := hrel
    have HG := Lib.hid hg; clear hg
    have HM := Lib.hid hm; clear hm
    have HS := Lib.hid hms; clear hms
    have HBk := Lib.hid hb; clear hb
    have HB := Lib.hid hB; clear hB
    by_cases hlt : k < zs.length
    · obtain ⟨b, off, rfl, hbl, hcell⟩ := Hat.out (by intro h; simp [h] at hlt)
      have hc : wr.cell? ⟨b, off + k, none⟩ = some (.int .i64 (zs.getD k 0)) := (HB.out.cell (p := ⟨b, off + k, none⟩) hbl).trans (hcell k hlt)
      have hx := at_fits Hwf.out hlt
      clear hcell
      generalize zs.getD k 0 = x at *
      have hge := adv_ge s m x
      have hm' := adv_fits (s := s) HM.out hx
      have hms' := adv_fit2 (t := x) HS.out
      have hl1 := lv_self HS.out hs1
      have hl2 := lv_later HS.out hge
      have hE := addE_in HS.out
      have hV := addV_in HS.out
      have hd1 : g = true → lv s (adv s m x) t = false := fun h => (dead_mono (HG.out h) hge).2
      have hd2 : g = true → dead s (adv s m x) t := fun h => dead_mono (HG.out h) hge
      have hd3 : lv s m t = true → lv s (adv s m x) t = false → dead s (adv s m x) t := fun h1 h2 => dead_new h1 hge h2
      generalize hm2 : adv s m x = m' at *
      clear HG
      have Hm2 := Lib.hid hm2; clear hm2
      have D1 := Lib.hid hd1; have D2 := Lib.hid hd2; have D3 := Lib.hid hd3
      have HM' := Lib.hid hm'; have HS' := Lib.hid hms'
      clear hd1 hd2 hd3 hm' hms'
      generalize hq : lv s m t = q at *
      generalize hr : lv s m' t = r at *
      have Hq := Lib.hid hq; have Hr := Lib.hid hr; clear hq hr
      go_wp2_with fail
      refine (now_any _ s m _ HBk.out hs1).mono ?_; rintro e w1 ⟨rfl, rfl⟩
      go_wp2_with fail
      refine (expiry_any _ s m m _ HBk.out hs1 hs2 HM.out).mono ?_; rintro e w1 ⟨rfl, rfl⟩
      go_wp2_with fail
      refine (live_any _ s m m _ HBk.out hs1 hs2 HM.out).mono ?_; rintro e w1 ⟨rfl, rfl⟩
      go_wp2_with fail
      refine (advance_any _ s m x _ HBk.out hs1 hs2 hx).mono ?_; rintro e w2 ⟨rfl, b2, t2⟩
      have B2 := Lib.hid (show w2.heap[w.heap.size]? = some (clk s m') from by rw [← Hm2.out]; exact b2)
      have T2 := Lib.hid (HB.out.trans (t2.below (Nat.le_trans (Nat.le_of_lt_succ (Nat.lt_succ_of_le HB.out.size)) (Nat.le_refl _)) (fun k hk => by omega)))
      clear b2 t2 hc hE hV
      go_wp2_with fail
      refine (live_any _ s m' m _ B2.out hs1 hs2 HM.out).mono ?_; rintro e w1 ⟨rfl, rfl⟩
      go_wp2_with fail
      refine (now_any _ s m' _ B2.out hs1).mono ?_; rintro e w1 ⟨rfl, rfl⟩
      go_wp2_with fail
      refine (live_any _ s m' t _ B2.out hs1 hs2 ht).mono ?_; rintro e w1 ⟨rfl, rfl⟩
      rw [Hr.out]
      cases g
      · cases q
        · go_wp2
          go_roundw
          case rel => exact ⟨k + 1, m', false, by omega, by go_num, by rw [Hr.out], rfl, (fun h => by cases h), HM'.out, HS'.out, B2.out, T2.out⟩
          case measure => simp [intOf]; omega
        · cases r
          · go_wp2
            go_roundw
            case rel => exact ⟨k + 1, m', true, by omega, by go_num, by rw [Hr.out], rfl, (fun _ => D3.out (by trivial) (by trivial)), HM'.out, HS'.out, B2.out, T2.out⟩
            case measure => simp [intOf]; omega
          · go_wp2
            go_roundw
            case rel => exact ⟨k + 1, m', false, by omega, by go_num, by rw [Hr.out], rfl, (fun h => by cases h), HM'.out, HS'.out, B2.out, T2.out⟩
            case measure => simp [intOf]; omega
      · have hr0 : r = false := D1.out rfl
        subst hr0
        cases q
        all_goals
          go_wp2
          go_roundw
          case rel => exact ⟨k + 1, m', true, by omega, by go_num, by rw [Hr.out], rfl, (fun _ => D2.out (by trivial)), HM'.out, HS'.out, B2.out, T2.out⟩
          case measure => simp [intOf]; omega
    · go_wp2_with (go_at_call 17; refine (works_any _).mono ?_; rintro e w3 ⟨rfl, b3⟩)
      go_ret
      exact ⟨rfl, HB.out.trans (Below.mono ‹_› HB.out.size)⟩

theorem adv_self {s n : Int} (_h : fits (n + s)) : Hid (adv s n n = n) := Lib.hid (by unfold adv; split <;> rfl)
theorem chk_self {s n : Int} (h : fits (n + s)) : chk s n n = 0 := by simp [chk, addE, h]

def RiseRel (B : Nat) (s : Int) (len : Nat) (w : World) (vm vi : Value) (wr : World) : Prop :=
  ∃ (k : Nat) (m : Int), k ≤ len ∧ vi = .int .i64 k ∧ vm = .int .i64 m ∧ fits m ∧ fits (m + s) ∧ wr.heap[B]? = some (clk s m) ∧ Below B w wr

set_option maxHeartbeats 2000000 in
theorem rises_walk (n : Int) (a : Option Addr) (len cap : Nat) (zs : List Int) (w : World) (hn : fits n) (hz : IsInts .i64 w a len cap zs) :
    Calls Try.prog 7 #[.int .i64 n, .slice a len cap] w fun e w' => e = .returned (.bool true) ∧ Below w.heap.size w w' := by
  obtain ⟨hlen, hle, hmax, hat, hwf⟩ := hz
  have Hat := Lib.hid hat; clear hat
  have Hwf := Lib.hid hwf; clear hwf
  subst hlen
  unfold maxLen at hmax
  have hs1 := spn_pos n
  have hs2 := spn_fits n hn
  by_cases h200 : 200 < zs.length
  · go_enter Try.func7, Try.ntmps7
    go_wp2_with (go_at_call 17; refine (works_any _).mono ?_; rintro e w3 ⟨rfl, b3⟩)
    go_ret
    exact ⟨rfl, ‹_›⟩
  go_enter Try.func7, Try.ntmps7
  go_wp2_with (first | (go_at_call 12; refine (span_any n _ hn).mono ?_; rintro e w1 ⟨rfl, rfl⟩) | (go_at_call 11; refine (new_yes _ _ hs1).mono ?_; rintro e w1 ⟨rfl, rfl⟩) | (go_at_call 16; refine (now_any _ (spn n) 0 _ (block_new w (clk (spn n) 0)) hs1).mono ?_; rintro e w1 ⟨rfl, rfl⟩) | (go_at_call 20; refine (window_any _ (spn n) 0 _ (block_new w (clk (spn n) 0)) hs1).mono ?_; rintro e w1 ⟨rfl, rfl⟩))
  generalize spn n = s at *
  have T0 := Lib.hid (Below.alloc (Below.refl w.heap.size w) (Nat.le_refl _) (clk s 0))
  have B0 := Lib.hid (block_new w (clk s 0))
  go_loopw [7, 8] (fun vm vi wr => RiseRel w.heap.size s zs.length w vm vi wr) (fun _ vi _ => zs.length - (intOf vi).toNat)
  case atStart => exact ⟨0, 0, Nat.zero_le _, rfl, rfl, by decide, by simpa using hs2, B0.out, T0.out⟩
  case round =>
    obtain ⟨k, m, hk, rfl, rfl, hm, hms, hb, hB⟩ := hrel
    have HM := Lib.hid hm; clear hm
    have hself := chk_self hms
    have HS := Lib.hid hms; clear hms
    have HBk := Lib.hid hb; clear hb
    have HB := Lib.hid hB; clear hB
    by_cases hlt : k < zs.length
    · obtain ⟨b, off, rfl, hbl, hcell⟩ := Hat.out (by intro h; simp [h] at hlt)
      have hc : wr.cell? ⟨b, off + k, none⟩ = some (.int .i64 (zs.getD k 0)) := (HB.out.cell (p := ⟨b, off + k, none⟩) hbl).trans (hcell k hlt)
      have hx := at_fits Hwf.out hlt
      have HC0 := Lib.hid (hcell k hlt)
      clear hcell
      generalize zs.getD k 0 = x at *
      by_cases h1 : x < m
      · have hC : chk s m x = 10 := chk_lt h1
        have Hm2 := Lib.hid (show adv s m x = m by simp [adv, hC])
        go_wp2_with fail
        refine (check_any _ s m x _ HBk.out hs1 hs2 hx).mono ?_; rintro e w1 ⟨rfl, rfl⟩
        go_wp2_with fail
        refine (advance_any _ s m x _ HBk.out hs1 hs2 hx).mono ?_; rintro e w2 ⟨rfl, b2, t2⟩
        have B2 := Lib.hid (show w2.heap[w.heap.size]? = some (clk s m) from by rw [← Hm2.out]; exact b2)
        have T2 := Lib.hid (HB.out.trans (t2.below HB.out.size (fun k hk => by omega)))
        clear b2 t2 hc
        have hc2 := (T2.out.cell (p := ⟨b, off + k, none⟩) hbl).trans HC0.out
        go_wp2_with fail
        refine (now_any _ s m _ B2.out hs1).mono ?_; rintro e w1 ⟨rfl, rfl⟩
        go_wp2_with fail
        refine (check_any _ s m m _ B2.out hs1 hs2 HM.out).mono ?_; rintro e w1 ⟨rfl, rfl⟩
        go_wp2_with fail
        refine (advance_any _ s m m _ B2.out hs1 hs2 HM.out).mono ?_; rintro e w3 ⟨rfl, b3, t3⟩
        have B3 := Lib.hid (show w3.heap[w.heap.size]? = some (clk s m) from by rw [← (adv_self (HS.out)).out]; exact b3)
        have T3 := Lib.hid (T2.out.trans (t3.below T2.out.size (fun k hk => by omega)))
        clear b3 t3
        go_wp2_with fail
        refine (now_any _ s m _ B3.out hs1).mono ?_; rintro e w1 ⟨rfl, rfl⟩
        go_wp2
        go_roundw
        case rel => exact ⟨k + 1, m, by omega, by go_num, rfl, HM.out, HS.out, B3.out, T3.out⟩
        case measure => simp [intOf]; omega
      · by_cases h2 : fits (x + s)
        · have hC : chk s m x = 0 := by rw [chk_ge (by omega), addE_in h2]
          have Hm2 := Lib.hid (show adv s m x = x by simp [adv, hC])
          have hself2 := chk_self h2
          have HX := Lib.hid hx
          have HXS := Lib.hid h2
          clear h2
          go_wp2_with fail
          refine (check_any _ s m x _ HBk.out hs1 hs2 hx).mono ?_; rintro e w1 ⟨rfl, rfl⟩
          go_wp2_with fail
          refine (advance_any _ s m x _ HBk.out hs1 hs2 hx).mono ?_; rintro e w2 ⟨rfl, b2, t2⟩
          have B2 := Lib.hid (show w2.heap[w.heap.size]? = some (clk s x) from by rw [← Hm2.out]; exact b2)
          have T2 := Lib.hid (HB.out.trans (t2.below HB.out.size (fun k hk => by omega)))
          clear b2 t2 hc
          have hc2 := (T2.out.cell (p := ⟨b, off + k, none⟩) hbl).trans HC0.out
          go_wp2_with fail
          refine (now_any _ s x _ B2.out hs1).mono ?_; rintro e w1 ⟨rfl, rfl⟩
          go_wp2_with fail
          refine (check_any _ s x x _ B2.out hs1 hs2 HX.out).mono ?_; rintro e w1 ⟨rfl, rfl⟩
          go_wp2_with fail
          refine (advance_any _ s x x _ B2.out hs1 hs2 HX.out).mono ?_; rintro e w3 ⟨rfl, b3, t3⟩
          have B3 := Lib.hid (show w3.heap[w.heap.size]? = some (clk s x) from by rw [← (adv_self (HXS.out)).out]; exact b3)
          have T3 := Lib.hid (T2.out.trans (t3.below T2.out.size (fun k hk => by omega)))
          clear b3 t3
          go_wp2_with fail
          refine (now_any _ s x _ B3.out hs1).mono ?_; rintro e w1 ⟨rfl, rfl⟩
          go_wp2
          go_roundw
          case rel => exact ⟨k + 1, x, by omega, by go_num, rfl, HX.out, HXS.out, B3.out, T3.out⟩
          case measure => simp [intOf]; omega
        · have hC : chk s m x = 7 := by rw [chk_ge (by omega), addE_over h2]
          have Hm2 := Lib.hid (show adv s m x = m by simp [adv, hC])
          clear h2
          go_wp2_with fail
          refine (check_any _ s m x _ HBk.out hs1 hs2 hx).mono ?_; rintro e w1 ⟨rfl, rfl⟩
          go_wp2_with fail
          refine (advance_any _ s m x _ HBk.out hs1 hs2 hx).mono ?_; rintro e w2 ⟨rfl, b2, t2⟩
          have B2 := Lib.hid (show w2.heap[w.heap.size]? = some (clk s m) from by rw [← Hm2.out]; exact b2)
          have T2 := Lib.hid (HB.out.trans (t2.below HB.out.size (fun k hk => by omega)))
          clear b2 t2 hc
          have hc2 := (T2.out.cell (p := ⟨b, off + k, none⟩) hbl).trans HC0.out
          go_wp2_with fail
          refine (now_any _ s m _ B2.out hs1).mono ?_; rintro e w1 ⟨rfl, rfl⟩
          go_wp2_with fail
          refine (check_any _ s m m _ B2.out hs1 hs2 HM.out).mono ?_; rintro e w1 ⟨rfl, rfl⟩
          go_wp2_with fail
          refine (advance_any _ s m m _ B2.out hs1 hs2 HM.out).mono ?_; rintro e w3 ⟨rfl, b3, t3⟩
          have B3 := Lib.hid (show w3.heap[w.heap.size]? = some (clk s m) from by rw [← (adv_self (HS.out)).out]; exact b3)
          have T3 := Lib.hid (T2.out.trans (t3.below T2.out.size (fun k hk => by omega)))
          clear b3 t3
          go_wp2_with fail
          refine (now_any _ s m _ B3.out hs1).mono ?_; rintro e w1 ⟨rfl, rfl⟩
          go_wp2
          go_roundw
          case rel => exact ⟨k + 1, m, by omega, by go_num, rfl, HM.out, HS.out, B3.out, T3.out⟩
          case measure => simp [intOf]; omega
    · go_wp2_with (go_at_call 17; refine (works_any _).mono ?_; rintro e w3 ⟨rfl, b3⟩)
      go_ret
      exact ⟨rfl, HB.out.trans (Below.mono ‹_› HB.out.size)⟩

theorem expires_law (n t : Int) (a : Option Addr) (len cap : Nat) (zs : List Int) (w : World) (h0 : (Lit.int .i64 n).wf = true) (h1 : (Lit.int .i64 t).wf = true) (hz : IsInts .i64 w a len cap zs) :
    Calls Try.prog 4 #[.int .i64 n, .int .i64 t, .slice a len cap] w fun e w' => e = .returned (.bool true) ∧ Below w.heap.size w w' :=
  expires_walk n t a len cap zs w (fits_wf h0) (fits_wf h1) hz
theorem rises_law (n : Int) (a : Option Addr) (len cap : Nat) (zs : List Int) (w : World) (h0 : (Lit.int .i64 n).wf = true) (hz : IsInts .i64 w a len cap zs) :
    Calls Try.prog 7 #[.int .i64 n, .slice a len cap] w fun e w' => e = .returned (.bool true) ∧ Below w.heap.size w w' :=
  rises_walk n a len cap zs w (fits_wf h0) hz
end Go.Proofs.Ytbmlkanonmooeaa

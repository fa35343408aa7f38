/- Unrank of the document; the errors of Unrank. -/
import Derived.Test.YtejleobpohpdpaaDoorM
namespace Go.Proofs.YtejleobpohpdpaaDoor
open Go.ChangeShapes Go.WideShapes Go.ChangeAt Go.RowKit

theorem erase_snoc {L : List Nat} {k q : Nat} (hk : k < L.length) : (L.take (k + 1)).eraseIdx q = if k = q then (L.take k).eraseIdx q else (L.take k).eraseIdx q ++ [L.getD k 0] := by
  by_cases e : k = q
  · rw [if_pos e]
    subst e
    rw [nat_take_snoc hk, List.eraseIdx_append_of_length_le (by simp; omega)]
    rw [List.eraseIdx_of_length_le (l := L.take k) (by simp; omega)]
    simp [show min k L.length = k by omega]
  · rw [if_neg e]
    rw [nat_take_snoc hk]
    rcases Nat.lt_or_ge q k with h | h
    · rw [List.eraseIdx_append_of_lt_length (by simp; omega)]
    · rw [List.eraseIdx_of_length_le (l := L.take k) (by simp; omega), List.eraseIdx_of_length_le (by simp; omega)]
def WoRel (w : World) (L : List Nat) (q : Nat) (vo vi : Value) (wr : World) : Prop :=
  ∃ k : Nat, k ≤ L.length ∧ vi = .int .i64 k ∧ OutR 1 (encK .i64) 3 wr w.heap.size vo (ns ((L.take k).eraseIdx q)) ∧ Below w.heap.size w wr
set_option maxHeartbeats 2000000 in
theorem without_ok {L : List Nat} (hl : L.length ≤ 16384) {q : Nat} (hq : q < L.length) {w : World} {aa : Option Addr} {la ca : Nat} (h : IsK .i64 w aa la ca (ns L)) :
    Calls Tryd.prog 37 #[.slice aa la ca, .int .i64 (q : Int)] w fun e w' => ∃ v, e = .returned v ∧ OutR 1 (encK .i64) 3 w' w.heap.size v (ns (L.eraseIdx q)) ∧ Below w.heap.size w w' := by
  have hal := h.hlen; have hac := h.hle; have ham := h.hmax
  rw [ns_len] at hal
  unfold maxLen at ham
  have H := Lib.hid h; have HAL := Lib.hid hal
  obtain ⟨i0, hi, hz0, hz1, hz2⟩ := info_parts info3
  clear h hal
  go_enter Tryd.func37, Tryd.ntmps37
  go_wp2_with fail
  go_loopw [5, 6] (fun vo vi wr => WoRel w L q vo vi wr) (fun _ vi _ => la - (intOf vi).toNat)
  case atStart => exact ⟨0, Nat.zero_le _, rfl, ⟨World.ownsRow_nil _ _ _ _, fun g h => by cases h⟩, Below.refl _ _⟩
  case round =>
    obtain ⟨k, hk, rfl, ho, hbl⟩ := hrel
    have BL := Lib.hid hbl; have O := Lib.hid ho
    have hsz := hbl.size
    clear hbl ho
    by_cases hlt : k < la
    · have hkp : k < L.length := by have := HAL.out; omega
      obtain ⟨b, off, rfl, _, _⟩ := H.out.at_ (by intro h; have h1 := ns_len L; rw [h] at h1; simp at h1; omega)
      have x0 := (H.out.below BL.out).cellK (i := k) (by rw [ns_len]; exact hkp)
      rw [ns_get] at x0
      have hes := erase_snoc (q := q) hkp
      by_cases hkq : k = q
      · rw [if_pos hkq] at hes
        have HES := Lib.hid hes
        have hd : (((k : Nat) : Int) != ((q : Nat) : Int)) = false := by simp [bne, hkq]
        have hd2 : (((k : Nat) : Int) == ((q : Nat) : Int)) = true := by simp [hkq]
        clear hes hkq x0
        go_wp2_with fail
        go_roundw
        case rel => exact ⟨k + 1, by omega, by go_num, by rw [HES.out]; exact O.out, BL.out⟩
        case measure => simp [intOf]; omega
      · rw [if_neg hkq] at hes
        have HES := Lib.hid hes
        have hd : (((k : Nat) : Int) == ((q : Nat) : Int)) = false := by simp; omega
        have hd2 : (((k : Nat) : Int) != ((q : Nat) : Int)) = true := by simp [bne, hd]
        have hlen : (ns ((L.take k).eraseIdx q)).length ≤ 16384 := by
          rw [ns_len]
          have h1 := List.length_eraseIdx_le (L.take k) q
          have h2 := List.length_take_le' k L
          omega
        clear hes
        generalize L.getD k 0 = x at *
        go_wp2_with (at_builtin; refine wpList_app rfl (.tmp 16) (.tmp 21) 24 rfl 3 i0 .i64 8 Tryd.underlying24 hi hz0 hz1 hz2 (by decide) rfl O.out hsz (x : Int) rfl (by omega) ?_)
        intro v4 w4 h1 h2 h3 h4
        have O4 := Lib.hid h1; have B4 := Lib.hid (BL.out.trans h3)
        clear h1 h2 h3 h4 hlen
        go_wp2_with fail
        go_roundw
        case rel => exact ⟨k + 1, by omega, by go_num, by rw [HES.out, ← ns_app]; exact O4.out, B4.out⟩
        case measure => simp [intOf]; omega
    · have hkk : L.take k = L := List.take_of_length_le (by have := HAL.out; omega)
      have HF : Hid (OutR 1 (encK .i64) 3 wr w.heap.size u5 (ns (L.eraseIdx q))) := Lib.hid (by have := O.out; rw [hkk] at this; exact this)
      clear hkk
      go_wp2_with fail
      go_ret
      exact ⟨_, rfl, HF.out, BL.out⟩
def RUnRel (w : World) (n : Nat) (res : List Nat) (vr vl vp vi : Value) (wr : World) : Prop :=
  ∃ (k r : Nat) (L P : List Nat), k ≤ n ∧ vi = .int .i64 k ∧ vr = .int .u64 r ∧ r < fct (n - k) ∧ L.length = n - k ∧ P.length = k ∧ P ++ unr (n - k) L r = res ∧
    OutR 1 (encK .i64) 3 wr w.heap.size vl (ns L) ∧ OutR 1 (encK .i64) 3 wr w.heap.size vp (ns P) ∧ (∀ g, vl.ownBlock = some g → vp.ownBlock ≠ some g) ∧ Below w.heap.size w wr
set_option maxRecDepth 100000 in
set_option maxHeartbeats 8000000 in
theorem runr_ok {n r : Nat} (hn : n ≤ 20) (hr : r < fct n) (w : World) :
    Calls Tryd.prog 19 #[.int .i64 (n : Int), .int .u64 (r : Int)] w fun e w' => ∃ v, e = .returned (.tuple #[v, .int .i64 0]) ∧ OutR 1 (encK .i64) 3 w' w.heap.size v (ns (unr n (List.range n) r)) ∧ Below w.heap.size w w' := by
  have HI := Lib.hid (fun w => rident n (by omega) w)
  have HF1 := Lib.hid (fun w => rfct hn w)
  have HFK := Lib.hid (fun m (h : m ≤ 20) w => rfct h w)
  have hfs := fct_small hn
  have hrn : (r : Int) < (fct n : Int) := by omega
  obtain ⟨i0, hi, hz0, hz1, hz2⟩ := info_parts info3
  generalize hres : unr n (List.range n) r = res at *
  have HRES := Lib.hid hres
  have HRL := Lib.hid hr
  generalize hfn : fct n = fn at *
  have HFN := Lib.hid hfn
  clear hres hr hfn
  go_enter Tryd.func19, Tryd.ntmps19
  go_wp2_with fail
  refine (HF1.out _).mono ?_; rintro e w0 ⟨rfl, rfl⟩
  go_wp2_with fail
  refine (HI.out _).mono ?_; rintro e w1 ⟨v, rfl, ho, hb⟩
  have O1 := Lib.hid ho; have B1 := Lib.hid hb
  clear hb ho
  go_wp2_with fail
  go_loopw [1, 6, 7, 8, 9, 10] (fun vr vl vp vi _ _ wr => RUnRel w n res vr vl vp vi wr) (fun _ _ _ vi _ _ _ => n - (intOf vi).toNat)
  case atStart => exact ⟨0, r, List.range n, [], Nat.zero_le _, rfl, rfl, by rw [Nat.sub_zero]; exact HFN.out ▸ HRL.out, by simp, rfl, by simpa using HRES.out, O1.out, ⟨World.ownsRow_nil _ _ _ _, fun g h => by cases h⟩, fun g _ h => (by cases h), B1.out⟩
  case round =>
    clear O1 B1
    obtain ⟨k, r, L, P, hk, rfl, rfl, hr, hL, hP, hres, hol, ho, hdis, hbl⟩ := hrel
    have BL := Lib.hid hbl; have O := Lib.hid ho; have G := Lib.hid hol; have DI := Lib.hid hdis
    have hsz := hbl.size
    clear hbl ho hol hdis
    by_cases hlt : k < n
    · obtain ⟨a, cl, rfl, hsl⟩ := G.out.sl
      have hLn : (ns L).length = n - k := by rw [ns_len]; exact hL
      rw [hLn] at hsl G DI ⊢
      have hc1 := hsl.hle; have hc2 := hsl.hmax
      unfold maxLen at hc2
      obtain ⟨s1, s2, s3, s4⟩ := unr_step hlt hr hL hres
      have hfm := fct_pos (n - 1 - k)
      have hfm2 := fct_small (show n - 1 - k ≤ 20 by omega)
      have hr64 := fct_small (show n - k ≤ 20 by omega)
      have hix : (n : Int) - 1 - (k : Int) = ((n - 1 - k : Nat) : Int) := by omega
      have hml : n - 1 - k ≤ 20 := by omega
      have HF := Lib.hid (fun w => HFK.out _ hml w)
      have S4 := Lib.hid s4
      have S3 := Lib.hid s3
      obtain ⟨b, off, rfl, hbw, _⟩ := hsl.at_ (by intro h; rw [h] at hLn; simp at hLn; omega)
      have c1 := hsl.cellK (i := r / fct (n - 1 - k)) (by omega)
      rw [ns_get] at c1
      have HWO := Lib.hid (fun w' (h : IsK .i64 w' (some ⟨b, off, none⟩) (n - k) cl (ns L)) => without_ok (L := L) (by omega) (q := r / fct (n - 1 - k)) (by omega) h)
      have hdiv : (r : Int) / (fct (n - 1 - k) : Int) = ((r / fct (n - 1 - k) : Nat) : Int) := rfl
      have hmod : (r : Int) % (fct (n - 1 - k) : Int) = ((r % fct (n - 1 - k) : Nat) : Int) := rfl
      have hR0 : (r : Int) < (fct (n - k) : Int) := by omega
      have SL := Lib.hid hsl
      clear s4 s3 hres hsl
      generalize n - 1 - k = m at *
      generalize fct (n - k) = f0 at *
      generalize hfm' : fct m = fm at *
      have HFM := Lib.hid hfm'
      generalize r / fm = q at *
      generalize r % fm = r2 at *
      generalize L.getD q 0 = x at *
      have HL := Lib.hid hL; have HP := Lib.hid hP
      clear hL hP hfm' hLn
      have hr1 : (r : Int) ≤ 2432902008176640000 := by omega
      have hfm1 : (1 : Int) ≤ (fm : Int) := by omega
      have hfm3 : (fm : Int) ≤ 2432902008176640000 := by omega
      have hql : q < n - k := s1
      have hq20 : q ≤ 20 := by omega
      go_wp2_with fail
      refine (HF.out _).mono ?_; rintro e w6 ⟨rfl, rfl⟩
      go_wp2_with (at_builtin; refine wpList_app rfl (.tmp 42) (.tmp 47) 24 rfl 3 i0 .i64 8 Tryd.underlying24 hi hz0 hz1 hz2 (by decide) rfl O.out hsz (x : Int) rfl (by rw [ns_len]; have := HP.out; omega) ?_)
      intro v4 w4 h1 h2 h3 h4
      have O4 : Hid (OutR 1 (encK .i64) 3 w4 w.heap.size v4 (ns (P ++ [x]))) := Lib.hid (by rw [← ns_app]; exact h1)
      have SL4 := Lib.hid (SL.out.keep h2 (fun _ y hy e => by cases hy; exact DI.out b rfl e))
      have BL4 := Lib.hid (BL.out.trans h3)
      clear h1 h2 h3 h4 c1
      go_wp2_with fail
      refine (HWO.out _ SL4.out).mono ?_; rintro e w5 ⟨v5, rfl, ho5, hb⟩
      have BL5 := Lib.hid (BL4.out.trans (hb.mono BL4.out.size)); have O5 := Lib.hid (O4.out.below hb)
      have G5 : Hid (OutR 1 (encK .i64) 3 w5 w.heap.size v5 (ns (L.eraseIdx q))) := Lib.hid ⟨ho5.row, fun g hg => by have := ho5.blk g hg; have := BL4.out.size; omega⟩
      have D5 : Hid (∀ g, v5.ownBlock = some g → v4.ownBlock ≠ some g) := Lib.hid (fun g hg e => by have h1 := ho5.blk g hg; have h2 := own_lt O4.out.row e; omega)
      clear hb ho5
      go_wp2_with fail
      go_roundw
      case rel =>
        have hm : n - (k + 1) = m := by omega
        exact ⟨k + 1, r2, L.eraseIdx q, P ++ [x], by omega, by go_num, rfl, by rw [hm, HFM.out]; exact s2, S3.out, by simp [HP.out], S4.out, G5.out, O5.out, D5.out, BL5.out⟩
      case measure => simp [intOf]; omega
    · have hkn : k = n := by omega
      have hPr : P = res := by rw [← hres, hkn, Nat.sub_self, unr, List.append_nil]
      have HF : Hid (OutR 1 (encK .i64) 3 wr w.heap.size u7 (ns res)) := Lib.hid (by rw [← hPr]; exact O.out)
      clear hkn hPr hres hP hL hr
      go_wp2_with fail
      go_ret2
      exact ⟨_, rfl, HF.out, BL.out⟩
theorem punr_arg {n : Int} (h : n < 0 ∨ 16384 < n) (hw : (Lit.int .i64 n).wf = true) (r : Int) (w : World) :
    Calls Tryd.prog 18 #[.int .i64 n, .int .u64 r] w fun e w' => e = .returned (.tuple #[.slice none 0 0, .int .i64 2]) ∧ w = w' := by
  have hb := bounds_i64 hw
  rcases h with h | h
  · go_enter Tryd.func18, Tryd.ntmps18
    go_wp2_with fail
    go_ret2
    exact ⟨rfl, rfl⟩
  · have h' : ¬ n < 0 := by omega
    go_enter Tryd.func18, Tryd.ntmps18
    go_wp2_with fail
    go_ret2
    exact ⟨rfl, rfl⟩
theorem punr_long {n : Nat} (h : 20 < n) (h2 : n ≤ 16384) (r : Int) (w : World) :
    Calls Tryd.prog 18 #[.int .i64 (n : Int), .int .u64 r] w fun e w' => e = .returned (.tuple #[.slice none 0 0, .int .i64 16]) ∧ w = w' := by
  go_enter Tryd.func18, Tryd.ntmps18
  go_wp2_with fail
  go_ret2
  exact ⟨rfl, rfl⟩
theorem punr_range {n r : Nat} (hn : n ≤ 20) (hr : fct n ≤ r) {w : World} (ht : Tab w) :
    Calls Tryd.prog 18 #[.int .i64 (n : Int), .int .u64 (r : Int)] w fun e w' => e = .returned (.tuple #[.slice none 0 0, .int .i64 3]) ∧ w = w' := by
  have c0 := ht n hn
  clear ht
  have hrn : (fct n : Int) ≤ (r : Int) := by omega
  generalize fct n = fn at *
  go_enter Tryd.func18, Tryd.ntmps18
  go_wp2_with fail
  go_ret2
  exact ⟨rfl, rfl⟩
theorem runr_arg {n : Int} (h : n < 0 ∨ 16384 < n) (hw : (Lit.int .i64 n).wf = true) (r : Int) (w : World) :
    Calls Tryd.prog 19 #[.int .i64 n, .int .u64 r] w fun e w' => e = .returned (.tuple #[.slice none 0 0, .int .i64 2]) ∧ w = w' := by
  have hb := bounds_i64 hw
  rcases h with h | h
  · go_enter Tryd.func19, Tryd.ntmps19
    go_wp2_with fail
    go_ret2
    exact ⟨rfl, rfl⟩
  · have h' : ¬ n < 0 := by omega
    go_enter Tryd.func19, Tryd.ntmps19
    go_wp2_with fail
    go_ret2
    exact ⟨rfl, rfl⟩
theorem runr_long {n : Nat} (h : 20 < n) (h2 : n ≤ 16384) (r : Int) (w : World) :
    Calls Tryd.prog 19 #[.int .i64 (n : Int), .int .u64 r] w fun e w' => e = .returned (.tuple #[.slice none 0 0, .int .i64 16]) ∧ w = w' := by
  go_enter Tryd.func19, Tryd.ntmps19
  go_wp2_with fail
  go_ret2
  exact ⟨rfl, rfl⟩
theorem runr_range {n r : Nat} (hn : n ≤ 20) (hr : fct n ≤ r) (w : World) :
    Calls Tryd.prog 19 #[.int .i64 (n : Int), .int .u64 (r : Int)] w fun e w' => e = .returned (.tuple #[.slice none 0 0, .int .i64 3]) ∧ w = w' := by
  have HF1 := Lib.hid (fun w => rfct hn w)
  have hrn : (fct n : Int) ≤ (r : Int) := by omega
  generalize fct n = fn at *
  go_enter Tryd.func19, Tryd.ntmps19
  go_wp2_with fail
  refine (HF1.out _).mono ?_; rintro e w0 ⟨rfl, rfl⟩
  go_wp2_with fail
  go_ret2
  exact ⟨rfl, rfl⟩
end Go.Proofs.YtejleobpohpdpaaDoor

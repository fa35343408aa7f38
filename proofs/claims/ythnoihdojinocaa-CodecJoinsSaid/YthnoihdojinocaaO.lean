/- Lists are written. -/
import Derived.Test.YthnoihdojinocaaN
namespace Go.Proofs.Ythnoihdojinocaa
open Go.ChangeShapes Go.WideShapes Go.ChangeAt Go.RowKit
set_option linter.unusedVariables false
set_option linter.unusedSimpArgs false

theorem ent76 : ∀ (args : Array Value) (w : World), (callFunc 76 args).run Try.prog w = .ok (.enter 76 args) w := enters_of Try.func76 (by kernel_rfl) rfl
theorem ent77 : ∀ (args : Array Value) (w : World), (callFunc 77 args).run Try.prog w = .ok (.enter 77 args) w := enters_of Try.func77 (by kernel_rfl) rfl
def WaRel (w0 : World) (B k : Nat) (pre : List Nat) (l : List Nat) (_v6 vi20 : Value) (wr : World) : Prop :=
  ∃ i : Nat, i ≤ l.length ∧ vi20 = .int .i64 i ∧ KW w0 B k (pre ++ (l.take i).flatMap vi) wr
theorem flat_take {l : List Nat} {i : Nat} (h : i < l.length) : (l.take (i + 1)).flatMap vi = (l.take i).flatMap vi ++ vi (l.getD i 0) := by
  rw [List.take_succ_eq_append_getElem h, List.flatMap_append]; simp [h]
set_option maxRecDepth 100000 in
set_option maxHeartbeats 4000000 in
theorem kw_all {w0 w : World} {B k : Nat} {zs : List Nat} {a : Option Addr} {n c : Nat} {l : List Nat} (h : KW w0 B k zs w) (hS : IsK .u64 w0 a n c (ns l)) (hab : l ≠ [] → ∀ x, a = some x → x.block < B) (hl : ∀ x ∈ l, x < 18446744073709551616) (hn : l.length ≤ 100000) (hz : zs.length ≤ 1000000) (hB : B ≤ w0.heap.size) :
    Calls Try.prog 79 #[.pointer (some ⟨k, 0, none⟩), .slice a n c, .func (.func 77) #[.pointer (some ⟨k, 0, none⟩)] #[]] w (KWp w0 B k (zs ++ encL vi l)) := by
  have hnl : n = l.length := by rw [hS.hlen, ns_len]
  have hle := hS.hle; have hmx := hS.hmax
  unfold maxLen at hmx
  obtain ⟨⟨v, h1, h2, h3⟩, h4, h5⟩ := h
  obtain ⟨av, cv, rfl⟩ := own_shape h2.row
  have k0 : w.cell? ⟨k, 0, none⟩ = some (.slice av (ns zs).length cv) := cell_of h1 0
  have P := Lib.hid (pau (w := w) (x := n) h2 (Nat.le_trans hB h4.size) (by omega) (by omega))
  have H1 := Lib.hid h1; have H3 := Lib.hid h3; have H4 := Lib.hid h4
  have e77 := ent77
  have HNL := Lib.hid hnl
  have HS := Lib.hid hS; have HLT := Lib.hid hl
  have hn2 : n ≤ 100000 := by omega
  have hvn := vi_len (x := n) (by omega)
  clear h1 h2 h3 h4 hnl hS hl
  go_enter Try.func79, Try.ntmps79
  go_wp2_with fail
  refine (P.out).mono ?_; rintro e w1 ⟨v1, rfl, hap⟩
  obtain ⟨a1, c1, rfl⟩ := own_shape hap.out.row
  obtain ⟨g1, g2⟩ := kw_next (w := w) (B := B) (k := k) (w0 := w0) H4.out h5 H1.out H3.out hap
  have G2 := Lib.hid g2
  have c0 : w1.cell? ⟨k, 0, none⟩ = some (.slice av (ns zs).length cv) := cell_of g1 0
  have f1 := free_of g1 0
  clear g1 g2 hap
  go_wp2_with fail
  have hnl := HNL.out
  go_loopw [6, 20] (fun v6 v20 wr => WaRel w0 B k (zs ++ vi n) l v6 v20 wr) (fun _ v20 _ => n - (intOf v20).toNat)
  case atStart => exact ⟨0, Nat.zero_le _, rfl, by simpa using G2.out⟩
  case round =>
    clear G2 c0 f1 k0
    obtain ⟨i, hi, rfl, hk⟩ := hrel
    have K := Lib.hid hk
    clear hk
    by_cases hlt : i < n
    · have hil : i < l.length := by omega
      have FT := Lib.hid (flat_take hil)
      obtain ⟨b, off, rfl, _, _⟩ := HS.out.at_ (by intro h; have h1 := ns_len l; rw [h, List.length_nil] at h1; omega)
      have x0 := HS.out.cellK (i := i) (by rw [ns_len]; exact hil)
      rw [ns_get] at x0
      have hbB := hab (by intro e; rw [e] at hil; simp at hil) _ rfl
      have hxl := HLT.out (l.getD i 0) (by simp [hil])
      have hfl := flat_le (g := vi) (l.take i) (fun x hx => vi_len (HLT.out x (List.mem_of_mem_take hx)))
      have hpl : (zs ++ vi n ++ (l.take i).flatMap vi).length ≤ 10000000 := by
        rw [List.length_append, List.length_append]
        have : (l.take i).length ≤ i := by simp; omega
        omega
      have P2 := Lib.hid (kw_u K.out x0 hbB hxl hpl hB)
      rw [List.append_assoc, ← FT.out] at P2
      clear x0 hpl hfl hxl hnl
      go_wp2_with fail
      refine (P2.out).mono ?_; rintro e w5 ⟨rfl, hk5⟩
      have K5 := Lib.hid hk5
      clear hk5
      go_wp2_with fail
      go_roundw
      case rel => exact ⟨i + 1, by omega, by go_num, K5.out⟩
      case measure => simp [intOf]; omega
    · have KF : Hid (KW w0 B k (zs ++ encL vi l) wr) := Lib.hid (by
        have := K.out
        rw [List.take_of_length_le (by omega), List.append_assoc, hnl] at this
        exact this)
      clear hnl
      go_wp2_with fail
      go_end0
      exact ⟨rfl, KF.out⟩
def WbRel (w0 : World) (B k : Nat) (pre : List Nat) (l : List Int) (_v6 vi20 : Value) (wr : World) : Prop :=
  ∃ i : Nat, i ≤ l.length ∧ vi20 = .int .i64 i ∧ KW w0 B k (pre ++ (l.take i).flatMap vf) wr
theorem flat_takf {l : List Int} {i : Nat} (h : i < l.length) : (l.take (i + 1)).flatMap vf = (l.take i).flatMap vf ++ vf (l.getD i 0) := by
  rw [List.take_succ_eq_append_getElem h, List.flatMap_append]; simp [h]
set_option maxRecDepth 100000 in
set_option maxHeartbeats 4000000 in
theorem kw_alls {w0 w : World} {B k : Nat} {zs : List Nat} {a : Option Addr} {n c : Nat} {l : List Int} (h : KW w0 B k zs w) (hS : IsK .i64 w0 a n c l) (hab : l ≠ [] → ∀ x, a = some x → x.block < B) (hl : ∀ x ∈ l, -9223372036854775808 ≤ x ∧ x ≤ 9223372036854775807) (hn : l.length ≤ 100000) (hz : zs.length ≤ 1000000) (hB : B ≤ w0.heap.size) :
    Calls Try.prog 78 #[.pointer (some ⟨k, 0, none⟩), .slice a n c, .func (.func 76) #[.pointer (some ⟨k, 0, none⟩)] #[]] w (KWp w0 B k (zs ++ encL vf l)) := by
  have hnl : n = l.length := hS.hlen
  have hle := hS.hle; have hmx := hS.hmax
  unfold maxLen at hmx
  obtain ⟨⟨v, h1, h2, h3⟩, h4, h5⟩ := h
  obtain ⟨av, cv, rfl⟩ := own_shape h2.row
  have k0 : w.cell? ⟨k, 0, none⟩ = some (.slice av (ns zs).length cv) := cell_of h1 0
  have P := Lib.hid (pau (w := w) (x := n) h2 (Nat.le_trans hB h4.size) (by omega) (by omega))
  have H1 := Lib.hid h1; have H3 := Lib.hid h3; have H4 := Lib.hid h4
  have e76 := ent76
  have HNL := Lib.hid hnl
  have HS := Lib.hid hS; have HLT := Lib.hid hl
  have hn2 : n ≤ 100000 := by omega
  have hvn := vi_len (x := n) (by omega)
  clear h1 h2 h3 h4 hnl hS hl
  go_enter Try.func78, Try.ntmps78
  go_wp2_with fail
  refine (P.out).mono ?_; rintro e w1 ⟨v1, rfl, hap⟩
  obtain ⟨a1, c1, rfl⟩ := own_shape hap.out.row
  obtain ⟨g1, g2⟩ := kw_next (w := w) (B := B) (k := k) (w0 := w0) H4.out h5 H1.out H3.out hap
  have G2 := Lib.hid g2
  have c0 : w1.cell? ⟨k, 0, none⟩ = some (.slice av (ns zs).length cv) := cell_of g1 0
  have f1 := free_of g1 0
  clear g1 g2 hap
  go_wp2_with fail
  have hnl := HNL.out
  go_loopw [6, 20] (fun v6 v20 wr => WbRel w0 B k (zs ++ vi n) l v6 v20 wr) (fun _ v20 _ => n - (intOf v20).toNat)
  case atStart => exact ⟨0, Nat.zero_le _, rfl, by simpa using G2.out⟩
  case round =>
    clear G2 c0 f1 k0
    obtain ⟨i, hi, rfl, hk⟩ := hrel
    have K := Lib.hid hk
    clear hk
    by_cases hlt : i < n
    · have hil : i < l.length := by omega
      have FT := Lib.hid (flat_takf hil)
      obtain ⟨b, off, rfl, _, _⟩ := HS.out.at_ (by intro h; rw [h] at hil; simp at hil)
      have x0 := HS.out.cellK (i := i) hil
      have hbB := hab (by intro e; rw [e] at hil; simp at hil) _ rfl
      have hxl := HLT.out (l.getD i 0) (by simp [hil])
      have hfl := flat_le (g := vf) (l.take i) (fun x hx => vi_len (fold_lt (HLT.out x (List.mem_of_mem_take hx))))
      have hpl : (zs ++ vi n ++ (l.take i).flatMap vf).length ≤ 10000000 := by
        rw [List.length_append, List.length_append]
        have : (l.take i).length ≤ i := by simp; omega
        omega
      have P2 := Lib.hid (kw_s K.out x0 hbB hxl hpl hB)
      rw [List.append_assoc, ← FT.out] at P2
      clear x0 hpl hfl hxl hnl
      go_wp2_with fail
      refine (P2.out).mono ?_; rintro e w5 ⟨rfl, hk5⟩
      have K5 := Lib.hid hk5
      clear hk5
      go_wp2_with fail
      go_roundw
      case rel => exact ⟨i + 1, by omega, by go_num, K5.out⟩
      case measure => simp [intOf]; omega
    · have KF : Hid (KW w0 B k (zs ++ encL vf l) wr) := Lib.hid (by
        have := K.out
        rw [List.take_of_length_le (by omega), List.append_assoc, hnl] at this
        exact this)
      clear hnl
      go_wp2_with fail
      go_end0
      exact ⟨rfl, KF.out⟩
end Go.Proofs.Ythnoihdojinocaa

/- check, ordered, Sort, Sorted, Inversions of the program. -/
import Derived.Test.YtmholiddejgccaaG
namespace Go.Proofs.Ytmholiddejgccaa
open Go.ChangeShapes Go.WideShapes Go.ChangeAt Go.RowKit

/-- The error of a key and a length. -/
def errK (k : Int) (n : Int) : Int := if 1 ≤ k ∧ k ≤ 3 then (if n ≤ 65536 then 0 else 16) else 2
theorem errK_ok {k n : Int} (hk : kn k) (hn : n ≤ 65536) : errK k n = 0 := by unfold errK; rw [if_pos (show 1 ≤ k ∧ k ≤ 3 from hk), if_pos hn]
theorem errK_key {k n : Int} (hk : ¬ kn k) : errK k n = 2 := by unfold errK; rw [if_neg (show ¬ (1 ≤ k ∧ k ≤ 3) from hk)]
theorem errK_long {k n : Int} (hk : kn k) (hn : ¬ n ≤ 65536) : errK k n = 16 := by unfold errK; rw [if_pos (show 1 ≤ k ∧ k ≤ 3 from hk), if_neg hn]
theorem errK_cases {k n : Int} : (kn k ∧ n ≤ 65536 ∧ errK k n = 0) ∨ (¬ (kn k ∧ n ≤ 65536) ∧ (errK k n == 0) = false ∧ (errK k n != 0) = true) := by
  by_cases hk : kn k
  · by_cases hn : n ≤ 65536
    · exact Or.inl ⟨hk, hn, errK_ok hk hn⟩
    · exact Or.inr ⟨fun h => hn h.2, by rw [errK_long hk hn]; decide, by rw [errK_long hk hn]; decide⟩
  · exact Or.inr ⟨fun h => hk h.1, by rw [errK_key hk]; decide, by rw [errK_key hk]; decide⟩
theorem pcheck_ok {k n : Int} (hk : kn k) (hn : n ≤ 65536) (w : World) : Calls Try.prog 32 #[.int .i64 k, .int .i64 n] w fun e w' => e = .returned (.tuple #[.func (.func (fnK k)) #[] #[], .int .i64 0]) ∧ w = w' := by
  have HB := Lib.hid (fun w => before_yes hk w)
  clear hk
  generalize fnK k = f at *
  go_enter Try.func32, Try.ntmps32
  go_wp2_with (go_at_call 29; refine (HB.out _).mono ?_; rintro e w' ⟨rfl, rfl⟩)
  go_ret2
  exact ⟨rfl, rfl⟩
theorem pcheck_no {k n : Int} (h : ¬ (kn k ∧ n ≤ 65536)) (w : World) : Calls Try.prog 32 #[.int .i64 k, .int .i64 n] w fun e w' => e = .returned (.tuple #[.nilFunc, .int .i64 (errK k n)]) ∧ w = w' := by
  by_cases hk : kn k
  · have hn : ¬ n ≤ 65536 := fun hn => h ⟨hk, hn⟩
    rw [errK_long hk hn]
    have HB := Lib.hid (fun w => before_yes hk w)
    have hn' : 65536 < n := by omega
    clear hk h hn
    generalize fnK k = f at *
    go_enter Try.func32, Try.ntmps32
    go_wp2_with (go_at_call 29; refine (HB.out _).mono ?_; rintro e w' ⟨rfl, rfl⟩)
    go_ret2
    exact ⟨rfl, rfl⟩
  · rw [errK_key hk]
    have HB := Lib.hid (fun w => before_no hk w)
    clear hk h
    go_enter Try.func32, Try.ntmps32
    go_wp2_with (go_at_call 29; refine (HB.out _).mono ?_; rintro e w' ⟨rfl, rfl⟩)
    go_ret2
    exact ⟨rfl, rfl⟩
theorem rcheck_ok {k n : Int} (hk : kn k) (hn : n ≤ 65536) (w : World) : Calls Try.prog 36 #[.int .i64 n, .int .i64 k] w fun e w' => e = .returned (.int .i64 0) ∧ w = w' := by
  have HB := Lib.hid (fun w => known_yes hk w)
  clear hk
  go_enter Try.func36, Try.ntmps36
  go_wp2_with (go_at_call 30; refine (HB.out _).mono ?_; rintro e w' ⟨rfl, rfl⟩)
  go_ret
  exact ⟨rfl, rfl⟩
theorem rcheck_no {k n : Int} (h : ¬ (kn k ∧ n ≤ 65536)) (w : World) : Calls Try.prog 36 #[.int .i64 n, .int .i64 k] w fun e w' => e = .returned (.int .i64 (errK k n)) ∧ w = w' := by
  by_cases hk : kn k
  · have hn : ¬ n ≤ 65536 := fun hn => h ⟨hk, hn⟩
    rw [errK_long hk hn]
    have HB := Lib.hid (fun w => known_yes hk w)
    have hn' : 65536 < n := by omega
    clear hk h hn
    go_enter Try.func36, Try.ntmps36
    go_wp2_with (go_at_call 30; refine (HB.out _).mono ?_; rintro e w' ⟨rfl, rfl⟩)
    go_ret
    exact ⟨rfl, rfl⟩
  · rw [errK_key hk]
    have HB := Lib.hid (fun w => known_no hk w)
    clear hk h
    go_enter Try.func36, Try.ntmps36
    go_wp2_with (go_at_call 30; refine (HB.out _).mono ?_; rintro e w' ⟨rfl, rfl⟩)
    go_ret
    exact ⟨rfl, rfl⟩
theorem HLk {k : Int} (hk : kn k) : ∀ (W : World) (x y : Rc), Calls Try.prog (fnK k) (#[x.agg, y.agg] ++ #[]) W fun e w' => e = .returned (.bool (ltK k x y)) ∧ Below W.heap.size W w' := fun W x y => lessK hk x y W

section
variable {w : World} {aa : Option Addr} {la ca : Nat} {zs : List Rc}
theorem sort_yes {k : Int} (hk : kn k) (h : IsSl 4 encR w aa la ca zs) (hl : la ≤ 65536) :
    Calls Try.prog 16 #[.slice aa la ca, .int .i64 k] w fun e w' => ∃ v', e = .returned (.tuple #[v', .int .i64 0]) ∧ OutR 4 encR 24 w' w.heap.size v' (arr (ltK k) zs) ∧ Below w.heap.size w w' := by
  have HC := Lib.hid (fun w => pcheck_ok hk (n := la) (by omega) w)
  have AR := Lib.hid (arrangeR (entK hk) (fun W _ x y => HLk hk W x y) (Nat.le_refl _) la w aa la ca zs rfl hl (Below.refl w.heap.size w) h)
  have hc := h.hle; have hm := h.hmax
  unfold maxLen at hm
  clear hk h
  generalize fnK k = f at *
  generalize arr (ltK k) zs = res at *
  go_enter Try.func16, Try.ntmps16
  go_wp2_with fail
  refine (HC.out _).mono ?_; rintro e w' ⟨rfl, rfl⟩
  go_wp2_with fail
  refine (AR.out).mono ?_; rintro e w1 ⟨v', rfl, ho, hb⟩
  have O1 := Lib.hid ho; have B1 := Lib.hid hb
  clear ho hb
  go_wp2_with fail
  go_ret2
  exact ⟨v', rfl, O1.out, B1.out⟩
theorem sort_no {k : Int} (hk : ¬ (kn k ∧ (la : Int) ≤ 65536)) (hm : la ≤ 9223372036854775807) :
    Calls Try.prog 16 #[.slice aa la ca, .int .i64 k] w fun e w' => e = .returned (.tuple #[.slice none 0 0, .int .i64 (errK k la)]) ∧ w = w' := by
  have HC := Lib.hid (fun w => pcheck_no hk w)
  have he := (errK_cases (k := k) (n := la)).resolve_left (fun h => hk ⟨h.1, h.2.1⟩)
  obtain ⟨_, e1, e2⟩ := he
  clear hk
  generalize errK k la = er at *
  go_enter Try.func16, Try.ntmps16
  go_wp2_with fail
  refine (HC.out _).mono ?_; rintro e w' ⟨rfl, rfl⟩
  go_wp2_with fail
  go_ret2
  exact ⟨rfl, rfl⟩
theorem inv_yes {k : Int} (hk : kn k) (h : IsSl 4 encR w aa la ca zs) (hl : la ≤ 65536) :
    Calls Try.prog 23 #[.slice aa la ca, .int .i64 k] w fun e w' => e = .returned (.tuple #[.int .i64 (inv (ltK k) zs : Nat), .int .i64 0]) ∧ Below w.heap.size w w' := by
  have HC := Lib.hid (fun w => pcheck_ok hk (n := la) (by omega) w)
  have AR := Lib.hid (arrangeR (entK hk) (fun W _ x y => HLk hk W x y) (Nat.le_refl _) la w aa la ca zs rfl hl (Below.refl w.heap.size w) h)
  rw [arrN_eq (swoK k)] at AR
  have hc := h.hle; have hm := h.hmax
  unfold maxLen at hm
  clear hk h
  generalize fnK k = f at *
  generalize inv (ltK k) zs = res at *
  go_enter Try.func23, Try.ntmps23
  go_wp2_with fail
  refine (HC.out _).mono ?_; rintro e w' ⟨rfl, rfl⟩
  go_wp2_with fail
  refine (AR.out).mono ?_; rintro e w1 ⟨v', rfl, ho, hb⟩
  have B1 := Lib.hid hb
  clear ho hb
  go_wp2_with fail
  go_ret2
  exact ⟨rfl, B1.out⟩
theorem inv_no {k : Int} (hk : ¬ (kn k ∧ (la : Int) ≤ 65536)) (hm : la ≤ 9223372036854775807) :
    Calls Try.prog 23 #[.slice aa la ca, .int .i64 k] w fun e w' => e = .returned (.tuple #[.int .i64 0, .int .i64 (errK k la)]) ∧ w = w' := by
  have HC := Lib.hid (fun w => pcheck_no hk w)
  have he := (errK_cases (k := k) (n := la)).resolve_left (fun h => hk ⟨h.1, h.2.1⟩)
  obtain ⟨_, e1, e2⟩ := he
  clear hk
  generalize errK k la = er at *
  go_enter Try.func23, Try.ntmps23
  go_wp2_with fail
  refine (HC.out _).mono ?_; rintro e w' ⟨rfl, rfl⟩
  go_wp2_with fail
  go_ret2
  exact ⟨rfl, rfl⟩
/-- The cells of a record in a slice. -/
theorem at4 {b off : Nat} (h : IsSl 4 encR w (some ⟨b, off, none⟩) la ca zs) {i : Nat} (hi : i < zs.length) (d : Rc) :
    w.cell? ⟨b, off + i * 4, none⟩ = some (.int .u64 (zs.getD i d).u) ∧ w.cell? ⟨b, off + i * 4 + 1, none⟩ = some (.int .u64 (zs.getD i d).v) ∧ w.cell? ⟨b, off + i * 4 + 2, none⟩ = some (.int .i64 (zs.getD i d).w) ∧ w.cell? ⟨b, off + i * 4 + 3, none⟩ = some (.int .i64 (zs.getD i d).t) := by
  obtain ⟨b', off', e, _, hc⟩ := h.at_ (fun e => by rw [e] at hi; simp at hi)
  cases e
  have eg : zs.getD i d = zs[i] := by simp [hi]
  rw [eg]
  exact ⟨(hc i hi 0 (by decide)), (hc i hi 1 (by decide)), (hc i hi 2 (by decide)), (hc i hi 3 (by decide))⟩
def d0 : Rc := ⟨0, 0, 0, 0⟩
def OrdRel (w : World) (lt : Rc → Rc → Bool) (zs : List Rc) (vi : Value) (wr : World) : Prop :=
  ∃ k : Nat, 1 ≤ k ∧ (k ≤ zs.length ∨ zs.length = 0 ∧ k = 1) ∧ vi = .int .i64 k ∧ (∀ i, i + 1 < k → lt (zs.getD (i + 1) d0) (zs.getD i d0) = false) ∧ Below w.heap.size w wr
set_option maxHeartbeats 2000000 in
theorem ordered_any {k : Int} (hk : kn k) (h : IsSl 4 encR w aa la ca zs) :
    Calls Try.prog 37 #[.slice aa la ca, .func (.func (fnK k)) #[] #[]] w fun e w' => e = .returned (.bool (inv (ltK k) zs == 0)) ∧ Below w.heap.size w w' := by
  have hent := entK hk
  have HL := Lib.hid (fun W x y => lessK hk x y W)
  have hS := swoK k
  have HS := Lib.hid hS
  have hal := h.hlen; have hac := h.hle; have ham := h.hmax
  unfold maxLen at ham
  have H := Lib.hid h
  clear hk h hS
  generalize fnK k = f at *
  generalize ltK k = lt at *
  have HAL := Lib.hid hal
  clear hal
  go_enter Try.func37, Try.ntmps37
  go_wp2_with fail
  go_loopw [4, 5] (fun _ vi wr => OrdRel w lt zs vi wr) (fun _ vi _ => la + 1 - (intOf vi).toNat)
  case atStart => exact ⟨1, Nat.le_refl _, by omega, rfl, fun i hi => by omega, Below.refl _ _⟩
  case round =>
    obtain ⟨j, hj1, hj2, rfl, hor, hbl⟩ := hrel
    have BL := Lib.hid hbl; have OR := Lib.hid hor
    clear hbl hor
    by_cases hlt : j < la
    · obtain ⟨b, off, rfl, hbw, _⟩ := H.out.at_ (by intro h; have := HAL.out; rw [h] at this; simp at this; omega)
      have HW := Lib.hid (H.out.below BL.out)
      have hjl : j < zs.length := by have := HAL.out; omega
      obtain ⟨q, rfl⟩ : ∃ q, j = q + 1 := ⟨j - 1, by omega⟩
      obtain ⟨x0, x1, x2, x3⟩ := at4 HW.out hjl d0
      obtain ⟨y0, y1, y2, y3⟩ := at4 HW.out (show q < zs.length by omega) d0
      have hq1 : IntKind.i64.wrap ((q : Int) + 1 - 1) = (q : Int) := by rw [show (q : Int) + 1 - 1 = q by omega]; exact IntWalk.i64_in _ (by omega)
      have hq1' : IntKind.i64.wrap (q : Int) = (q : Int) := IntWalk.i64_in _ (by omega)
      have hq2 : (0 : Int) ≤ (q : Int) := by omega
      have hq3 : (q : Int) < (la : Int) := by omega
      have hq4 : (q : Int) + 1 < (la : Int) := by omega
      have hq5 : (0 : Int) ≤ (q : Int) + 1 := by omega
      have hq6 : ((q : Int) + 1).toNat = q + 1 := by omega
      cases hl : lt (zs.getD (q + 1) d0) (zs.getD q d0)
      · have CL := Lib.hid (fun W => HL.out W (zs.getD (q + 1) d0) (zs.getD q d0))
        rw [hl] at CL
        have HLT := Lib.hid hl
        have hor2 : ∀ i, i + 1 < q + 1 + 1 → lt (zs.getD (i + 1) d0) (zs.getD i d0) = false := fun i hi => by
          by_cases e : i = q
          · subst e; exact hl
          · exact OR.out i (by omega)
        have OR2 := Lib.hid hor2
        clear hl hor2
        generalize zs.getD (q + 1) d0 = x at *
        generalize zs.getD q d0 = y at *
        go_wp2_with fail
        go_still_tail 10, (by kernel_rfl)
        go_wp2_with fail
        refine (CL.out _).mono ?_; rintro e w3 ⟨rfl, hb⟩
        have BL3 := Lib.hid ((Below.drew BL.out).trans (hb.mono BL.out.size))
        clear hb x0 x1 x2 x3 y0 y1 y2 y3
        go_wp2_with fail
        go_roundw
        case rel => exact ⟨q + 1 + 1, by omega, by omega, by go_num, OR2.out, BL3.out⟩
        case measure => simp [intOf]; omega
      · have CL := Lib.hid (fun W => HL.out W (zs.getD (q + 1) d0) (zs.getD q d0))
        rw [hl] at CL
        have hres : (inv lt zs == 0) = false := by
          have : ¬ inv lt zs = 0 := fun e => by
            have := srt_at (inv_zero.1 e) d0 (show q < q + 1 by omega) hjl
            rw [hl] at this; cases this
          simpa using this
        have HR := Lib.hid hres
        clear hl hres
        generalize zs.getD (q + 1) d0 = x at *
        generalize zs.getD q d0 = y at *
        go_wp2_with fail
        go_still_tail 10, (by kernel_rfl)
        go_wp2_with fail
        refine (CL.out _).mono ?_; rintro e w3 ⟨rfl, hb⟩
        have BL3 := Lib.hid ((Below.drew BL.out).trans (hb.mono BL.out.size))
        clear hb x0 x1 x2 x3 y0 y1 y2 y3
        go_wp2_with fail
        go_ret
        exact ⟨by rw [HR.out]; rfl, BL3.out⟩
    · have hres : (inv lt zs == 0) = true := by
        have : inv lt zs = 0 := inv_zero.2 (srt_next HS.out d0 (fun i hi => OR.out i (by have := HAL.out; omega)))
        simpa using this
      have HR := Lib.hid hres
      clear hres
      go_wp2_with fail
      go_ret
      exact ⟨by rw [HR.out]; rfl, BL.out⟩
theorem sorted_yes {k : Int} (hk : kn k) (h : IsSl 4 encR w aa la ca zs) (hl : la ≤ 65536) :
    Calls Try.prog 21 #[.slice aa la ca, .int .i64 k] w fun e w' => e = .returned (.tuple #[.bool (inv (ltK k) zs == 0), .int .i64 0]) ∧ Below w.heap.size w w' := by
  have HC := Lib.hid (fun w => pcheck_ok hk (n := la) (by omega) w)
  have AR := Lib.hid (ordered_any hk h)
  have hc := h.hle; have hm := h.hmax
  unfold maxLen at hm
  clear hk h
  generalize fnK k = f at *
  generalize (inv (ltK k) zs == 0) = res at *
  go_enter Try.func21, Try.ntmps21
  go_wp2_with fail
  refine (HC.out _).mono ?_; rintro e w' ⟨rfl, rfl⟩
  go_wp2_with fail
  refine (AR.out).mono ?_; rintro e w1 ⟨rfl, hb⟩
  have B1 := Lib.hid hb
  clear hb
  go_wp2_with fail
  go_ret2
  exact ⟨rfl, B1.out⟩
theorem sorted_no {k : Int} (hk : ¬ (kn k ∧ (la : Int) ≤ 65536)) (hm : la ≤ 9223372036854775807) :
    Calls Try.prog 21 #[.slice aa la ca, .int .i64 k] w fun e w' => e = .returned (.tuple #[.bool false, .int .i64 (errK k la)]) ∧ w = w' := by
  have HC := Lib.hid (fun w => pcheck_no hk w)
  have he := (errK_cases (k := k) (n := la)).resolve_left (fun h => hk ⟨h.1, h.2.1⟩)
  obtain ⟨_, e1, e2⟩ := he
  clear hk
  generalize errK k la = er at *
  go_enter Try.func21, Try.ntmps21
  go_wp2_with fail
  refine (HC.out _).mono ?_; rintro e w' ⟨rfl, rfl⟩
  go_wp2_with fail
  go_ret2
  exact ⟨rfl, rfl⟩
end
/-! The document's Inversions and Sorted. -/
section
variable {w : World} {aa : Option Addr} {la ca : Nat} {zs : List Rc}
def RInvRel (w : World) (lt : Rc → Rc → Bool) (zs : List Rc) (vn vj : Value) (wr : World) : Prop :=
  ∃ j : Nat, j ≤ zs.length ∧ vj = .int .i64 j ∧ vn = .int .i64 (inv lt (zs.take j) : Nat) ∧ Below w.heap.size w wr
def RInvRel2 (w : World) (lt : Rc → Rc → Bool) (zs : List Rc) (j : Nat) (vn vi : Value) (wr : World) : Prop :=
  ∃ i : Nat, i ≤ j ∧ vi = .int .i64 i ∧ vn = .int .i64 (inv lt (zs.take j) + (zs.take i).countP (fun x => lt (zs.getD j d0) x) : Nat) ∧ Below w.heap.size w wr
theorem take_snoc {zs : List Rc} {j : Nat} (h : j < zs.length) : zs.take (j + 1) = zs.take j ++ [zs.getD j d0] := by
  rw [List.take_succ_eq_append_getElem h]; simp [h]
theorem inv_small {lt : Rc → Rc → Bool} {zs : List Rc} {j : Nat} (h : zs.length ≤ 65536) : inv lt (zs.take j) ≤ 4294967296 := by
  have h1 := inv_le (lt := lt) (zs.take j)
  have h2 : (zs.take j).length ≤ 65536 := by simp; omega
  have h3 : (zs.take j).length * (zs.take j).length ≤ 65536 * 65536 := Nat.mul_le_mul h2 h2
  omega
set_option maxRecDepth 100000 in
set_option maxHeartbeats 4000000 in
theorem rinv_yes {k : Int} (hk : kn k) (h : IsSl 4 encR w aa la ca zs) (hl : la ≤ 65536) :
    Calls Try.prog 24 #[.slice aa la ca, .int .i64 k] w fun e w' => e = .returned (.tuple #[.int .i64 (inv (ltK k) zs : Nat), .int .i64 0]) ∧ Below w.heap.size w w' := by
  have HC := Lib.hid (fun w => rcheck_ok hk (n := la) (by omega) w)
  have HL := Lib.hid (fun W x y => rbefore hk x y W)
  have hal := h.hlen; have hac := h.hle; have ham := h.hmax
  unfold maxLen at ham
  have H := Lib.hid h
  clear hk h
  generalize ltK k = lt at *
  have HAL := Lib.hid hal
  clear hal
  go_enter Try.func24, Try.ntmps24
  go_wp2_with fail
  refine (HC.out _).mono ?_; rintro e w' ⟨rfl, rfl⟩
  go_wp2_with fail
  go_loopw [7, 8, 9] (fun vn vj _ wr => RInvRel w lt zs vn vj wr) (fun _ vj _ _ => la - (intOf vj).toNat)
  case atStart => exact ⟨0, Nat.zero_le _, rfl, rfl, Below.refl _ _⟩
  case round =>
    obtain ⟨j, hj, rfl, rfl, hbl⟩ := hrel
    have BL := Lib.hid hbl
    clear hbl
    by_cases hlt : j < la
    · have hjl : j < zs.length := by have := HAL.out; omega
      obtain ⟨wo, rfl⟩ : ∃ wo : World, wo = wr := ⟨_, rfl⟩
      go_wp2_with fail
      go_loopw [7, 9] (fun vn vi wr => RInvRel2 w lt zs j vn vi wr) (fun _ vi _ => j - (intOf vi).toNat)
      case atStart => exact ⟨0, Nat.zero_le _, rfl, by simp, BL.out⟩
      case round =>
        obtain ⟨i, hi, rfl, rfl, hbl⟩ := hrel
        have BL2 := Lib.hid hbl
        clear hbl
        have hsm := inv_small (lt := lt) (zs := zs) (j := j) (by have := HAL.out; omega)
        have hcp : (zs.take i).countP (fun x => lt (zs.getD j d0) x) ≤ 65536 := by
          have h1 := List.countP_le_length (p := fun x => lt (zs.getD j d0) x) (l := zs.take i)
          simp at h1 ⊢; have := HAL.out; omega
        by_cases hij : i < j
        · obtain ⟨b, off, rfl, hbw, _⟩ := H.out.at_ (by intro h; have := HAL.out; rw [h] at this; simp at this; omega)
          have HW := Lib.hid (H.out.below BL2.out)
          obtain ⟨x0, x1, x2, x3⟩ := at4 HW.out hjl d0
          obtain ⟨y0, y1, y2, y3⟩ := at4 HW.out (show i < zs.length by omega) d0
          have hts := take_snoc (zs := zs) (j := i) (by omega)
          have hi2 : (i : Int) < (la : Int) := by omega
          have hcs : (zs.take (i + 1)).countP (fun x => lt (zs.getD j d0) x) = (zs.take i).countP (fun x => lt (zs.getD j d0) x) + if lt (zs.getD j d0) (zs.getD i d0) = true then 1 else 0 := by
            rw [hts, List.countP_append]; simp [List.countP_cons]
          have CL := Lib.hid (fun W => HL.out W (zs.getD j d0) (zs.getD i d0))
          cases hres : lt (zs.getD j d0) (zs.getD i d0)
          all_goals
            rw [hres] at CL hcs
            have HCS := Lib.hid hcs
            clear hcs hts hres
            generalize hn0 : inv lt (zs.take j) = n0 at *
            have HN0 := Lib.hid hn0
            clear hn0
            generalize hcc : (zs.take i).countP (fun x => lt (zs.getD j d0) x) = n1 at *
            have HCC := Lib.hid hcc
            clear hcc
            generalize hx : zs.getD j d0 = x at *
            generalize hy : zs.getD i d0 = y at *
            have HX := Lib.hid hx; have HY := Lib.hid hy
            clear hx hy
            go_wp2_with fail
            go_still_tail 9, (by kernel_rfl)
            go_wp2_with fail
            refine (CL.out _).mono ?_; rintro e w3 ⟨rfl, hb⟩
            have BL3 := Lib.hid ((Below.drew BL2.out).trans (hb.mono BL2.out.size))
            clear hb x0 x1 x2 x3 y0 y1 y2 y3
            go_wp2_with fail
            go_roundw
            case rel => exact ⟨i + 1, by omega, by go_num, by rw [HN0.out, HX.out, HCS.out]; go_num, BL3.out⟩
            case measure => simp [intOf]; omega
        · obtain rfl : i = j := by omega
          have hsn : inv lt (zs.take (i + 1)) = inv lt (zs.take i) + (zs.take i).countP (fun x => lt (zs.getD i d0) x) := by rw [take_snoc hjl, inv_snoc]
          have HSN := Lib.hid hsn
          clear hsn
          generalize inv lt (zs.take i) + (zs.take i).countP (fun x => lt (zs.getD i d0) x) = n2 at *
          go_wp2_with fail
          go_roundw
          case rel => exact ⟨i + 1, by omega, by go_num, by rw [HSN.out], BL2.out⟩
          case measure => simp [intOf]; omega
    · obtain rfl : j = zs.length := by have := HAL.out; omega
      rw [List.take_length] at *
      have hd : ¬ zs.length < la := hlt
      generalize hres : inv lt zs = res at *
      have HR := Lib.hid hres
      clear hres
      go_wp2_with fail
      go_ret2
      exact ⟨by rw [HR.out]; rfl, BL.out⟩
end
end Go.Proofs.Ytmholiddejgccaa

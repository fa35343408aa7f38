/- The law ShuffleCycles. -/
import Derived.Test.YtejleobpohpdpaaDoorR
namespace Go.Proofs.YtejleobpohpdpaaDoor
open Go.ChangeShapes Go.WideShapes Go.ChangeAt Go.RowKit

/-- What has been met: whole cycles, and a part of the next. -/
def fin (l : List (List Nat)) (k i : Nat) : List Nat := (l.take k).flatten ++ (l.getD k []).take i
theorem fin_0 (l : List (List Nat)) : fin l 0 0 = [] := by simp [fin]
theorem fin_step {l : List (List Nat)} {k i : Nat} (hi : i < (l.getD k []).length) : fin l k (i + 1) = fin l k i ++ [(l.getD k []).getD i 0] := by
  unfold fin
  rw [List.append_assoc, nat_take_snoc hi]
theorem fin_end {l : List (List Nat)} {k : Nat} (hk : k < l.length) : fin l k (l.getD k []).length = fin l (k + 1) 0 := by
  unfold fin
  rw [List.take_length, List.take_zero, List.append_nil, List.take_succ_eq_append_getElem hk, List.flatten_append]
  simp [hk]
theorem fin_all (l : List (List Nat)) : fin l l.length 0 = l.flatten := by simp [fin]
theorem fin_sub {l : List (List Nat)} {k i : Nat} (hk : k < l.length) : (fin l k i).Sublist l.flatten := by
  have e : l = l.take k ++ (l.getD k [] :: l.drop (k + 1)) := by
    conv => lhs; rw [← List.take_append_drop k l, List.drop_eq_getElem_cons hk]
    simp [hk]
  have e2 : l.flatten = (l.take k).flatten ++ (l.getD k [] ++ (l.drop (k + 1)).flatten) := by
    conv => lhs; rw [e]
    rw [List.flatten_append, List.flatten_cons]
  rw [e2]
  exact List.Sublist.append (List.Sublist.refl _) ((List.take_sublist _ _).trans (List.sublist_append_left _ _))
/-- The flags of what has been met. -/
structure Fl (n : Nat) (l : List (List Nat)) (k i : Nat) (G : List Bool) : Prop where
  len : G.length = n
  fl : ∀ y, y < n → (G.getD y true = true ↔ y ∈ fin l k i)
theorem Fl.start (n : Nat) (l : List (List Nat)) : Fl n l 0 0 (List.replicate n false) := ⟨by simp, fun y hy => by rw [fin_0, rep_get hy]; simp⟩
theorem Fl.free {n : Nat} {l : List (List Nat)} {k i : Nat} {G : List Bool} (h : Fl n l k i G) (hd : l.flatten.Nodup) (hk : k < l.length) (hi : i < (l.getD k []).length) (hx : (l.getD k []).getD i 0 < n) : G.getD ((l.getD k []).getD i 0) true = false := by
  cases hf : G.getD ((l.getD k []).getD i 0) true
  · rfl
  · have hm := (h.fl _ hx).1 hf
    have hn : (fin l k (i + 1)).Nodup := hd.sublist (fin_sub hk)
    rw [fin_step hi, List.nodup_append] at hn
    exact absurd rfl (hn.2.2 _ hm _ (by simp))
theorem Fl.next {n : Nat} {l : List (List Nat)} {k i : Nat} {G : List Bool} (h : Fl n l k i G) (hi : i < (l.getD k []).length) (hx : (l.getD k []).getD i 0 < n) : Fl n l k (i + 1) (G.set ((l.getD k []).getD i 0) true) := by
  refine ⟨by simp [h.len], fun y hy => ?_⟩
  rw [fin_step hi, flag_get (by rw [h.len]; exact hx), List.mem_append]
  by_cases e : y = (l.getD k []).getD i 0
  · rw [if_pos e]; simp [e]
  · rw [if_neg e, h.fl y hy, List.mem_singleton]
    exact ⟨Or.inl, fun hh => hh.elim id (fun h2 => absurd h2 e)⟩
theorem Fl.turn {n : Nat} {l : List (List Nat)} {k : Nat} {G : List Bool} (h : Fl n l k (l.getD k []).length G) (hk : k < l.length) : Fl n l (k + 1) 0 G :=
  ⟨h.len, fun y hy => by rw [h.fl y hy, fin_end hk]⟩
def CycRel (gs n : Nat) (l : List (List Nat)) (w : World) (vc vk : Value) (wr : World) : Prop :=
  ∃ (k : Nat) (G : List Bool), k ≤ l.length ∧ vk = .int .i64 k ∧ vc = .int .i64 (fin l k 0).length ∧ Fl n l k 0 G ∧ wr.heap[gs]? = some (.cells (bls G) 4 (0, 0)) ∧ Below gs w wr
def CycRel2 (gs n : Nat) (l : List (List Nat)) (w : World) (k : Nat) (vc vi : Value) (wr : World) : Prop :=
  ∃ (i : Nat) (G : List Bool), i ≤ (l.getD k []).length ∧ vi = .int .i64 i ∧ vc = .int .i64 (fin l k i).length ∧ Fl n l k i G ∧ wr.heap[gs]? = some (.cells (bls G) 4 (0, 0)) ∧ Below gs w wr
theorem up_heads {l : List (List Nat)} (h : l.Pairwise (fun c d => c.getD 0 0 < d.getD 0 0)) {k : Nat} (hk : k + 1 < l.length) : (l.getD k []).getD 0 0 < (l.getD (k + 1) []).getD 0 0 := by
  have := List.pairwise_iff_getElem.1 h k (k + 1) (by omega) hk (by omega)
  simpa [show k < l.length by omega, hk] using this
theorem cyc_get {p : List Nat} {l : List (List Nat)} (h : ∀ c ∈ l, Cy p c) {k : Nat} (hk : k < l.length) : Cy p (l.getD k []) := h _ (by simp [hk])
set_option maxRecDepth 100000 in
set_option maxHeartbeats 16000000 in
theorem cycles_law (s : Int) (aa : Option Addr) (la ca : Nat) (ds : List Int) (w : World) (ht : Tab w) (hs : (Lit.int .u8 s).wf = true) (h : IsInts .u64 w aa la ca ds) :
    Calls Tryd.prog 7 #[.int .u8 s, .slice aa la ca] w fun e w' => e = .returned (.bool true) ∧ Below w.heap.size w w' := by
  have HT := Lib.hid ht
  have hb' := bounds_u8 hs
  obtain ⟨s, rfl⟩ := Int.eq_ofNat_of_zero_le hb'.1
  have hs2 : s < 256 := by have := hb'.2; omega
  have DN := Lib.hid (drawn_any hs2 h)
  have hac := h.sl.hle; have ham := h.sl.hmax
  unfold maxLen at ham
  obtain ⟨hp, hl⟩ := dp_ok s ds
  have hm := Nat.mod_lt s (show 0 < 101 by decide)
  unfold DnPost at DN
  generalize dp s ds = p at *
  generalize s % 101 = n at *
  have hok := cycs_ok hp
  have hlen : (cycs p).flatten.length = n := by rw [(cycs_perm hp).length_eq, List.length_range, hl]
  have hll : (cycs p).length ≤ n := by
    rw [← hlen]
    have : ∀ (m : List (List Nat)), (∀ c ∈ m, c ≠ []) → m.length ≤ m.flatten.length := by
      intro m
      induction m with
      | nil => intro _; simp
      | cons c r ih =>
        intro hc
        have h1 := ih (fun d hd => hc d (List.mem_cons_of_mem _ hd))
        have h2 := List.length_pos_iff.2 (hc c (by simp))
        simp only [List.length_cons, List.flatten_cons, List.length_append]; omega
    exact this _ (fun c hc => (hok.each c hc).ne)
  have CC := Lib.hid (fun w a c (h : IsK .i64 w a n c (ns p)) => pcyc_ok hp (by omega) h)
  have CE := Lib.hid (fun k (hk : k < (cycs p).length) => cyc_get hok.each hk)
  have CU := Lib.hid (fun k (hk : k + 1 < (cycs p).length) => up_heads hok.up hk)
  have CN := Lib.hid hok.nd
  have HL := Lib.hid hlen
  have HPL := Lib.hid hl
  clear hok hlen h ht hs hb' hs2
  generalize cycs p = l at *
  obtain ⟨CI, hCI⟩ : ∃ C, C = madeCells #[Value.bool false] n := ⟨_, rfl⟩
  have m1 := make_b n (by omega)
  rw [← hCI] at m1
  have HCI := Lib.hid hCI
  have hnot : ∀ (x : Bool) (w : World), (Op.unary .not (.bool x)).run Tryd.prog w = .ok (.bool (!x)) w := fun _ _ => rfl
  clear hCI hl hp
  go_enter Tryd.func7, Tryd.ntmps7
  go_wp2_with fail
  refine (DN.out).mono ?_; rintro e w1 ⟨ap, cp, rfl, hs, hb⟩
  have B1 := Lib.hid hb
  have Sp := Lib.hid hs
  have hxp := hs.hle; have hyp := hs.hmax; unfold maxLen at hyp
  clear hs hb
  go_wp2_with fail
  refine (CC.out _ _ _ Sp.out).mono ?_; rintro e w2 ⟨vo, vals, rfl, ho, har, hb⟩
  obtain ⟨al, cl, rfl, hcys⟩ := cys_of ho har
  have Sp2 := Lib.hid (Sp.out.below hb)
  have B2 := Lib.hid (B1.out.trans (hb.mono B1.out.size))
  have C2 := Lib.hid hcys
  obtain ⟨-, hxl, hyl⟩ := hcys.bd
  unfold maxLen at hyl
  clear hb ho har hcys B1 Sp vals
  go_wp2_with fail
  obtain ⟨w3, hw3⟩ : ∃ W, W = w2.alloc (.cells CI 4) := ⟨_, rfl⟩
  have B3 : Hid (Below w2.heap.size w2 w3) := Lib.hid (by rw [hw3]; exact Below.alloc (Below.refl _ _) (Nat.le_refl _) _)
  have G3 : Hid (w3.heap[w2.heap.size]? = some (.cells (bls (List.replicate n false)) 4 (0, 0))) := Lib.hid (by rw [hw3, ← bls_0, ← HCI.out]; exact block_new _ _)
  have XW : Hid (∀ b i v wr, Below w2.heap.size w2 wr → w2.cell? ⟨b, i, none⟩ = some v → wr.cell? ⟨b, i, none⟩ = some v) := Lib.hid (fun b i v wr hb hv => by rw [(bcell hb).1 b i (lt_of_cell hv)]; exact hv)
  have BW := Lib.hid (fun wr (hb : Below w2.heap.size w2 wr) => B2.out.trans (hb.mono B2.out.size))
  rw [← hw3]
  clear hw3 m1 B2 HCI
  generalize w2.heap.size = gs at *
  go_loopw [10, 11, 12, 13] (fun vc vk v1 v2 wr => CycRel gs n l w2 vc vk wr) (fun _ vk _ _ _ => l.length - (intOf vk).toNat)
  case atStart => exact ⟨0, _, Nat.zero_le _, rfl, rfl, Fl.start n l, G3.out, B3.out⟩
  case round =>
    clear G3 B3
    obtain ⟨k, G, hk, rfl, rfl, hfl, hg, hbl⟩ := hrel
    have BL := Lib.hid hbl; have HG := Lib.hid hg; have FL := Lib.hid hfl
    clear hbl hg hfl
    by_cases hlt : k < l.length
    · obtain ⟨b, off, rfl⟩ := C2.out.adr (by intro h; rw [h] at hlt; simp at hlt)
      obtain ⟨bp, op, rfl, _, _⟩ := Sp2.out.at_ (by intro h; have h1 := ns_len p; rw [h, List.length_nil] at h1; have := HPL.out; omega)
      obtain ⟨ai, ci, x0, hrow⟩ := C2.out.at_ hlt
      have x0 := XW.out _ _ _ _ BL.out x0
      have CY := Lib.hid (CE.out k hlt)
      have hcl := List.length_pos_iff.2 CY.out.ne
      obtain ⟨b1, off1, rfl, _, _⟩ := hrow.at_ (by intro h; have h1 := ns_len (l.getD k []); rw [h, List.length_nil] at h1; omega)
      have RW : Hid (∀ i, i < (l.getD k []).length → ∀ wr, Below gs w2 wr → wr.cell? ⟨b1, off1 + i, none⟩ = some (.int .i64 ((l.getD k []).getD i 0 : Nat))) := Lib.hid (fun i hi wr hb => by
        have := hrow.cellK (i := i) (by rw [ns_len]; exact hi)
        rw [ns_get] at this
        exact XW.out _ _ _ _ hb this)
      have hxi := hrow.hle; have hyi := hrow.hmax; unfold maxLen at hyi
      clear hrow
      have x1 : wr.cell? ⟨b1, off1, none⟩ = some (.int .i64 ((l.getD k []).getD 0 0 : Nat)) := RW.out 0 hcl _ BL.out
      have hcnt : (fin l k 0).length ≤ n := by rw [← HL.out]; exact (fin_sub hlt).length_le
      generalize hcv : (fin l k 0).length = cnt at *
      have HCNT := Lib.hid hcv
      generalize hh0 : (l.getD k []).getD 0 0 = h0 at *
      have HH0 := Lib.hid hh0
      generalize hml : (l.getD k []).length = m at *
      have HML := Lib.hid hml
      clear hh0 hml hcv
      have hm0 : ((m : Int) == 0) = false := by simp; omega
      have hh0z : decide ((h0 : Int) < 0) = false := by simp
      by_cases hk0 : k = 0
      · subst hk0
        have x0' : wr.cell? ⟨b, off, none⟩ = some (.slice (some ⟨b1, off1, none⟩) m ci) := x0
        clear x0
        go_wp2_with fail
        go_quiet (fail)
        go_wp2_with fail
        go_loopw [10, 13] (fun vc vi wr => CycRel2 gs n l w2 0 vc vi wr) (fun _ vi _ => m - (intOf vi).toNat)
        case atStart => exact ⟨0, G, Nat.zero_le _, rfl, by rw [HCNT.out], FL.out, HG.out, below_drewN BL.out _⟩
        case round =>
          clear HG BL FL HCNT hcnt hm0
          clear G
          obtain ⟨i, G, hi, rfl, rfl, hfl, hg, hbl⟩ := hrel
          have BL := Lib.hid hbl; have HG := Lib.hid hg; have FL := Lib.hid hfl
          clear hbl hg hfl
          rw [HML.out] at hi
          by_cases hlt2 : i < m
          · have hX : (l.getD 0 []).getD i 0 < n := by rw [← HPL.out]; exact CY.out.lt i (by rw [HML.out]; exact hlt2)
            have hX2 : h0 ≤ (l.getD 0 []).getD i 0 := by rw [← HH0.out]; exact CY.out.le i (by rw [HML.out]; exact hlt2)
            have hnx := CY.out.nx i (by rw [HML.out]; exact hlt2)
            have hff := FL.out.free CN.out hlt (by rw [HML.out]; exact hlt2) hX
            have FN := Lib.hid (FL.out.next (by rw [HML.out]; exact hlt2) hX)
            have hr := Nat.mod_lt (i + 1) (show 0 < m by omega)
            have xi := RW.out i hlt2 _ BL.out
            have x1 : wr.cell? ⟨b1, off1, none⟩ = some (.int .i64 h0) := by rw [← HH0.out]; exact RW.out 0 (by omega) _ BL.out
            have xr := RW.out _ hr _ BL.out
            rw [HML.out] at hnx
            rw [← hnx] at xr
            have y0 := XW.out _ _ _ _ BL.out (Sp2.out.cellK (i := (l.getD 0 []).getD i 0) (by rw [ns_len, HPL.out]; exact hX))
            rw [ns_get] at y0
            have hcl2 : (fin l 0 (i + 1)).length ≤ n := by rw [← HL.out]; exact (fin_sub hlt).length_le
            rw [fin_step (by rw [HML.out]; exact hlt2), List.length_append, List.length_singleton] at hcl2
            have CN1 : Hid ((fin l 0 (i + 1)).length = (fin l 0 i).length + 1) := Lib.hid (by rw [fin_step (by rw [HML.out]; exact hlt2), List.length_append, List.length_singleton])
            generalize (fin l 0 i).length = cnt at *
            have hrm : ((i : Int) + 1) % (m : Int) = (((i + 1) % m : Nat) : Int) := by simp
            have hrt : Int.tmod ((i : Int) + 1) (m : Int) = (((i + 1) % m : Nat) : Int) := by rw [Int.tmod_eq_emod_of_nonneg (by omega)]; exact hrm
            generalize (i + 1) % m = r at *
            generalize p.getD ((l.getD 0 []).getD i 0) 0 = v at *
            generalize (l.getD 0 []).getD i 0 = X at *
            have cg : wr.cell? ⟨gs, X, none⟩ = some (.bool false) := by rw [cell_of HG.out, bls_cell (by rw [FL.out.len]; exact hX), hff]
            have fg := free_of HG.out X
            have hG4 := set_of HG.out X (.bool true)
            rw [bls_set] at hG4
            have HG4 := Lib.hid hG4
            have hm0 : ((m : Int) == 0) = false := by simp; omega
            have hd1 : decide (X < h0) = false := by simp; omega
            have hd2 : decide (n ≤ X) = false := by simp; omega
            have hw1 : IntKind.i64.wrap ((i : Int) + 1) = (i : Int) + 1 := IntWalk.i64_in _ (by omega)
            have BL4 : Hid (Below gs w2 (wr.setCell ⟨gs, X, none⟩ (.bool true))) := Lib.hid (BL.out.setCell (p := ⟨gs, X, none⟩) (Nat.le_refl gs) (.bool true))
            clear hff hG4 hnx
            go_wp2_with fail
            go_quiet (fail)
            go_wp2_with fail
            go_roundw
            case rel => exact ⟨i + 1, G.set X true, by rw [HML.out]; omega, by go_num, by rw [CN1.out]; go_num, FN.out, HG4.out, below_drewN BL4.out _⟩
            case measure => simp [intOf]; omega
          · obtain rfl : i = m := by omega
            have FT : Hid (Fl n l (0 + 1) 0 G) := Lib.hid (Fl.turn (by rw [HML.out]; exact FL.out) hlt)
            have CT : Hid ((fin l (0 + 1) 0).length = (fin l 0 i).length) := Lib.hid (by rw [← fin_end hlt, HML.out])
            generalize (fin l 0 i).length = cnt at *
            go_wp2_with fail
            go_roundw
            case rel => exact ⟨0 + 1, G, by omega, by go_num, by rw [CT.out], FT.out, HG.out, BL.out⟩
            case measure => simp [intOf]; omega
      · obtain ⟨k, rfl⟩ : ∃ k', k = k' + 1 := ⟨k - 1, by omega⟩
        obtain ⟨ap', cp', z0, hrow⟩ := C2.out.at_ (show k < l.length by omega)
        have z0 := XW.out _ _ _ _ BL.out z0
        have hcl' := List.length_pos_iff.2 (CE.out k (by omega)).ne
        obtain ⟨b2, off2, rfl, _, _⟩ := hrow.at_ (by intro h; have h1 := ns_len (l.getD k []); rw [h, List.length_nil] at h1; omega)
        have z1 : wr.cell? ⟨b2, off2, none⟩ = some (.int .i64 ((l.getD k []).getD 0 0 : Nat)) := XW.out _ _ _ _ BL.out (by
          have := hrow.cellK (i := 0) (by rw [ns_len]; exact hcl')
          rw [ns_get] at this; exact this)
        have hxi2 := hrow.hle; have hyi2 := hrow.hmax; unfold maxLen at hyi2
        clear hrow
        have hup := CU.out k hlt
        rw [HH0.out] at hup
        generalize (l.getD k []).getD 0 0 = h1 at *
        generalize (l.getD k []).length = m2 at *
        have hge : decide ((h0 : Int) ≤ (h1 : Int)) = false := by simp; omega
        go_wp2_with fail
        go_quiet (fail)
        go_wp2_with fail
        go_loopw [10, 13] (fun vc vi wr => CycRel2 gs n l w2 (k + 1) vc vi wr) (fun _ vi _ => m - (intOf vi).toNat)
        case atStart => exact ⟨0, G, Nat.zero_le _, rfl, by rw [HCNT.out], FL.out, HG.out, below_drewN BL.out _⟩
        case round =>
          clear HG BL FL HCNT hcnt hm0
          clear G
          obtain ⟨i, G, hi, rfl, rfl, hfl, hg, hbl⟩ := hrel
          have BL := Lib.hid hbl; have HG := Lib.hid hg; have FL := Lib.hid hfl
          clear hbl hg hfl
          rw [HML.out] at hi
          by_cases hlt2 : i < m
          · have hX : (l.getD (k + 1) []).getD i 0 < n := by rw [← HPL.out]; exact CY.out.lt i (by rw [HML.out]; exact hlt2)
            have hX2 : h0 ≤ (l.getD (k + 1) []).getD i 0 := by rw [← HH0.out]; exact CY.out.le i (by rw [HML.out]; exact hlt2)
            have hnx := CY.out.nx i (by rw [HML.out]; exact hlt2)
            have hff := FL.out.free CN.out hlt (by rw [HML.out]; exact hlt2) hX
            have FN := Lib.hid (FL.out.next (by rw [HML.out]; exact hlt2) hX)
            have hr := Nat.mod_lt (i + 1) (show 0 < m by omega)
            have xi := RW.out i hlt2 _ BL.out
            have x1 : wr.cell? ⟨b1, off1, none⟩ = some (.int .i64 h0) := by rw [← HH0.out]; exact RW.out 0 (by omega) _ BL.out
            have xr := RW.out _ hr _ BL.out
            rw [HML.out] at hnx
            rw [← hnx] at xr
            have y0 := XW.out _ _ _ _ BL.out (Sp2.out.cellK (i := (l.getD (k + 1) []).getD i 0) (by rw [ns_len, HPL.out]; exact hX))
            rw [ns_get] at y0
            have hcl2 : (fin l (k + 1) (i + 1)).length ≤ n := by rw [← HL.out]; exact (fin_sub hlt).length_le
            rw [fin_step (by rw [HML.out]; exact hlt2), List.length_append, List.length_singleton] at hcl2
            have CN1 : Hid ((fin l (k + 1) (i + 1)).length = (fin l (k + 1) i).length + 1) := Lib.hid (by rw [fin_step (by rw [HML.out]; exact hlt2), List.length_append, List.length_singleton])
            generalize (fin l (k + 1) i).length = cnt at *
            have hrm : ((i : Int) + 1) % (m : Int) = (((i + 1) % m : Nat) : Int) := by simp
            have hrt : Int.tmod ((i : Int) + 1) (m : Int) = (((i + 1) % m : Nat) : Int) := by rw [Int.tmod_eq_emod_of_nonneg (by omega)]; exact hrm
            generalize (i + 1) % m = r at *
            generalize p.getD ((l.getD (k + 1) []).getD i 0) 0 = v at *
            generalize (l.getD (k + 1) []).getD i 0 = X at *
            have cg : wr.cell? ⟨gs, X, none⟩ = some (.bool false) := by rw [cell_of HG.out, bls_cell (by rw [FL.out.len]; exact hX), hff]
            have fg := free_of HG.out X
            have hG4 := set_of HG.out X (.bool true)
            rw [bls_set] at hG4
            have HG4 := Lib.hid hG4
            have hm0 : ((m : Int) == 0) = false := by simp; omega
            have hd1 : decide (X < h0) = false := by simp; omega
            have hd2 : decide (n ≤ X) = false := by simp; omega
            have hw1 : IntKind.i64.wrap ((i : Int) + 1) = (i : Int) + 1 := IntWalk.i64_in _ (by omega)
            have BL4 : Hid (Below gs w2 (wr.setCell ⟨gs, X, none⟩ (.bool true))) := Lib.hid (BL.out.setCell (p := ⟨gs, X, none⟩) (Nat.le_refl gs) (.bool true))
            clear hff hG4 hnx
            go_wp2_with fail
            go_quiet (fail)
            go_wp2_with fail
            go_roundw
            case rel => exact ⟨i + 1, G.set X true, by rw [HML.out]; omega, by go_num, by rw [CN1.out]; go_num, FN.out, HG4.out, below_drewN BL4.out _⟩
            case measure => simp [intOf]; omega
          · obtain rfl : i = m := by omega
            have FT : Hid (Fl n l ((k + 1) + 1) 0 G) := Lib.hid (Fl.turn (by rw [HML.out]; exact FL.out) hlt)
            have CT : Hid ((fin l ((k + 1) + 1) 0).length = (fin l (k + 1) i).length) := Lib.hid (by rw [← fin_end hlt, HML.out])
            generalize (fin l (k + 1) i).length = cnt at *
            go_wp2_with fail
            go_roundw
            case rel => exact ⟨(k + 1) + 1, G, by omega, by go_num, by rw [CT.out], FT.out, HG.out, BL.out⟩
            case measure => simp [intOf]; omega
    · have hkk : k = l.length := by omega
      subst hkk
      have hfe : (fin l l.length 0).length = n := by rw [fin_all, HL.out]
      rw [hfe]
      go_wp2_with fail
      refine (works_any (HT.out.below (BW.out _ BL.out))).mono ?_; rintro e w9 ⟨rfl, hb⟩
      have B9 := Lib.hid ((BW.out _ BL.out).trans (hb.mono (BW.out _ BL.out).size))
      clear hb
      go_wp2_with fail
      go_ret
      exact ⟨rfl, B9.out⟩
end Go.Proofs.YtejleobpohpdpaaDoor

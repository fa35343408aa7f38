/- The walk of the law MsortStays. -/
import Derived.Test.YtmholiddejgccaaV
import Derived.StillTailTactics
import Derived.Deep.RegionWith
import Derived.Deep.RegionHeld3
namespace Go.Proofs.Ytmholiddejgccaa
open Go.ChangeShapes Go.WideShapes Go.ChangeAt Go.RowKit

theorem prmL_of {k : Int} {zs : List Rc} (hk : kn k) (hn : zs.length ≤ 65536) : prmL k zs = prm (ltK k) zs := by simp [prmL, okB_of hk hn]
theorem pperm_of {w : World} {aa : Option Addr} {la ca : Nat} {zs : List Rc} {k : Int} (hk : kn k) (h : IsSl 4 encR w aa la ca zs) (hl : la ≤ 65536) :
    Calls Try.prog 18 #[.slice aa la ca, .int .i64 k] w (SortPost 1 encN 3 0 (prm (ltK k) zs) w) := by
  have hal := h.hlen
  have := pperm (k := k) h
  rw [errK_ok hk (by omega), prmL_of hk (by omega)] at this
  exact this
theorem prm_at {lt : Rc → Rc → Bool} {zs : List Rc} {i : Nat} (hi : i < zs.length) : (prm lt zs).getD i 0 < zs.length ∧ (arr lt zs).getD i d0 = zs.getD ((prm lt zs).getD i 0) d0 := by
  have hl : i < (prm lt zs).length := by rw [prm_len]; exact hi
  constructor
  · have e : (prm lt zs).getD i 0 = (prm lt zs)[i] := by simp [hl]
    rw [e]
    exact prm_lt (List.getElem_mem hl)
  · rw [sortI]
    simp [hl]
theorem prm_next {lt : Rc → Rc → Bool} (h : SWO lt) {zs : List Rc} {i : Nat} (hi : i + 1 < zs.length) :
    lt ((arr lt zs).getD (i + 1) d0) ((arr lt zs).getD i d0) = false ∧ (lt ((arr lt zs).getD i d0) ((arr lt zs).getD (i + 1) d0) = false → (prm lt zs).getD i 0 < (prm lt zs).getD (i + 1) 0) := by
  have ho : (prm lt zs).Pairwise (ord (ltI lt zs)) := arr_ord (swoI h zs) List.pairwise_lt_range
  have hl : i + 1 < (prm lt zs).length := by rw [prm_len]; exact hi
  have hij := List.pairwise_iff_getElem.1 ho i (i + 1) (by omega) hl (by omega)
  rw [(prm_at (lt := lt) hi).2, (prm_at (lt := lt) (show i < zs.length by omega)).2]
  have e1 : (prm lt zs).getD i 0 = (prm lt zs)[i] := by simp [show i < (prm lt zs).length by omega]
  have e2 : (prm lt zs).getD (i + 1) 0 = (prm lt zs)[i + 1] := by simp [hl]
  rw [e1, e2]
  refine ⟨ord_le (swoI h zs) hij, fun hh => ?_⟩
  rcases hij with h1 | h1
  · exact absurd (h1.symm.trans hh) (by decide)
  · exact h1.2
theorem prm_new {lt : Rc → Rc → Bool} {zs : List Rc} {i : Nat} (hi : i < zs.length) : (prm lt zs).getD i 0 ∉ (prm lt zs).take i := by
  have hn : (prm lt zs).Nodup := (arr_perm _).nodup_iff.2 List.nodup_range
  have hl : i < (prm lt zs).length := by rw [prm_len]; exact hi
  have e : (prm lt zs).getD i 0 = (prm lt zs)[i] := by simp [hl]
  rw [e]
  intro hm
  obtain ⟨j, hj, he⟩ := List.mem_take_iff_getElem.1 hm
  exact (List.pairwise_iff_getElem.1 hn j i (by omega) hl (by omega)) he
theorem stay_set {G : List Bool} {ps : List Nat} {i p x : Nat} (hx : x < G.length) (hi : i < ps.length) (hp : ps.getD i 0 = p) (hpl : p < G.length) (h : G.getD x true = true ↔ x ∈ ps.take i) : (G.set p true).getD x true = true ↔ x ∈ ps.take (i + 1) := by
  have e : ps.take (i + 1) = ps.take i ++ [p] := by
    rw [List.take_add_one, ← hp]; simp [hi]
  rw [e, List.mem_append, List.mem_singleton, ← h]
  by_cases hxp : x = p
  · subst hxp; simp [hx]
  · simp [hx, List.getElem_set, Ne.symm hxp, hxp]
theorem keep8 {W W' : World} {b : Nat} {o1 o2 o3 o4 o5 o6 o7 o8 : Nat} {v1 v2 v3 v4 v5 v6 v7 v8 : Value} (hb : Below W.drew.heap.size W.drew W') (hl : b < W.heap.size)
    (h : W.cell? ⟨b, o1, none⟩ = some v1 ∧ W.cell? ⟨b, o2, none⟩ = some v2 ∧ W.cell? ⟨b, o3, none⟩ = some v3 ∧ W.cell? ⟨b, o4, none⟩ = some v4 ∧ W.cell? ⟨b, o5, none⟩ = some v5 ∧ W.cell? ⟨b, o6, none⟩ = some v6 ∧ W.cell? ⟨b, o7, none⟩ = some v7 ∧ W.cell? ⟨b, o8, none⟩ = some v8) :
    W'.cell? ⟨b, o1, none⟩ = some v1 ∧ W'.cell? ⟨b, o2, none⟩ = some v2 ∧ W'.cell? ⟨b, o3, none⟩ = some v3 ∧ W'.cell? ⟨b, o4, none⟩ = some v4 ∧ W'.cell? ⟨b, o5, none⟩ = some v5 ∧ W'.cell? ⟨b, o6, none⟩ = some v6 ∧ W'.cell? ⟨b, o7, none⟩ = some v7 ∧ W'.cell? ⟨b, o8, none⟩ = some v8 := by
  have e : ∀ o, W'.cell? ⟨b, o, none⟩ = W.cell? ⟨b, o, none⟩ := fun o => (bcell hb).1 b o hl
  simp only [e]
  exact h
def StayRel (w2 : World) (p : List Nat) (n : Nat) (vi : Value) (wr : World) : Prop :=
  ∃ (i : Nat) (G : List Bool), i ≤ n ∧ vi = .int .i64 i ∧ G.length = n ∧ (∀ x, x < n → (G.getD x true = true ↔ x ∈ p.take i)) ∧ wr.heap[w2.heap.size]? = some (.cells (bls G) 4 (0, 0)) ∧ Below w2.heap.size w2 wr
set_option maxRecDepth 100000 in
set_option maxHeartbeats 4000000 in
theorem stays_law (aa : Option Addr) (la ca : Nat) (zs : List Rc) (n : Int) (w : World) (h : IsSl 4 encR w aa la ca zs) (hn : (Lit.int .u8 n).wf = true) :
    Calls Try.prog 6 #[.slice aa la ca, .int .u8 n] w fun e w' => e = .returned (.bool true) ∧ Below w.heap.size w w' := by
  have hm := h.hmax; have hl := h.hle; unfold maxLen at hm
  have H := Lib.hid h
  have HAL := Lib.hid h.hlen
  have hn' := bounds_u8 hn
  obtain ⟨n, rfl⟩ := Int.eq_ofNat_of_zero_le hn'.1
  have hn2 : n < 256 := by have := hn'.2; omega
  by_cases h2 : 200 < la
  · clear h hn hn'
    go_enter Try.func6, Try.ntmps6
    go_wp2_with fail
    go_ret
    exact ⟨rfl, Below.refl _ _⟩
  have hla : la ≤ 65536 := by omega
  have HK := Lib.hid (thr_kn n)
  have TH := Lib.hid (fun w => thr_any hn2 w)
  have S1 := Lib.hid (fun w a c (h : IsSl 4 encR w a la c zs) => psort_of HK.out h hla)
  have P1 := Lib.hid (fun w a c (h : IsSl 4 encR w a la c zs) => pperm_of HK.out h hla)
  have LS := Lib.hid (fun x y w => pless_yes HK.out x y w)
  have hsl : (arr (ltK (thr n)) zs).length = la := by rw [arr_length]; exact h.hlen.symm
  have hpl : (prm (ltK (thr n)) zs).length = la := by rw [prm_len]; exact h.hlen.symm
  have F1 := Lib.hid (fun i (hi : i < zs.length) => prm_at (lt := ltK (thr n)) (zs := zs) hi)
  have F2 := Lib.hid (fun i (hi : i + 1 < zs.length) => prm_next (lt := ltK (thr n)) (swoK (thr n)) (zs := zs) hi)
  have F3 := Lib.hid (fun i (hi : i < zs.length) => prm_new (lt := ltK (thr n)) (zs := zs) hi)
  obtain ⟨CI, hCI⟩ : ∃ C, C = madeCells #[Value.bool false] la := ⟨_, rfl⟩
  have m1 : ∀ w, (Instr.makeSlice 44 (.int .i64 (la : Int)) (.int .i64 (la : Int))).run Try.prog w = .ok (.slice (some ⟨w.heap.size, 0, none⟩) la la) (w.alloc (.cells CI 4)) := by
    rw [hCI]; exact run_make_row' (P := Try.prog) 44 4 (.bool false) 1 Try.underlying44 info4 rfl .i64 .i64 la (by omega) (by omega)
  have HCI := Lib.hid hCI
  have HSL := Lib.hid hsl
  have HPL := Lib.hid hpl
  clear h hn hn' hCI hsl hpl HK
  generalize arr (ltK (thr n)) zs = ss at *
  generalize prm (ltK (thr n)) zs = ps at *
  generalize ltK (thr n) = lt at *
  generalize thr n = k at *
  go_enter Try.func6, Try.ntmps6
  go_wp2_with fail
  refine (TH.out _).mono ?_; rintro e w' ⟨rfl, rfl⟩
  go_wp2_with fail
  refine (S1.out _ _ _ H.out).mono ?_; rintro e w1 ⟨a1, c1, rfl, hs, -, hb⟩
  have H1 := Lib.hid (H.out.below hb); have X1 := Lib.hid hs; have B1 := Lib.hid hb
  have hsl := HSL.out
  rw [hsl] at X1
  rw [hsl]
  clear hs hb hsl
  go_wp2_with fail
  refine (P1.out _ _ _ H1.out).mono ?_; rintro e w2 ⟨a2, c2, rfl, hs, -, hb⟩
  have H2 := Lib.hid (H1.out.below hb); have X2 := Lib.hid (X1.out.below hb); have Y2 := Lib.hid hs; have B2 := Lib.hid (B1.out.trans (hb.mono B1.out.size))
  have hpl := HPL.out
  rw [hpl] at Y2
  rw [hpl]
  clear hs hb hpl
  have hc1 : c1 ≤ maxLen := X2.out.hmax
  have hc2 : la ≤ c1 := X2.out.hle
  have hd1 : c2 ≤ maxLen := Y2.out.hmax
  have hd2 : la ≤ c2 := Y2.out.hle
  unfold maxLen at hc1 hd1
  go_wp2_with fail
  go_loopw [11, 12, 13, 14, 15] (fun vi _ _ _ _ wr => StayRel w2 ps la vi wr) (fun vi _ _ _ _ _ => la - (intOf vi).toNat)
  case atStart =>
    have e := HCI.out
    subst e
    exact ⟨0, List.replicate la false, Nat.zero_le _, rfl, by simp, fun x hx => by simp [hx], by rw [bls_0]; exact block_new _ _, Below.alloc (Below.refl _ _) (Nat.le_refl _) _⟩
  case round =>
    clear m1
    obtain ⟨i, G, hi, rfl, hG, hgg, hg, hbl⟩ := hrel
    have HG := Lib.hid hg; have BL := Lib.hid hbl; have GL := Lib.hid hG; have GG := Lib.hid hgg
    clear hg hbl hG hgg
    by_cases hlt : i < la
    · have hil : i < zs.length := by have := HAL.out; omega
      have his : i < ss.length := by have := HSL.out; omega
      have hip : i < ps.length := by have := HPL.out; omega
      obtain ⟨hx1, hx2⟩ := F1.out i hil
      have hx3 : G.getD (ps.getD i 0) true = false := by
        have h3 := F3.out i hil
        have := (GG.out (ps.getD i 0) (by have := HAL.out; omega))
        cases hh : G.getD (ps.getD i 0) true
        · rfl
        · exact absurd (this.1 hh) h3
      obtain ⟨b, off, rfl, _, _⟩ := H2.out.at_ (by intro h; rw [h] at hil; simp at hil)
      obtain ⟨b', off', rfl, _, _⟩ := X2.out.at_ (by intro h; rw [h] at his; simp at his)
      obtain ⟨b3, off3, rfl, _, _⟩ := Y2.out.at_ (by intro h; rw [h] at hip; simp at hip)
      obtain ⟨x0, x1, x2, x3⟩ := at4 (X2.out.below BL.out) his d0
      obtain ⟨y0, y1, y2, y3⟩ := at4 (H2.out.below BL.out) hx1 d0
      have z0 := at1 (Y2.out.below BL.out) hip
      have cg : wr.cell? ⟨w2.heap.size, ps.getD i 0, none⟩ = some (.bool (G.getD (ps.getD i 0) true)) := by rw [cell_of HG.out, bls_cell (by have := GL.out; have := HAL.out; omega)]
      rw [hx3] at cg
      rw [← hx2] at y0 y1 y2 y3
      have HX2 := Lib.hid hx2
      have hxl : ps.getD i 0 < la := by have := HAL.out; omega
      clear hx1 hx2 hx3
      generalize hs : ss.getD i d0 = s at *
      generalize hp : ps.getD i 0 = p at *
      have HS := Lib.hid hs; have HP := Lib.hid hp
      clear hs hp
      have fg := free_of HG.out p
      have G2 : Hid (∀ x, x < la → ((G.set p true).getD x true = true ↔ x ∈ ps.take (i + 1))) := Lib.hid (fun x hx => stay_set (by have := GL.out; omega) hip HP.out (by have := GL.out; omega) (GG.out x hx))
      have hG4 := set_of HG.out p (.bool true)
      rw [bls_set] at hG4
      have HG4 := Lib.hid hG4
      clear hG4
      go_wp2_with fail
      go_quiet (fail)
      go_wp2_with fail
      · go_roundw
        case rel => exact ⟨i + 1, G.set p true, by omega, by go_num, by simp [GL.out], G2.out, HG4.out, (below_drewN BL.out _).setCell (p := ⟨w2.heap.size, p, none⟩) (Nat.le_refl _) (.bool true)⟩
        case measure => simp [intOf]; omega
      · have hb0 := ‹((i : Int) == 0) = false›
        have hi0 : i ≠ 0 := fun e => by rw [e] at hb0; simp at hb0
        have hzl := HAL.out; have hsl := HSL.out; have hpl := HPL.out
        obtain ⟨q, hq⟩ : ∃ q, i = q + 1 := ⟨i - 1, by omega⟩
        obtain ⟨W4, hW4⟩ : ∃ W4, W4 = (wr.drewN nq).setCell ⟨w2.heap.size, p, none⟩ (.bool true) := ⟨_, rfl⟩
        have HG5 : Hid (W4.heap[w2.heap.size]? = some (.cells (bls (G.set p true)) 4 (0, 0))) := Lib.hid (by rw [hW4]; exact HG4.out)
        have BL5 : Hid (Below w2.heap.size w2 W4) := Lib.hid (by rw [hW4]; exact (below_drewN BL.out _).setCell (p := ⟨w2.heap.size, p, none⟩) (Nat.le_refl _) (.bool true))
        rw [← hW4]
        clear hW4 HG4 BL HG cg fg x0 x1 x2 x3 y0 y1 y2 y3 z0
        have hqs : q < ss.length := by omega
        have hqp : q < ps.length := by omega
        obtain ⟨x0, x1, x2, x3⟩ := at4 (X2.out.below BL5.out) his d0
        obtain ⟨y0, y1, y2, y3⟩ := at4 (X2.out.below BL5.out) hqs d0
        obtain ⟨f1, f2⟩ := F2.out q (by omega)
        rw [← hq] at f1 f2
        have CL1 := Lib.hid (fun w => LS.out (ss.getD q d0) (ss.getD i d0) w)
        have CL2 := Lib.hid (fun w => LS.out (ss.getD i d0) (ss.getD q d0) w)
        rw [f1] at CL2
        have s1 : IntKind.i64.wrap ((i : Int) - 1) = (q : Int) := by
          rw [show (i : Int) - 1 = (q : Int) by omega]; exact IntWalk.i64_in _ (by omega)
        have hqi : q < i := by omega
        clear hzl hsl hpl
        have HF2 := Lib.hid f2
        have HQ := Lib.hid hq
        clear f1 f2 hq
        generalize lt (ss.getD q d0) (ss.getD i d0) = r at *
        generalize hs2 : ss.getD i d0 = s2 at *
        generalize hs3 : ss.getD q d0 = s3 at *
        have HS2 := Lib.hid hs2; have HS3 := Lib.hid hs3
        clear hs2 hs3
        have hbw4 : b' < W4.heap.size := lt_of_cell x0
        have hw24 : w2.heap.size ≤ W4.heap.size := BL5.out.size
        have hq0 : (0 : Int) ≤ (q : Int) := by omega
        have hql : (q : Int) < (la : Int) := by omega
        have hi00 : (0 : Int) ≤ (i : Int) := by omega
        have hil' : (i : Int) < (la : Int) := by omega
        go_region_held3 (fun w' => w'.cell? ⟨b', off' + i * 4, none⟩ = some (.int .u64 s2.u) ∧ w'.cell? ⟨b', off' + i * 4 + 1, none⟩ = some (.int .u64 s2.v) ∧ w'.cell? ⟨b', off' + i * 4 + 2, none⟩ = some (.int .i64 s2.w) ∧ w'.cell? ⟨b', off' + i * 4 + 3, none⟩ = some (.int .i64 s2.t) ∧
            w'.cell? ⟨b', off' + q * 4, none⟩ = some (.int .u64 s3.u) ∧ w'.cell? ⟨b', off' + q * 4 + 1, none⟩ = some (.int .u64 s3.v) ∧ w'.cell? ⟨b', off' + q * 4 + 2, none⟩ = some (.int .i64 s3.w) ∧ w'.cell? ⟨b', off' + q * 4 + 3, none⟩ = some (.int .i64 s3.t))
          (first | go_keep | exact keep8 hb hbw4 ⟨x0, x1, x2, x3, y0, y1, y2, y3⟩)
          (first | (go_at_call 12; refine (CL1.out _).mono ?_; rintro e w6 ⟨rfl, hb⟩))
        rename_i hh
        have BL6 := Lib.hid ((Below.drew BL5.out).trans (hb.mono BL5.out.size))
        have HG6 := Lib.hid (keep_block (W := W4.drew) HG5.out hb)
        have hbw6 : b' < w6.heap.size := Nat.lt_of_lt_of_le hbw4 hb.size
        clear hb x0 x1 x2 x3 y0 y1 y2 y3
        obtain ⟨x0, x1, x2, x3, y0, y1, y2, y3⟩ := hh
        go_wp2_with fail
        go_region_held3 (fun w' => w'.cell? ⟨b', off' + i * 4, none⟩ = some (.int .u64 s2.u) ∧ w'.cell? ⟨b', off' + i * 4 + 1, none⟩ = some (.int .u64 s2.v) ∧ w'.cell? ⟨b', off' + i * 4 + 2, none⟩ = some (.int .i64 s2.w) ∧ w'.cell? ⟨b', off' + i * 4 + 3, none⟩ = some (.int .i64 s2.t) ∧
            w'.cell? ⟨b', off' + q * 4, none⟩ = some (.int .u64 s3.u) ∧ w'.cell? ⟨b', off' + q * 4 + 1, none⟩ = some (.int .u64 s3.v) ∧ w'.cell? ⟨b', off' + q * 4 + 2, none⟩ = some (.int .i64 s3.w) ∧ w'.cell? ⟨b', off' + q * 4 + 3, none⟩ = some (.int .i64 s3.t))
          (first | go_keep | exact keep8 hb hbw6 ⟨x0, x1, x2, x3, y0, y1, y2, y3⟩)
          (first | (go_at_call 12; refine (CL2.out _).mono ?_; rintro e w7 ⟨rfl, hb⟩))
        have BL7 := Lib.hid ((Below.drew BL6.out).trans (hb.mono BL6.out.size))
        have HG7 := Lib.hid (keep_block (W := w6.drew) HG6.out hb)
        clear hb x0 x1 x2 x3 y0 y1 y2 y3
        have z1 := at1 (Y2.out.below BL7.out) hip
        have z2 := at1 (Y2.out.below BL7.out) hqp
        cases r
        · have hpq := HF2.out rfl
          generalize hpi : ps.getD i 0 = pi at *
          generalize hpj : ps.getD q 0 = pq at *
          clear hpi hpj
          have hd : decide ((pi : Int) < (pq : Int)) = false := by simp; omega
          have hd2 : decide (pi < pq) = false := by simp; omega
          go_wp2_with fail
          go_quiet (fail)
          go_wp2_with fail
          go_roundw
          case rel => exact ⟨i + 1, G.set p true, by omega, by go_num, by simp [GL.out], G2.out, HG7.out, (below_drewN BL7.out _)⟩
          case measure => simp [intOf]; omega
        · clear z1 z2
          go_wp2_with fail
          go_quiet (fail)
          go_wp2_with fail
          go_roundw
          case rel => exact ⟨i + 1, G.set p true, by omega, by go_num, by simp [GL.out], G2.out, HG7.out, (below_drewN BL7.out _)⟩
          case measure => simp [intOf]; omega
    · go_wp2_with fail
      refine (works_any _).mono ?_; rintro e w6 ⟨rfl, hb⟩
      have B6 := Lib.hid (B2.out.trans ((BL.out.trans (hb.mono BL.out.size)).mono B2.out.size))
      clear hb
      go_wp2_with fail
      go_ret
      exact ⟨rfl, B6.out⟩
end Go.Proofs.Ytmholiddejgccaa

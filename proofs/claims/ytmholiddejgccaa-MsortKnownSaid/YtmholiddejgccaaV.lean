/- The walk of the law MsortKeeps. -/
import Derived.Test.YtmholiddejgccaaU
namespace Go.Proofs.Ytmholiddejgccaa
open Go.ChangeShapes Go.WideShapes Go.ChangeAt Go.RowKit

/-- The records that are not gone. -/
def frees : List Rc → List Bool → List Rc
  | x :: s, b :: G => if b then frees s G else x :: frees s G
  | _, _ => []
theorem frees_all (s : List Rc) : frees s (List.replicate s.length false) = s := by
  induction s with
  | nil => rfl
  | cons x s ih => simp [frees, List.replicate_succ, ih]
theorem frees_set : ∀ (s : List Rc) (G : List Bool) (j : Nat), j < s.length → G.length = s.length → G.getD j true = false → (s.getD j d0 :: frees s (G.set j true)).Perm (frees s G)
  | [], _, j, h, _, _ => by simp at h
  | _ :: _, [], _, _, h, _ => by simp at h
  | x :: s, b :: G, 0, _, _, h => by
    have : b = false := by simpa using h
    subst this
    simp [frees]
  | x :: s, b :: G, j + 1, h1, h2, h3 => by
    have ih := frees_set s G j (by simpa using h1) (by simpa using h2) (by simpa using h3)
    cases b
    · simp only [List.set_cons_succ, frees, Bool.false_eq_true, if_false, List.getD_cons_succ]
      exact (List.Perm.swap _ _ _).trans (ih.cons x)
    · simpa [frees] using ih
theorem frees_mem : ∀ (s : List Rc) (G : List Bool) (x : Rc), G.length = s.length → x ∈ frees s G → ∃ j, j < s.length ∧ G.getD j true = false ∧ s.getD j d0 = x
  | [], _, x, _, h => by simp [frees] at h
  | _ :: _, [], _, h, _ => by simp at h
  | y :: s, b :: G, x, h1, h2 => by
    cases b
    · simp only [frees, Bool.false_eq_true, if_false, List.mem_cons] at h2
      rcases h2 with rfl | h2
      · exact ⟨0, by simp, rfl, rfl⟩
      · obtain ⟨j, a1, a2, a3⟩ := frees_mem s G x (by simpa using h1) h2
        exact ⟨j + 1, by simpa using a1, by simpa using a2, by simpa using a3⟩
    · simp only [frees, if_true] at h2
      obtain ⟨j, a1, a2, a3⟩ := frees_mem s G x (by simpa using h1) h2
      exact ⟨j + 1, by simpa using a1, by simpa using a2, by simpa using a3⟩
/-- The cells of flags. -/
def bls (G : List Bool) : Array Value := (G.map Value.bool).toArray
theorem bls_0 (n : Nat) : madeCells #[Value.bool false] n = bls (List.replicate n false) := by
  apply Array.ext
  · simp [madeCells, bls]
  · intro i h1 h2; simp [madeCells, bls, Nat.mod_one]
theorem bls_set (G : List Bool) (j : Nat) (b : Bool) : (bls G).setIfInBounds j (.bool b) = bls (G.set j b) := by
  simp [bls, List.map_set]
theorem bls_cell {G : List Bool} {i : Nat} (hi : i < G.length) : (bls G)[i]? = some (.bool (G.getD i true)) := by
  simp [bls, hi]
theorem info4 : (Try.prog.info? 4).map (fun i => (i.zero, i.size, i.bytes)) = some (some (.bool false), 1, 1) := by kernel_rfl
def KeepRel (w1 : World) (ss zs : List Rc) (vi : Value) (wr : World) : Prop :=
  ∃ (i : Nat) (G : List Bool), i ≤ zs.length ∧ vi = .int .i64 i ∧ G.length = ss.length ∧ wr.heap[w1.heap.size]? = some (.cells (bls G) 4 (0, 0)) ∧ (frees ss G).Perm (zs.drop i) ∧ Below w1.heap.size w1 wr
def FindRel (w1 : World) (ss zs : List Rc) (i : Nat) (vf vj : Value) (wr : World) : Prop :=
  ∃ (j : Nat) (G : List Bool) (f : Bool), j ≤ ss.length ∧ vf = .bool f ∧ vj = .int .i64 j ∧ G.length = ss.length ∧ wr.heap[w1.heap.size]? = some (.cells (bls G) 4 (0, 0)) ∧ Below w1.heap.size w1 wr ∧
    (f = true → (frees ss G).Perm (zs.drop (i + 1))) ∧ (f = false → (frees ss G).Perm (zs.drop i) ∧ ∀ j', j' < j → ¬ (G.getD j' true = false ∧ ss.getD j' d0 = zs.getD i d0))
set_option maxRecDepth 100000 in
set_option maxHeartbeats 4000000 in
theorem keeps_law (aa : Option Addr) (la ca : Nat) (zs : List Rc) (n : Int) (w : World) (h : IsSl 4 encR w aa la ca zs) (hn : (Lit.int .u8 n).wf = true) :
    Calls Try.prog 9 #[.slice aa la ca, .int .u8 n] w fun e w' => e = .returned (.bool true) ∧ Below w.heap.size w w' := by
  have hm := h.hmax; have hl := h.hle; unfold maxLen at hm
  have H := Lib.hid h
  have HAL := Lib.hid h.hlen
  have hn' := bounds_u8 hn
  obtain ⟨n, rfl⟩ := Int.eq_ofNat_of_zero_le hn'.1
  have hn2 : n < 256 := by have := hn'.2; omega
  by_cases h2 : 200 < la
  · clear h hn hn'
    go_enter Try.func9, Try.ntmps9
    go_wp2_with fail
    go_ret
    exact ⟨rfl, Below.refl _ _⟩
  have hla : la ≤ 65536 := by omega
  have HK := Lib.hid (thr_kn n)
  have TH := Lib.hid (fun w => thr_any hn2 w)
  have S1 := Lib.hid (fun w a c (h : IsSl 4 encR w a la c zs) => psort_of HK.out h hla)
  have hsl : (arr (ltK (thr n)) zs).length = la := by rw [arr_length]; exact h.hlen.symm
  have PM := Lib.hid (arr_perm (lt := ltK (thr n)) zs)
  have O1 := Lib.hid (fun w a c (h : IsSl 4 encR w a la c (arr (ltK (thr n)) zs)) => by
    have := sorted_yes HK.out h hla
    rw [inv_arr (swoK (thr n))] at this
    exact this)

  obtain ⟨CI, hCI⟩ : ∃ C, C = madeCells #[Value.bool false] la := ⟨_, rfl⟩
  have m1 : ∀ w, (Instr.makeSlice 44 (.int .i64 (la : Int)) (.int .i64 (la : Int))).run Try.prog w = .ok (.slice (some ⟨w.heap.size, 0, none⟩) la la) (w.alloc (.cells CI 4)) := by
    rw [hCI]; exact run_make_row' (P := Try.prog) 44 4 (.bool false) 1 Try.underlying44 info4 rfl .i64 .i64 la (by omega) (by omega)
  have HCI := Lib.hid hCI
  have HSL := Lib.hid hsl
  clear h hn hn' hCI hsl HK
  generalize arr (ltK (thr n)) zs = ss at *
  generalize thr n = k at *
  go_enter Try.func9, Try.ntmps9
  go_wp2_with fail
  refine (TH.out _).mono ?_; rintro e w' ⟨rfl, rfl⟩
  go_wp2_with fail
  refine (S1.out _ _ _ H.out).mono ?_; rintro e w1 ⟨a1, c1, rfl, hs, -, hb⟩
  have H1 := Lib.hid (H.out.below hb); have X1 := Lib.hid hs; have B1 := Lib.hid hb
  have hsl := HSL.out
  rw [hsl] at X1
  rw [hsl]
  clear hs hb hsl
  go_wp2_with fail
  refine (O1.out _ _ _ X1.out).mono ?_; rintro e w2 ⟨rfl, hb⟩
  have H2 := Lib.hid (H1.out.below hb); have X2 := Lib.hid (X1.out.below hb); have B2 := Lib.hid (B1.out.trans (hb.mono B1.out.size))
  clear hb
  have hc1 : c1 ≤ maxLen := X2.out.hmax
  have hc2 : la ≤ c1 := X2.out.hle
  unfold maxLen at hc1
  go_wp2_with fail
  go_loopw [11, 12, 13] (fun vi _ _ wr => KeepRel w2 ss zs vi wr) (fun vi _ _ _ => la - (intOf vi).toNat)
  case atStart =>
    have e := HCI.out
    subst e
    exact ⟨0, List.replicate la false, Nat.zero_le _, rfl, by simp [HSL.out], by rw [bls_0]; exact block_new _ _, by have := frees_all ss; rw [HSL.out] at this; rw [this]; exact PM.out, Below.alloc (Below.refl _ _) (Nat.le_refl _) _⟩
  case round =>
    clear m1
    obtain ⟨i, G, hi, rfl, hG, hg, hp, hbl⟩ := hrel
    have HG := Lib.hid hg; have BL := Lib.hid hbl; have HP := Lib.hid hp; have GL := Lib.hid hG
    clear hg hbl hp hG
    by_cases hlt : i < la
    · obtain ⟨wo, rfl⟩ : ∃ wo : World, wo = wr := ⟨_, rfl⟩
      have hil : i < zs.length := by have := HAL.out; omega
      go_wp2_with fail
      go_loopw [12, 13] (fun vf vj wr => FindRel w2 ss zs i vf vj wr) (fun _ vj _ => la - (intOf vj).toNat)
      case atStart => exact ⟨0, G, false, Nat.zero_le _, rfl, rfl, GL.out, HG.out, BL.out, fun h => (by cases h), fun _ => ⟨HP.out, fun j hj => absurd hj (Nat.not_lt_zero _)⟩⟩
      case round =>
        clear HG BL HP GL
        clear G
        obtain ⟨j, G, f, hj, rfl, rfl, hG, hg, hbl, hf1, hf2⟩ := hrel
        have HG := Lib.hid hg; have BL := Lib.hid hbl; have GL := Lib.hid hG
        clear hg hbl hG
        cases f
        · obtain ⟨hp, hno⟩ := hf2 rfl
          have HP := Lib.hid hp; have NO := Lib.hid hno
          clear hf1 hf2 hp hno
          by_cases hjl : j < la
          · have hjs : j < ss.length := by have := HSL.out; omega
            obtain ⟨b, off, rfl, _, _⟩ := H2.out.at_ (by intro h; rw [h] at hil; simp at hil)
            obtain ⟨b', off', rfl, _, _⟩ := X2.out.at_ (by intro h; rw [h] at hjs; simp at hjs)
            obtain ⟨x0, x1, x2, x3⟩ := at4 (X2.out.below BL.out) hjs d0
            obtain ⟨y0, y1, y2, y3⟩ := at4 (H2.out.below BL.out) hil d0
            have cg : wr.cell? ⟨w2.heap.size, j, none⟩ = some (.bool (G.getD j true)) := by rw [cell_of HG.out, bls_cell (by have := GL.out; omega)]
            have fg := free_of HG.out j
            cases hgj : G.getD j true
            · rw [hgj] at cg
              have HGJ := Lib.hid hgj
              clear hgj
              generalize hx : ss.getD j d0 = x at *
              generalize hy : zs.getD i d0 = y at *
              have HX := Lib.hid hx; have HY := Lib.hid hy
              clear hx hy
              obtain ⟨xu, xv, xw, xt⟩ := x
              obtain ⟨yu, yv, yw, yt⟩ := y
              simp only at x0 x1 x2 x3 y0 y1 y2 y3
              by_cases e1 : xu = yu
              · by_cases e2 : xv = yv
                · by_cases e3 : xw = yw
                  · by_cases e4 : xt = yt
                    · subst e1 e2 e3 e4
                      go_wp2_with fail
                      go_quiet (fail)
                      go_wp2_with fail
                      go_roundw
                      case rel =>
                        have hst := set_of HG.out j (.bool true)
                        rw [bls_set] at hst
                        have hfp : (frees ss (G.set j true)).Perm (zs.drop (i + 1)) := by
                          have q1 := (frees_set ss G j hjs GL.out HGJ.out).trans HP.out
                          rw [List.drop_eq_getElem_cons hil, HX.out, show zs[i] = (⟨xu, xv, xw, xt⟩ : Rc) by rw [← HY.out]; simp [hil]] at q1
                          exact q1.cons_inv
                        exact ⟨j + 1, G.set j true, true, by omega, rfl, by go_num, by simp [GL.out], by first | exact hst | (simpa using hst), by first | exact BL.out.setCell (p := ⟨w2.heap.size, j, none⟩) (Nat.le_refl _) (.bool true) | exact (below_drewN BL.out _).setCell (p := ⟨w2.heap.size, j, none⟩) (Nat.le_refl _) (.bool true), fun _ => hfp, fun h => (by cases h)⟩
                      case measure => simp [intOf]; omega
                    · have d1 : (xt == yt) = false := by simpa using e4
                      subst e1 e2 e3
                      clear e4
                      have hne := d1
                      go_wp2_with fail
                      go_quiet (fail)
                      go_wp2_with fail
                      go_roundw
                      case rel => exact ⟨j + 1, G, false, by omega, rfl, by go_num, GL.out, by first | exact HG.out | (rw [drewN_heap]; exact HG.out), by first | exact BL.out | exact below_drewN BL.out _, fun h => (by cases h), fun _ => ⟨HP.out, fun j' hj' hh => by
                        rcases Nat.lt_or_ge j' j with h | h
                        · exact NO.out j' h ⟨hh.1, hh.2.trans HY.out⟩
                        · obtain rfl : j' = j := by omega
                          have e := HX.out.symm.trans (hh.2.trans HY.out)
                          rw [Rc.mk.injEq] at e
                          obtain ⟨r1, r2, r3, r4⟩ := e
                          have dd := of_decide_eq_false d1
                          first
                          | exact absurd r1 dd
                          | exact absurd r2 dd
                          | exact absurd r3 dd
                          | exact absurd r4 dd⟩⟩
                      case measure => simp [intOf]; omega
                  · have d1 : (xw == yw) = false := by simpa using e3
                    subst e1 e2
                    clear e3
                    have hne := d1
                    go_wp2_with fail
                    go_quiet (fail)
                    go_wp2_with fail
                    go_roundw
                    case rel => exact ⟨j + 1, G, false, by omega, rfl, by go_num, GL.out, by first | exact HG.out | (rw [drewN_heap]; exact HG.out), by first | exact BL.out | exact below_drewN BL.out _, fun h => (by cases h), fun _ => ⟨HP.out, fun j' hj' hh => by
                      rcases Nat.lt_or_ge j' j with h | h
                      · exact NO.out j' h ⟨hh.1, hh.2.trans HY.out⟩
                      · obtain rfl : j' = j := by omega
                        have e := HX.out.symm.trans (hh.2.trans HY.out)
                        rw [Rc.mk.injEq] at e
                        obtain ⟨r1, r2, r3, r4⟩ := e
                        have dd := of_decide_eq_false d1
                        first
                        | exact absurd r1 dd
                        | exact absurd r2 dd
                        | exact absurd r3 dd
                        | exact absurd r4 dd⟩⟩
                    case measure => simp [intOf]; omega
                · have d1 : (xv == yv) = false := by simpa using e2
                  subst e1
                  clear e2
                  have hne := d1
                  go_wp2_with fail
                  go_quiet (fail)
                  go_wp2_with fail
                  go_roundw
                  case rel => exact ⟨j + 1, G, false, by omega, rfl, by go_num, GL.out, by first | exact HG.out | (rw [drewN_heap]; exact HG.out), by first | exact BL.out | exact below_drewN BL.out _, fun h => (by cases h), fun _ => ⟨HP.out, fun j' hj' hh => by
                    rcases Nat.lt_or_ge j' j with h | h
                    · exact NO.out j' h ⟨hh.1, hh.2.trans HY.out⟩
                    · obtain rfl : j' = j := by omega
                      have e := HX.out.symm.trans (hh.2.trans HY.out)
                      rw [Rc.mk.injEq] at e
                      obtain ⟨r1, r2, r3, r4⟩ := e
                      have dd := of_decide_eq_false d1
                      first
                      | exact absurd r1 dd
                      | exact absurd r2 dd
                      | exact absurd r3 dd
                      | exact absurd r4 dd⟩⟩
                  case measure => simp [intOf]; omega
              · have d1 : (xu == yu) = false := by simpa using e1
                clear e1
                have hne := d1
                go_wp2_with fail
                go_quiet (fail)
                go_wp2_with fail
                go_roundw
                case rel => exact ⟨j + 1, G, false, by omega, rfl, by go_num, GL.out, by first | exact HG.out | (rw [drewN_heap]; exact HG.out), by first | exact BL.out | exact below_drewN BL.out _, fun h => (by cases h), fun _ => ⟨HP.out, fun j' hj' hh => by
                  rcases Nat.lt_or_ge j' j with h | h
                  · exact NO.out j' h ⟨hh.1, hh.2.trans HY.out⟩
                  · obtain rfl : j' = j := by omega
                    have e := HX.out.symm.trans (hh.2.trans HY.out)
                    rw [Rc.mk.injEq] at e
                    obtain ⟨r1, r2, r3, r4⟩ := e
                    have dd := of_decide_eq_false d1
                    first
                    | exact absurd r1 dd
                    | exact absurd r2 dd
                    | exact absurd r3 dd
                    | exact absurd r4 dd⟩⟩
                case measure => simp [intOf]; omega
            · rw [hgj] at cg
              have HGJ := Lib.hid hgj
              clear hgj x0 x1 x2 x3 y0 y1 y2 y3
              go_wp2_with fail
              go_quiet (fail)
              go_wp2_with fail
              go_roundw
              case rel => exact ⟨j + 1, G, false, by omega, rfl, by go_num, GL.out, by first | exact HG.out | (rw [drewN_heap]; exact HG.out), by first | exact BL.out | exact below_drewN BL.out _, fun h => (by cases h), fun _ => ⟨HP.out, fun j' hj' hh => by
                rcases Nat.lt_or_ge j' j with h | h
                · exact NO.out j' h hh
                · obtain rfl : j' = j := by omega
                  rw [HGJ.out] at hh; exact absurd hh.1 (by decide)⟩⟩
              case measure => simp [intOf]; omega
          · exfalso
            obtain rfl : j = la := by have := HSL.out; omega
            have hmem : zs.getD i d0 ∈ frees ss G := HP.out.mem_iff.2 (by
              have e : zs.getD i d0 = zs[i] := by simp [hil]
              rw [e, List.drop_eq_getElem_cons hil]
              exact List.mem_cons_self)
            obtain ⟨j', a1, a2, a3⟩ := frees_mem ss G _ GL.out hmem
            exact NO.out j' (by have := HSL.out; omega) ⟨a2, a3⟩
        · have HP := Lib.hid (hf1 rfl)
          clear hf1 hf2
          by_cases hjl : j < la
          · go_wp2_with fail
            go_roundw
            case rel => exact ⟨i + 1, G, by omega, by go_num, GL.out, HG.out, HP.out, BL.out⟩
            case measure => simp [intOf]; omega
          · go_wp2_with fail
            go_roundw
            case rel => exact ⟨i + 1, G, by omega, by go_num, GL.out, HG.out, HP.out, BL.out⟩
            case measure => simp [intOf]; omega
    · go_wp2_with fail
      refine (works_any _).mono ?_; rintro e w6 ⟨rfl, hb⟩
      have B6 := Lib.hid (B2.out.trans ((BL.out.trans (hb.mono BL.out.size)).mono B2.out.size))
      clear hb
      go_wp2_with fail
      go_ret
      exact ⟨rfl, B6.out⟩
end Go.Proofs.Ytmholiddejgccaa

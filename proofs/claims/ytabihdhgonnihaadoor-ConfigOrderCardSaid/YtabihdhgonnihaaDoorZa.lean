/- The document's Parse. -/
import Derived.Test.YtabihdhgonnihaaDoorX
import Derived.Test.YtabihdhgonnihaaDoorY
import Derived.Test.YtabihdhgonnihaaDoorT
namespace Go.Proofs.YtabihdhgonnihaaDoor
open Go.ChangeShapes Go.WideShapes Go.ChangeAt Go.RowKit
set_option linter.unusedVariables false
set_option linter.unusedSimpArgs false

theorem sp_part : ∀ (s : Str), ∀ p ∈ sp s, p.length ≤ s.length
  | [], p, h => by simp [sp] at h; subst h; exact Nat.le_refl _
  | b :: l, p, h => by
    have ih := sp_part l
    have hne := sp_ne l
    unfold sp at h
    cases hs : sp l with
    | nil => exact absurd hs hne
    | cons x r =>
      rw [hs] at ih h
      simp only [List.length_cons]
      split at h
      · rcases List.mem_cons.1 h with e | e
        · subst e; simp
        · have := ih p e; omega
      · simp only [List.headD_cons, List.tail_cons] at h
        rcases List.mem_cons.1 h with e | e
        · subst e; have := ih x (by simp); simp; omega
        · have := ih p (List.mem_cons_of_mem _ e); omega
theorem parts_part {s p : Str} (h : p ∈ parts s) : p.length ≤ s.length := by
  unfold parts at h
  split at h
  · cases h
  · exact sp_part s p h
theorem parts_len (s : Str) : (parts s).length ≤ s.length + 1 := by
  unfold parts
  split
  · simp
  · exact (sp_len s).2
structure RpB (w : World) (gl gs gp : Nat) (cur : Array Value) (ne : Bool) (st : Cf × Hv) (wr : World) : Prop where
  l : wr.heap[gl]? = some (.cells #[.int .i64 st.1.a, .int .i64 st.1.b, .int .i64 st.1.c, .int .i64 st.1.d] 2 (0, 0))
  h : wr.heap[gs]? = some (.cells #[.bool st.2.a, .bool st.2.b, .bool st.2.c, .bool st.2.d] 83 (0, 0))
  p : ne = true → wr.heap[gp]? = some (.cells cur 9 (0, 0))
  out : wr.heap[w.heap.size]? = some (.cells #[.int .i64 0, .int .i64 0, .int .i64 0, .int .i64 0] 25 (0, 0))
  below : Below w.heap.size w wr
theorem RpB.keep {w : World} {gl gs gp : Nat} {cur : Array Value} {ne : Bool} {st : Cf × Hv} {wr w' : World} (h : RpB w gl gs gp cur ne st wr) (hb : Below wr.heap.size wr w') : RpB w gl gs gp cur ne st w' :=
  ⟨(hb.block _ (lt_of_block h.l)).trans h.l, (hb.block _ (lt_of_block h.h)).trans h.h, fun e => (hb.block _ (lt_of_block (h.p e))).trans (h.p e), (hb.block _ (lt_of_block h.out)).trans h.out, h.below.trans (hb.mono h.below.size)⟩
theorem RpB.setL {w : World} {gl gs gp : Nat} {cur : Array Value} {ne : Bool} {st : Cf × Hv} {wr : World} (h : RpB w gl gs gp cur ne st wr) (h1 : w.heap.size < gl) (h2 : gl < gs) (h3 : gs < gp) (k : Nat) {v : Value} {f : Cf}
    (hc : (#[.int .i64 st.1.a, .int .i64 st.1.b, .int .i64 st.1.c, .int .i64 st.1.d] : Array Value).setIfInBounds k v = #[.int .i64 f.a, .int .i64 f.b, .int .i64 f.c, .int .i64 f.d]) : RpB w gl gs gp cur ne (f, st.2) (wr.setCell ⟨gl, k, none⟩ v) := by
  have h4 := set_of h.l k v
  rw [hc] at h4
  exact ⟨h4, block_set h.h (by simp; omega) v, fun e => block_set (h.p e) (by simp; omega) v, block_set h.out (by simp; omega) v, h.below.setCell (by simp; omega) _⟩
theorem RpB.setH {w : World} {gl gs gp : Nat} {cur : Array Value} {ne : Bool} {st : Cf × Hv} {wr : World} (h : RpB w gl gs gp cur ne st wr) (h1 : w.heap.size < gl) (h2 : gl < gs) (h3 : gs < gp) (k : Nat) {v : Value} {f : Hv}
    (hc : (#[.bool st.2.a, .bool st.2.b, .bool st.2.c, .bool st.2.d] : Array Value).setIfInBounds k v = #[.bool f.a, .bool f.b, .bool f.c, .bool f.d]) : RpB w gl gs gp cur ne (st.1, f) (wr.setCell ⟨gs, k, none⟩ v) := by
  have h4 := set_of h.h k v
  rw [hc] at h4
  exact ⟨block_set h.l (by simp; omega) v, h4, fun e => block_set (h.p e) (by simp; omega) v, block_set h.out (by simp; omega) v, h.below.setCell (by simp; omega) _⟩
theorem outS_at {n k : Nat} {cur : Array Value} {zs : List Str} (h : cur.toList.take n = flat encS zs) (hn : zs.length = n) (hk : k < zs.length) : cur[k]? = some (.string ⟨(zs[k]).toArray⟩) := by
  have h8 : (cur.toList.take n)[k]? = (flat encS zs)[k]? := by rw [h]
  rw [List.getElem?_take, if_pos (by omega)] at h8
  rw [show cur[k]? = cur.toList[k]? by simp, h8]
  have e : flat encS zs = zs.map (fun l => Value.string ⟨l.toArray⟩) := by
    unfold flat
    clear h8 hk hn h
    induction zs with
    | nil => rfl
    | cons x l ih => simp only [List.flatMap_cons, List.map_cons, ih]; rfl
  rw [e]
  simp [hk]
theorem parse_none {s : Str} (h : rd (parts s) (dflt, hv0) = none) : parse s = (zero, 15) := by
  unfold parse read
  rw [h]; rfl
theorem parse_some {s : Str} {st : Cf × Hv} (h : rd (parts s) (dflt, hv0) = some st) : parse s = if wrong st.1 < 0 then (st.1, 0) else (zero, 2) := by
  unfold parse read
  rw [h]; rfl
theorem step_dup {p : Str} {st : Cf × Hv} {i u : Nat} (h : setting p = some (i, u)) (hh : st.2.at i = true) : step st p = none := by
  unfold step
  rw [h]
  show (if st.2.at i = true then none else _) = none
  rw [if_pos hh]
theorem step_set {p : Str} {st : Cf × Hv} {i u : Nat} (h : setting p = some (i, u)) (hh : st.2.at i = false) : step st p = some (st.1.put i u, st.2.put i) := by
  unfold step
  rw [h]
  show (if st.2.at i = true then none else some (st.1.put i (u : Int), st.2.put i)) = _
  rw [hh]; rfl
theorem rd_drop {l : List Str} {k : Nat} (hk : k < l.length) (st : Cf × Hv) : rd (l.drop k) st = (step st l[k]).bind (rd (l.drop (k + 1))) := by
  rw [List.drop_eq_getElem_cons hk]; rfl
def RpRel (w : World) (gl gs gp : Nat) (cur : Array Value) (ne : Bool) (zs : List Str) (v7 : Value) (wr : World) : Prop :=
  ∃ (k : Nat) (st : Cf × Hv), k ≤ zs.length ∧ v7 = .int .i64 (k : Int) ∧ rd zs (dflt, hv0) = rd (zs.drop k) st ∧ RpB w gl gs gp cur ne st wr
/-- The result's cells are cleared. -/
theorem res_zero {w wr : World} (h : wr.heap[w.heap.size]? = some (.cells #[.int .i64 0, .int .i64 0, .int .i64 0, .int .i64 0] 25 (0, 0))) (hb : Below w.heap.size w wr) (q : Cf) : ∃ W, W = ((((wr.setCell ⟨w.heap.size, 0, none⟩ (.int .i64 q.a)).setCell ⟨w.heap.size, 1, none⟩ (.int .i64 q.b)).setCell ⟨w.heap.size, 2, none⟩ (.int .i64 q.c)).setCell ⟨w.heap.size, 3, none⟩ (.int .i64 q.d)) ∧
    W.cell? ⟨w.heap.size, 0, none⟩ = some (.int .i64 q.a) ∧ W.cell? ⟨w.heap.size, 1, none⟩ = some (.int .i64 q.b) ∧ W.cell? ⟨w.heap.size, 2, none⟩ = some (.int .i64 q.c) ∧ W.cell? ⟨w.heap.size, 3, none⟩ = some (.int .i64 q.d) ∧ Below w.heap.size w W := by
  have hy := set4 h rfl (.int .i64 q.a) (.int .i64 q.b) (.int .i64 q.c) (.int .i64 q.d)
  exact ⟨_, rfl, cell_of hy 0, cell_of hy 1, cell_of hy 2, cell_of hy 3, (((hb.setCell (by simp) _).setCell (by simp) _).setCell (by simp) _).setCell (by simp) _⟩
theorem out_cells {w wr : World} (h : wr.heap[w.heap.size]? = some (.cells #[.int .i64 0, .int .i64 0, .int .i64 0, .int .i64 0] 25 (0, 0))) : wr.cell? ⟨w.heap.size, 0, none⟩ = some (.int .i64 0) ∧ wr.cell? ⟨w.heap.size, 1, none⟩ = some (.int .i64 0) ∧ wr.cell? ⟨w.heap.size, 2, none⟩ = some (.int .i64 0) ∧ wr.cell? ⟨w.heap.size, 3, none⟩ = some (.int .i64 0) ∧
    wr.frozen? ⟨w.heap.size, 0, none⟩ = false ∧ wr.frozen? ⟨w.heap.size, 1, none⟩ = false ∧ wr.frozen? ⟨w.heap.size, 2, none⟩ = false ∧ wr.frozen? ⟨w.heap.size, 3, none⟩ = false :=
  ⟨cell_of h 0, cell_of h 1, cell_of h 2, cell_of h 3, free_of h 0, free_of h 1, free_of h 2, free_of h 3⟩
set_option maxRecDepth 100000 in
set_option maxHeartbeats 4000000 in
theorem rparse (s : Str) (hs : s.length ≤ 100000) (w : World) : Calls Tryd.prog 22 #[.string ⟨s.toArray⟩] w (ParR w (parse s)) := by
  have A : Hid (Below w.heap.size w (w.alloc (.cells #[.int .i64 0, .int .i64 0, .int .i64 0, .int .i64 0] 25))) := Lib.hid (Below.alloc (Below.refl _ _) (Nat.le_refl _) _)
  have X0 := Lib.hid (block_new w (.cells #[.int .i64 0, .int .i64 0, .int .i64 0, .int .i64 0] 25))
  have P1 := Lib.hid (rdefault (w.alloc (.cells #[.int .i64 0, .int .i64 0, .int .i64 0, .int .i64 0] 25)))
  have P2 := Lib.hid (fun w' => rfields dflt w')
  have P3 := Lib.hid (fun w' => rsplit s (by omega) w')
  have RS := Lib.hid (fun p hp w' => rsetting p hp w')
  have HS := Lib.hid hs
  go_enter Tryd.func22, Tryd.ntmps22
  go_wp2_with fail
  refine (P1.out).mono ?_; rintro e w1 ⟨rfl, hb1⟩
  have B1 := Lib.hid (A.out.trans (hb1.mono A.out.size))
  have X1 := Lib.hid ((hb1.block _ (lt_of_block X0.out)).trans X0.out)
  have P4 : Hid (Calls Tryd.prog 51 #[.agg #[.int .i64 60, .int .i64 1024, .int .i64 1024, .int .i64 1024]] w1 fun e w' => e = .returned (.slice (some ⟨w1.heap.size + 1, 0, none⟩) 4 4) ∧ w' = (w1.alloc (.cells #[.int .i64 60, .int .i64 1024, .int .i64 1024, .int .i64 1024] 25)).alloc (.cells #[.int .i64 60, .int .i64 1024, .int .i64 1024, .int .i64 1024] 2)) := Lib.hid (P2.out w1)
  clear hb1 P1 P2 X0
  go_wp2_with fail
  refine (P4.out).mono ?_; rintro e w2 ⟨rfl, hw2⟩
  obtain ⟨W3, hW3⟩ : ∃ W, W = w2.alloc (.cells #[.bool false, .bool false, .bool false, .bool false] 83) := ⟨_, rfl⟩
  have hsz2 : w2.heap.size = w1.heap.size + 2 := by rw [hw2]; simp
  have L3 : Hid (W3.heap[w1.heap.size + 1]? = some (.cells #[.int .i64 60, .int .i64 1024, .int .i64 1024, .int .i64 1024] 2 (0, 0))) := Lib.hid (by
    rw [hW3, hw2]
    refine block_old ?_ _
    have := block_new (w1.alloc (.cells #[.int .i64 60, .int .i64 1024, .int .i64 1024, .int .i64 1024] 25)) (.cells #[.int .i64 60, .int .i64 1024, .int .i64 1024, .int .i64 1024] 2)
    rwa [show (w1.alloc (.cells #[.int .i64 60, .int .i64 1024, .int .i64 1024, .int .i64 1024] 25)).heap.size = w1.heap.size + 1 by simp] at this)
  have H3 : Hid (W3.heap[w2.heap.size]? = some (.cells #[.bool false, .bool false, .bool false, .bool false] 83 (0, 0))) := Lib.hid (by rw [hW3]; exact block_new _ _)
  have X3 : Hid (W3.heap[w.heap.size]? = some (.cells #[.int .i64 0, .int .i64 0, .int .i64 0, .int .i64 0] 25 (0, 0))) := Lib.hid (by rw [hW3, hw2]; exact block_old (block_old (block_old X1.out _) _) _)
  have B3 : Hid (Below w.heap.size w W3) := Lib.hid (by rw [hW3, hw2]; exact ((B1.out.alloc B1.out.size _).alloc (by have := B1.out.size; simp; omega) _).alloc (by have := B1.out.size; simp; omega) _)
  have P5 := Lib.hid (P3.out W3)
  have HW3 := Lib.hid hW3
  have hs1 := lt_of_block X1.out
  have HZ := Lib.hid (And.intro hs1 hsz2)
  clear hw2 P4 P3 hW3 hs1 hsz2
  go_wp2_with fail
  rw [← HW3.out]
  refine (P5.out).mono ?_; rintro e w4 ⟨v, rfl, ho, hb4⟩
  have L4 := Lib.hid ((hb4.block _ (lt_of_block L3.out)).trans L3.out)
  have H4 := Lib.hid ((hb4.block _ (lt_of_block H3.out)).trans H3.out)
  have X4 := Lib.hid ((hb4.block _ (lt_of_block X3.out)).trans X3.out)
  have B4 := Lib.hid (B3.out.trans (hb4.mono B3.out.size))
  have hsz3 : w2.heap.size < W3.heap.size := lt_of_block H3.out
  -- where the parts lie
  have hpart : ∃ gp cap cur, w2.heap.size < gp ∧ (v = .slice none 0 0 ∧ parts s = [] ∨ v = .slice (some ⟨gp, 0, none⟩) (parts s).length cap ∧ w4.heap[gp]? = some (.cells cur 9 (0, 0)) ∧ cur.toList.take (parts s).length = flat encS (parts s)) := by
    obtain ⟨sa, sc, rfl⟩ := own_shape ho.row
    rcases ho.row.2 with ⟨h, h0⟩ | ⟨g, cap, cur, h, _⟩
    · exact ⟨w2.heap.size + 1, 0, #[], by omega, Or.inl ⟨h, List.eq_nil_of_length_eq_zero h0⟩⟩
    · have h' := h
      simp only [Value.slice.injEq] at h
      obtain ⟨rfl, -, rfl⟩ := h
      obtain ⟨cur, k1, k2, k3, k4, k5, k6, k7⟩ := outS_block ho
      exact ⟨g, _, cur, by omega, Or.inr ⟨rfl, k1, k6⟩⟩
  obtain ⟨gp, cap, cur, hgp, hpc⟩ := hpart
  have HGP := Lib.hid hgp
  clear hb4 ho hsz3 hgp P5 HW3
  have PL := Lib.hid (fun (p : Str) (h : p ∈ parts s) => parts_part h)
  have PN1 := Lib.hid (fun h => parse_none (s := s) h)
  have PS1 := Lib.hid (fun st h => parse_some (s := s) (st := st) h)
  have RO := Lib.hid (fun (st : Cf × Hv) (h : rd (parts s) (dflt, hv0) = some st) => rd_ok (parts s) (dflt, hv0) dflt_ok h)
  have hpl := parts_len s
  have hpl2 : (parts s).length ≤ 100001 := by omega
  clear hpl
  generalize parts s = zs at *
  generalize parse s = R at *
  rcases hpc with ⟨rfl, rfl⟩ | ⟨rfl, hpb, hpt⟩
  · have RB : Hid (RpB w (w1.heap.size + 1) w2.heap.size gp cur false (dflt, hv0) w4) := Lib.hid ⟨L4.out, H4.out, fun e => (by cases e), X4.out, B4.out⟩
    clear L4 H4 X4 B4 L3 H3 X3 B3 X1 B1 A HZ
    go_wp2_with fail
    generalize w1.heap.size + 1 = gl at *
    generalize w2.heap.size = gs at *
    go_loopw [7] (fun v7 wr => RpRel w gl gs gp cur false [] v7 wr) (fun v7 _ => 0)
    case atStart => exact ⟨0, (dflt, hv0), Nat.zero_le _, rfl, rfl, RB.out⟩
    case round =>
     obtain ⟨k, st, hk, rfl, hrd, hb⟩ := hrel
     have B := Lib.hid hb
     have RD := Lib.hid hrd
     have hlt : ¬ k < 0 := by omega
     have hk0 : k = 0 := by simpa using hk
     subst hk0
     clear hrd hb
     have hdr : ([] : List Str).drop 0 = [] := rfl
     rw [hdr] at RD
     have RS2 : Hid (rd ([] : List Str) (dflt, hv0) = some st) := Lib.hid RD.out
     have SO := Lib.hid (RO.out st RS2.out)
     have HR := Lib.hid (PS1.out st RS2.out)
     have MD := Lib.hid (rmade st.1 B.out.l)
     obtain ⟨f, hv⟩ := st
     clear RD hdr RS2 PN1 PS1 RO
     go_wp2_with fail
     refine (MD.out).mono ?_; rintro e w7 ⟨rfl, hb7⟩
     have B7 := Lib.hid (B.out.keep hb7)
     have B8 := Lib.hid (B7.out.keep (Below.alloc (Below.refl _ _) (Nat.le_refl _) (.cells #[.int .i64 f.a, .int .i64 f.b, .int .i64 f.c, .int .i64 f.d] 25)))
     have X8 := Lib.hid (block_new w7 (.cells #[.int .i64 f.a, .int .i64 f.b, .int .i64 f.c, .int .i64 f.d] 25))
     have CK := Lib.hid (rcheck f SO.out (w7.alloc (.cells #[.int .i64 f.a, .int .i64 f.b, .int .i64 f.c, .int .i64 f.d] 25)))
     clear hb7 MD B
     unfold chk at CK
     dsimp only at HR ⊢
     by_cases hk : wrong f < 0
     · rw [if_pos hk] at CK HR
       clear hk
       go_wp2_with fail
       refine (CK.out).mono ?_; rintro e w9 ⟨rfl, hb9⟩
       have B9 := Lib.hid (B8.out.keep hb9)
       have hx := (hb9.block _ (lt_of_block X8.out)).trans X8.out
       have x0 : w9.cell? ⟨w7.heap.size, 0, none⟩ = some (.int .i64 f.a) := cell_of hx 0
       have x1 : w9.cell? ⟨w7.heap.size, 1, none⟩ = some (.int .i64 f.b) := cell_of hx 1
       have x2 : w9.cell? ⟨w7.heap.size, 2, none⟩ = some (.int .i64 f.c) := cell_of hx 2
       have x3 : w9.cell? ⟨w7.heap.size, 3, none⟩ = some (.int .i64 f.d) := cell_of hx 3
       obtain ⟨y0, y1, y2, y3, z0, z1, z2, z3⟩ := out_cells B9.out.out
       obtain ⟨W6, hW6, q0, q1, q2, q3, hBW⟩ := res_zero B9.out.out B9.out.below f
       have HW6 := Lib.hid hW6
       have QQ := Lib.hid (And.intro q0 (And.intro q1 (And.intro q2 (And.intro q3 hBW))))
       clear hb9 hx CK hW6 q0 q1 q2 q3 hBW
       go_wp2_with fail
       rw [← HW6.out]
       obtain ⟨q0, q1, q2, q3, hBW⟩ := QQ.out
       exact bodyPost_ret (v := .tuple #[.agg #[.int .i64 f.a, .int .i64 f.b, .int .i64 f.c, .int .i64 f.d], .int .i64 0]) (by simp [results, Tryd.results22, go_sem, q0, q1, q2, q3]) rfl ⟨by rw [HR.out], hBW⟩
     · rw [if_neg hk] at CK HR
       clear hk
       go_wp2_with fail
       refine (CK.out).mono ?_; rintro e w9 ⟨rfl, hb9⟩
       have B9 := Lib.hid (B8.out.keep hb9)
       obtain ⟨y0, y1, y2, y3, z0, z1, z2, z3⟩ := out_cells B9.out.out
       obtain ⟨W6, hW6, q0, q1, q2, q3, hBW⟩ := res_zero B9.out.out B9.out.below zero
       have HW6 : Hid (W6 = ((((w9.setCell ⟨w.heap.size, 0, none⟩ (.int .i64 0)).setCell ⟨w.heap.size, 1, none⟩ (.int .i64 0)).setCell ⟨w.heap.size, 2, none⟩ (.int .i64 0)).setCell ⟨w.heap.size, 3, none⟩ (.int .i64 0))) := Lib.hid hW6
       have QQ := Lib.hid (And.intro q0 (And.intro q1 (And.intro q2 (And.intro q3 hBW))))
       clear hb9 CK hW6 q0 q1 q2 q3 hBW
       go_wp2_with fail
       rw [← HW6.out]
       obtain ⟨q0, q1, q2, q3, hBW⟩ := QQ.out
       exact bodyPost_ret (v := .tuple #[.agg #[.int .i64 0, .int .i64 0, .int .i64 0, .int .i64 0], .int .i64 2]) (by simp [results, Tryd.results22, go_sem, q0, q1, q2, q3, zero]) rfl ⟨by rw [HR.out]; rfl, hBW⟩
  · have RB : Hid (RpB w (w1.heap.size + 1) w2.heap.size gp cur true (dflt, hv0) w4) := Lib.hid ⟨L4.out, H4.out, fun _ => hpb, X4.out, B4.out⟩
    have HPT := Lib.hid hpt
    obtain ⟨hg1, hg2⟩ := HZ.out
    have G1 : Hid (w.heap.size < w1.heap.size + 1) := Lib.hid (by omega)
    have G2 : Hid (w1.heap.size + 1 < w2.heap.size) := Lib.hid (by omega)
    clear hpb hpt L4 H4 X4 B4 L3 H3 X3 B3 X1 B1 A HZ hg1 hg2
    go_wp2_with fail
    generalize w1.heap.size + 1 = gl at *
    generalize w2.heap.size = gs at *
    go_loopw [7] (fun v7 wr => RpRel w gl gs gp cur true zs v7 wr) (fun v7 _ => zs.length - (intOf v7).toNat)
    case atStart => exact ⟨0, (dflt, hv0), Nat.zero_le _, rfl, rfl, RB.out⟩
    case round =>
     obtain ⟨k, st, hk, rfl, hrd, hb⟩ := hrel
     have B := Lib.hid hb
     have RD := Lib.hid hrd
     clear hrd hb
     by_cases hlt : k < zs.length
     · have hxp : wr.cell? ⟨gp, k, none⟩ = some (.string ⟨(zs[k]).toArray⟩) := by rw [cell_of (B.out.p rfl)]; exact outS_at HPT.out rfl hlt
       have RK := Lib.hid (RD.out.trans (rd_drop hlt st))
       have SE := Lib.hid (RS.out zs[k] (by have := PL.out zs[k] (List.getElem_mem hlt); have := HS.out; omega) wr)
       generalize zs[k] = p at *
       cases hp : setting p with
       | none =>
         rw [hp] at SE
         have RN := Lib.hid (PN1.out (by rw [RK.out, step_bad hp]; rfl))
         clear hp
         go_wp2_with fail
         refine (SE.out).mono ?_; rintro e w7 ⟨rfl, hb7⟩
         have B7 := Lib.hid (B.out.keep hb7)
         clear hb7 SE
         obtain ⟨y0, y1, y2, y3, z0, z1, z2, z3⟩ := out_cells B7.out.out
         obtain ⟨W6, hW6, q0, q1, q2, q3, hBW⟩ := res_zero B7.out.out B7.out.below zero
         have HW6 : Hid (W6 = ((((w7.setCell ⟨w.heap.size, 0, none⟩ (.int .i64 0)).setCell ⟨w.heap.size, 1, none⟩ (.int .i64 0)).setCell ⟨w.heap.size, 2, none⟩ (.int .i64 0)).setCell ⟨w.heap.size, 3, none⟩ (.int .i64 0))) := Lib.hid hW6
         have QQ := Lib.hid (And.intro q0 (And.intro q1 (And.intro q2 (And.intro q3 hBW))))
         clear hW6 q0 q1 q2 q3 hBW
         go_wp2_with fail
         rw [← HW6.out]
         obtain ⟨q0, q1, q2, q3, hBW⟩ := QQ.out
         exact bodyPost_ret (v := .tuple #[.agg #[.int .i64 0, .int .i64 0, .int .i64 0, .int .i64 0], .int .i64 15]) (by simp [results, Tryd.results22, go_sem, q0, q1, q2, q3, zero]) rfl ⟨by rw [RN.out]; rfl, hBW⟩
       | some q =>
         obtain ⟨i, u⟩ := q
         rw [hp] at SE
         have HPI := Lib.hid hp
         obtain ⟨hi4, -, -⟩ := setting_some hp
         have h5 : i = 0 ∨ i = 1 ∨ i = 2 ∨ i = 3 := by omega
         clear hp hi4
         rcases h5 with rfl | rfl | rfl | rfl
         · go_wp2_with fail
           refine (SE.out).mono ?_; rintro e w7 ⟨rfl, hb7⟩
           have B7 := Lib.hid (B.out.keep hb7)
           have hy : w7.cell? ⟨gs, 0, none⟩ = some (.bool st.2.a) := cell_of B7.out.h 0
           have hfy : w7.frozen? ⟨gs, 0, none⟩ = false := free_of B7.out.h 0
           clear hb7 SE
           cases hh : st.2.a with
           | true =>
             rw [hh] at hy
             have RN := Lib.hid (PN1.out (by rw [RK.out, step_dup HPI.out (show st.2.at 0 = true from hh)]; rfl))
             clear hh
             obtain ⟨y0, y1, y2, y3, z0, z1, z2, z3⟩ := out_cells B7.out.out
             obtain ⟨W6, hW6, q0, q1, q2, q3, hBW⟩ := res_zero B7.out.out B7.out.below zero
             have HW6 : Hid (W6 = ((((w7.setCell ⟨w.heap.size, 0, none⟩ (.int .i64 0)).setCell ⟨w.heap.size, 1, none⟩ (.int .i64 0)).setCell ⟨w.heap.size, 2, none⟩ (.int .i64 0)).setCell ⟨w.heap.size, 3, none⟩ (.int .i64 0))) := Lib.hid hW6
             have QQ := Lib.hid (And.intro q0 (And.intro q1 (And.intro q2 (And.intro q3 hBW))))
             clear hW6 q0 q1 q2 q3 hBW
             go_wp2_with fail
             rw [← HW6.out]
             obtain ⟨q0, q1, q2, q3, hBW⟩ := QQ.out
             exact bodyPost_ret (v := .tuple #[.agg #[.int .i64 0, .int .i64 0, .int .i64 0, .int .i64 0], .int .i64 15]) (by simp [results, Tryd.results22, go_sem, q0, q1, q2, q3, zero]) rfl ⟨by rw [RN.out]; rfl, hBW⟩
           | false =>
             rw [hh] at hy
             have RN := Lib.hid (RK.out.trans (by rw [step_set HPI.out (show st.2.at 0 = false from hh)]; rfl : _ = rd (zs.drop (k + 1)) (st.1.put 0 (u : Nat), st.2.put 0)))
             have B8 : Hid (RpB w gl gs gp cur true (st.1, st.2.put 0) (w7.setCell ⟨gs, 0, none⟩ (.bool true))) := Lib.hid (B7.out.setH G1.out G2.out HGP.out 0 rfl)
             have hx : (w7.setCell ⟨gs, 0, none⟩ (.bool true)).cell? ⟨gl, 0, none⟩ = some (.int .i64 st.1.a) := cell_of B8.out.l 0
             have hfx : (w7.setCell ⟨gs, 0, none⟩ (.bool true)).frozen? ⟨gl, 0, none⟩ = false := free_of B8.out.l 0
             have B9 : Hid (RpB w gl gs gp cur true (st.1.put 0 (u : Nat), st.2.put 0) ((w7.setCell ⟨gs, 0, none⟩ (.bool true)).setCell ⟨gl, 0, none⟩ (.int .i64 ((u : Nat) : Int)))) := Lib.hid (B8.out.setL G1.out G2.out HGP.out 0 rfl)
             clear hh
             go_wp2_with fail
             go_roundw
             case rel => exact ⟨k + 1, _, hlt, by go_num, RN.out, B9.out⟩
             case measure => simp [intOf]; omega
         · go_wp2_with fail
           refine (SE.out).mono ?_; rintro e w7 ⟨rfl, hb7⟩
           have B7 := Lib.hid (B.out.keep hb7)
           have hy : w7.cell? ⟨gs, 1, none⟩ = some (.bool st.2.b) := cell_of B7.out.h 1
           have hfy : w7.frozen? ⟨gs, 1, none⟩ = false := free_of B7.out.h 1
           clear hb7 SE
           cases hh : st.2.b with
           | true =>
             rw [hh] at hy
             have RN := Lib.hid (PN1.out (by rw [RK.out, step_dup HPI.out (show st.2.at 1 = true from hh)]; rfl))
             clear hh
             obtain ⟨y0, y1, y2, y3, z0, z1, z2, z3⟩ := out_cells B7.out.out
             obtain ⟨W6, hW6, q0, q1, q2, q3, hBW⟩ := res_zero B7.out.out B7.out.below zero
             have HW6 : Hid (W6 = ((((w7.setCell ⟨w.heap.size, 0, none⟩ (.int .i64 0)).setCell ⟨w.heap.size, 1, none⟩ (.int .i64 0)).setCell ⟨w.heap.size, 2, none⟩ (.int .i64 0)).setCell ⟨w.heap.size, 3, none⟩ (.int .i64 0))) := Lib.hid hW6
             have QQ := Lib.hid (And.intro q0 (And.intro q1 (And.intro q2 (And.intro q3 hBW))))
             clear hW6 q0 q1 q2 q3 hBW
             go_wp2_with fail
             rw [← HW6.out]
             obtain ⟨q0, q1, q2, q3, hBW⟩ := QQ.out
             exact bodyPost_ret (v := .tuple #[.agg #[.int .i64 0, .int .i64 0, .int .i64 0, .int .i64 0], .int .i64 15]) (by simp [results, Tryd.results22, go_sem, q0, q1, q2, q3, zero]) rfl ⟨by rw [RN.out]; rfl, hBW⟩
           | false =>
             rw [hh] at hy
             have RN := Lib.hid (RK.out.trans (by rw [step_set HPI.out (show st.2.at 1 = false from hh)]; rfl : _ = rd (zs.drop (k + 1)) (st.1.put 1 (u : Nat), st.2.put 1)))
             have B8 : Hid (RpB w gl gs gp cur true (st.1, st.2.put 1) (w7.setCell ⟨gs, 1, none⟩ (.bool true))) := Lib.hid (B7.out.setH G1.out G2.out HGP.out 1 rfl)
             have hx : (w7.setCell ⟨gs, 1, none⟩ (.bool true)).cell? ⟨gl, 1, none⟩ = some (.int .i64 st.1.b) := cell_of B8.out.l 1
             have hfx : (w7.setCell ⟨gs, 1, none⟩ (.bool true)).frozen? ⟨gl, 1, none⟩ = false := free_of B8.out.l 1
             have B9 : Hid (RpB w gl gs gp cur true (st.1.put 1 (u : Nat), st.2.put 1) ((w7.setCell ⟨gs, 1, none⟩ (.bool true)).setCell ⟨gl, 1, none⟩ (.int .i64 ((u : Nat) : Int)))) := Lib.hid (B8.out.setL G1.out G2.out HGP.out 1 rfl)
             clear hh
             go_wp2_with fail
             go_roundw
             case rel => exact ⟨k + 1, _, hlt, by go_num, RN.out, B9.out⟩
             case measure => simp [intOf]; omega
         · go_wp2_with fail
           refine (SE.out).mono ?_; rintro e w7 ⟨rfl, hb7⟩
           have B7 := Lib.hid (B.out.keep hb7)
           have hy : w7.cell? ⟨gs, 2, none⟩ = some (.bool st.2.c) := cell_of B7.out.h 2
           have hfy : w7.frozen? ⟨gs, 2, none⟩ = false := free_of B7.out.h 2
           clear hb7 SE
           cases hh : st.2.c with
           | true =>
             rw [hh] at hy
             have RN := Lib.hid (PN1.out (by rw [RK.out, step_dup HPI.out (show st.2.at 2 = true from hh)]; rfl))
             clear hh
             obtain ⟨y0, y1, y2, y3, z0, z1, z2, z3⟩ := out_cells B7.out.out
             obtain ⟨W6, hW6, q0, q1, q2, q3, hBW⟩ := res_zero B7.out.out B7.out.below zero
             have HW6 : Hid (W6 = ((((w7.setCell ⟨w.heap.size, 0, none⟩ (.int .i64 0)).setCell ⟨w.heap.size, 1, none⟩ (.int .i64 0)).setCell ⟨w.heap.size, 2, none⟩ (.int .i64 0)).setCell ⟨w.heap.size, 3, none⟩ (.int .i64 0))) := Lib.hid hW6
             have QQ := Lib.hid (And.intro q0 (And.intro q1 (And.intro q2 (And.intro q3 hBW))))
             clear hW6 q0 q1 q2 q3 hBW
             go_wp2_with fail
             rw [← HW6.out]
             obtain ⟨q0, q1, q2, q3, hBW⟩ := QQ.out
             exact bodyPost_ret (v := .tuple #[.agg #[.int .i64 0, .int .i64 0, .int .i64 0, .int .i64 0], .int .i64 15]) (by simp [results, Tryd.results22, go_sem, q0, q1, q2, q3, zero]) rfl ⟨by rw [RN.out]; rfl, hBW⟩
           | false =>
             rw [hh] at hy
             have RN := Lib.hid (RK.out.trans (by rw [step_set HPI.out (show st.2.at 2 = false from hh)]; rfl : _ = rd (zs.drop (k + 1)) (st.1.put 2 (u : Nat), st.2.put 2)))
             have B8 : Hid (RpB w gl gs gp cur true (st.1, st.2.put 2) (w7.setCell ⟨gs, 2, none⟩ (.bool true))) := Lib.hid (B7.out.setH G1.out G2.out HGP.out 2 rfl)
             have hx : (w7.setCell ⟨gs, 2, none⟩ (.bool true)).cell? ⟨gl, 2, none⟩ = some (.int .i64 st.1.c) := cell_of B8.out.l 2
             have hfx : (w7.setCell ⟨gs, 2, none⟩ (.bool true)).frozen? ⟨gl, 2, none⟩ = false := free_of B8.out.l 2
             have B9 : Hid (RpB w gl gs gp cur true (st.1.put 2 (u : Nat), st.2.put 2) ((w7.setCell ⟨gs, 2, none⟩ (.bool true)).setCell ⟨gl, 2, none⟩ (.int .i64 ((u : Nat) : Int)))) := Lib.hid (B8.out.setL G1.out G2.out HGP.out 2 rfl)
             clear hh
             go_wp2_with fail
             go_roundw
             case rel => exact ⟨k + 1, _, hlt, by go_num, RN.out, B9.out⟩
             case measure => simp [intOf]; omega
         · go_wp2_with fail
           refine (SE.out).mono ?_; rintro e w7 ⟨rfl, hb7⟩
           have B7 := Lib.hid (B.out.keep hb7)
           have hy : w7.cell? ⟨gs, 3, none⟩ = some (.bool st.2.d) := cell_of B7.out.h 3
           have hfy : w7.frozen? ⟨gs, 3, none⟩ = false := free_of B7.out.h 3
           clear hb7 SE
           cases hh : st.2.d with
           | true =>
             rw [hh] at hy
             have RN := Lib.hid (PN1.out (by rw [RK.out, step_dup HPI.out (show st.2.at 3 = true from hh)]; rfl))
             clear hh
             obtain ⟨y0, y1, y2, y3, z0, z1, z2, z3⟩ := out_cells B7.out.out
             obtain ⟨W6, hW6, q0, q1, q2, q3, hBW⟩ := res_zero B7.out.out B7.out.below zero
             have HW6 : Hid (W6 = ((((w7.setCell ⟨w.heap.size, 0, none⟩ (.int .i64 0)).setCell ⟨w.heap.size, 1, none⟩ (.int .i64 0)).setCell ⟨w.heap.size, 2, none⟩ (.int .i64 0)).setCell ⟨w.heap.size, 3, none⟩ (.int .i64 0))) := Lib.hid hW6
             have QQ := Lib.hid (And.intro q0 (And.intro q1 (And.intro q2 (And.intro q3 hBW))))
             clear hW6 q0 q1 q2 q3 hBW
             go_wp2_with fail
             rw [← HW6.out]
             obtain ⟨q0, q1, q2, q3, hBW⟩ := QQ.out
             exact bodyPost_ret (v := .tuple #[.agg #[.int .i64 0, .int .i64 0, .int .i64 0, .int .i64 0], .int .i64 15]) (by simp [results, Tryd.results22, go_sem, q0, q1, q2, q3, zero]) rfl ⟨by rw [RN.out]; rfl, hBW⟩
           | false =>
             rw [hh] at hy
             have RN := Lib.hid (RK.out.trans (by rw [step_set HPI.out (show st.2.at 3 = false from hh)]; rfl : _ = rd (zs.drop (k + 1)) (st.1.put 3 (u : Nat), st.2.put 3)))
             have B8 : Hid (RpB w gl gs gp cur true (st.1, st.2.put 3) (w7.setCell ⟨gs, 3, none⟩ (.bool true))) := Lib.hid (B7.out.setH G1.out G2.out HGP.out 3 rfl)
             have hx : (w7.setCell ⟨gs, 3, none⟩ (.bool true)).cell? ⟨gl, 3, none⟩ = some (.int .i64 st.1.d) := cell_of B8.out.l 3
             have hfx : (w7.setCell ⟨gs, 3, none⟩ (.bool true)).frozen? ⟨gl, 3, none⟩ = false := free_of B8.out.l 3
             have B9 : Hid (RpB w gl gs gp cur true (st.1.put 3 (u : Nat), st.2.put 3) ((w7.setCell ⟨gs, 3, none⟩ (.bool true)).setCell ⟨gl, 3, none⟩ (.int .i64 ((u : Nat) : Int)))) := Lib.hid (B8.out.setL G1.out G2.out HGP.out 3 rfl)
             clear hh
             go_wp2_with fail
             go_roundw
             case rel => exact ⟨k + 1, _, hlt, by go_num, RN.out, B9.out⟩
             case measure => simp [intOf]; omega
     · have _ := hlt
       have hdr : zs.drop k = [] := List.drop_of_length_le (by omega)
       rw [hdr] at RD
       have RS2 : Hid (rd zs (dflt, hv0) = some st) := Lib.hid RD.out
       have SO := Lib.hid (RO.out st RS2.out)
       have HR := Lib.hid (PS1.out st RS2.out)
       have MD := Lib.hid (rmade st.1 B.out.l)
       obtain ⟨f, hv⟩ := st
       clear RD hdr RS2 PN1 PS1 RO
       go_wp2_with fail
       refine (MD.out).mono ?_; rintro e w7 ⟨rfl, hb7⟩
       have B7 := Lib.hid (B.out.keep hb7)
       have B8 := Lib.hid (B7.out.keep (Below.alloc (Below.refl _ _) (Nat.le_refl _) (.cells #[.int .i64 f.a, .int .i64 f.b, .int .i64 f.c, .int .i64 f.d] 25)))
       have X8 := Lib.hid (block_new w7 (.cells #[.int .i64 f.a, .int .i64 f.b, .int .i64 f.c, .int .i64 f.d] 25))
       have CK := Lib.hid (rcheck f SO.out (w7.alloc (.cells #[.int .i64 f.a, .int .i64 f.b, .int .i64 f.c, .int .i64 f.d] 25)))
       clear hb7 MD B
       unfold chk at CK
       dsimp only at HR ⊢
       by_cases hk : wrong f < 0
       · rw [if_pos hk] at CK HR
         clear hk
         go_wp2_with fail
         refine (CK.out).mono ?_; rintro e w9 ⟨rfl, hb9⟩
         have B9 := Lib.hid (B8.out.keep hb9)
         have hx := (hb9.block _ (lt_of_block X8.out)).trans X8.out
         have x0 : w9.cell? ⟨w7.heap.size, 0, none⟩ = some (.int .i64 f.a) := cell_of hx 0
         have x1 : w9.cell? ⟨w7.heap.size, 1, none⟩ = some (.int .i64 f.b) := cell_of hx 1
         have x2 : w9.cell? ⟨w7.heap.size, 2, none⟩ = some (.int .i64 f.c) := cell_of hx 2
         have x3 : w9.cell? ⟨w7.heap.size, 3, none⟩ = some (.int .i64 f.d) := cell_of hx 3
         obtain ⟨y0, y1, y2, y3, z0, z1, z2, z3⟩ := out_cells B9.out.out
         obtain ⟨W6, hW6, q0, q1, q2, q3, hBW⟩ := res_zero B9.out.out B9.out.below f
         have HW6 := Lib.hid hW6
         have QQ := Lib.hid (And.intro q0 (And.intro q1 (And.intro q2 (And.intro q3 hBW))))
         clear hb9 hx CK hW6 q0 q1 q2 q3 hBW
         go_wp2_with fail
         rw [← HW6.out]
         obtain ⟨q0, q1, q2, q3, hBW⟩ := QQ.out
         exact bodyPost_ret (v := .tuple #[.agg #[.int .i64 f.a, .int .i64 f.b, .int .i64 f.c, .int .i64 f.d], .int .i64 0]) (by simp [results, Tryd.results22, go_sem, q0, q1, q2, q3]) rfl ⟨by rw [HR.out], hBW⟩
       · rw [if_neg hk] at CK HR
         clear hk
         go_wp2_with fail
         refine (CK.out).mono ?_; rintro e w9 ⟨rfl, hb9⟩
         have B9 := Lib.hid (B8.out.keep hb9)
         obtain ⟨y0, y1, y2, y3, z0, z1, z2, z3⟩ := out_cells B9.out.out
         obtain ⟨W6, hW6, q0, q1, q2, q3, hBW⟩ := res_zero B9.out.out B9.out.below zero
         have HW6 : Hid (W6 = ((((w9.setCell ⟨w.heap.size, 0, none⟩ (.int .i64 0)).setCell ⟨w.heap.size, 1, none⟩ (.int .i64 0)).setCell ⟨w.heap.size, 2, none⟩ (.int .i64 0)).setCell ⟨w.heap.size, 3, none⟩ (.int .i64 0))) := Lib.hid hW6
         have QQ := Lib.hid (And.intro q0 (And.intro q1 (And.intro q2 (And.intro q3 hBW))))
         clear hb9 CK hW6 q0 q1 q2 q3 hBW
         go_wp2_with fail
         rw [← HW6.out]
         obtain ⟨q0, q1, q2, q3, hBW⟩ := QQ.out
         exact bodyPost_ret (v := .tuple #[.agg #[.int .i64 0, .int .i64 0, .int .i64 0, .int .i64 0], .int .i64 2]) (by simp [results, Tryd.results22, go_sem, q0, q1, q2, q3, zero]) rfl ⟨by rw [HR.out]; rfl, hBW⟩
end Go.Proofs.YtabihdhgonnihaaDoor

/- read of the program. -/
import Derived.Test.YtabihdhgonnihaaDoorO
namespace Go.Proofs.YtabihdhgonnihaaDoor
open Go.ChangeShapes Go.WideShapes Go.ChangeAt Go.RowKit
set_option linter.unusedVariables false
set_option linter.unusedSimpArgs false

def ReadR (o : Option Cf) (e : Ending) : Prop := match o with
  | none => e = PN
  | some f => e = .returned (.agg #[.int .i64 f.a, .int .i64 f.b, .int .i64 f.c, .int .i64 f.d])
structure RdB (w : World) (g : Nat) (st : Cf × Hv) (wr : World) : Prop where
  f : wr.heap[g]? = some (.cells #[.int .i64 st.1.a, .int .i64 st.1.b, .int .i64 st.1.c, .int .i64 st.1.d] 60 (0, 0))
  h : wr.heap[g + 1]? = some (.cells #[.bool st.2.a, .bool st.2.b, .bool st.2.c, .bool st.2.d] 83 (0, 0))
  out : wr.heap[w.heap.size]? = some (.cells #[.int .i64 0, .int .i64 0, .int .i64 0, .int .i64 0] 60 (0, 0))
  below : Below w.heap.size w wr
theorem RdB.keep {w : World} {g : Nat} {st : Cf × Hv} {wr w' : World} (h : RdB w g st wr) (hb : Below wr.heap.size wr w') : RdB w g st w' :=
  ⟨(hb.block _ (lt_of_block h.f)).trans h.f, (hb.block _ (lt_of_block h.h)).trans h.h, (hb.block _ (lt_of_block h.out)).trans h.out, h.below.trans (hb.mono h.below.size)⟩
theorem RdB.setF {w : World} {g : Nat} {st : Cf × Hv} {wr : World} (h : RdB w g st wr) (hg : w.heap.size < g) (k : Nat) {v : Value} {f : Cf}
    (hc : (#[.int .i64 st.1.a, .int .i64 st.1.b, .int .i64 st.1.c, .int .i64 st.1.d] : Array Value).setIfInBounds k v = #[.int .i64 f.a, .int .i64 f.b, .int .i64 f.c, .int .i64 f.d]) : RdB w g (f, st.2) (wr.setCell ⟨g, k, none⟩ v) := by
  have h1 := set_of h.f k v
  rw [hc] at h1
  exact ⟨h1, block_set h.h (by simp) v, block_set h.out (by simp; omega) v, h.below.setCell (by simp; omega) _⟩
theorem RdB.setH {w : World} {g : Nat} {st : Cf × Hv} {wr : World} (h : RdB w g st wr) (hg : w.heap.size < g) (k : Nat) {v : Value} {f : Hv}
    (hc : (#[.bool st.2.a, .bool st.2.b, .bool st.2.c, .bool st.2.d] : Array Value).setIfInBounds k v = #[.bool f.a, .bool f.b, .bool f.c, .bool f.d]) : RdB w g (st.1, f) (wr.setCell ⟨g + 1, k, none⟩ v) := by
  have h1 := set_of h.h k v
  rw [hc] at h1
  exact ⟨block_set h.f (by simp) v, h1, block_set h.out (by simp; omega) v, h.below.setCell (by simp; omega) _⟩
def strLen (v : Value) : Nat := match v with | .string s => s.size | _ => 0
def rdM (v0 v5 : Value) : Nat := match v5 with | .bool true => strLen v0 + 1 | _ => 0
def RdRel (w : World) (g : Nat) (s0 : Str) (v0 v5 : Value) (wr : World) : Prop :=
  ∃ (s : Str) (m : Bool) (st : Cf × Hv), v0 = .string ⟨s.toArray⟩ ∧ v5 = .bool m ∧ s.length ≤ s0.length ∧ rd (parts s0) (dflt, hv0) = rd (if m then sp s else []) st ∧ RdB w g st wr
theorem cutc_len (c : UInt8) (s : Str) : (cutc c s).1.length ≤ s.length ∧ (cutc c s).2.1.length ≤ s.length ∧ ((cutc c s).2.2 = true → (cutc c s).2.1.length < s.length) := by
  cases h : (cutc c s).2.2 with
  | false => rw [cutc_miss c s h]; simp
  | true =>
    have := congrArg List.length (cutc_hit c s h)
    rw [List.length_append, List.length_cons] at this
    exact ⟨by omega, by omega, fun _ => by omega⟩
theorem rd_bad {p : Str} {l : List Str} {st : Cf × Hv} (h : step st p = none) : rd (p :: l) st = none := by unfold rd; rw [h]; rfl
theorem rd_next {p : Str} {l : List Str} {st st' : Cf × Hv} (h : step st p = some st') : rd (p :: l) st = rd l st' := by
  show (step st p).bind (rd l) = _
  rw [h]; rfl
theorem step_nofind {p : Str} {st : Cf × Hv} (h : find (cutc 61 p).1 = none) : step st p = none := step_bad (by unfold setting; rw [h]; rfl)
theorem step_nonum {p : Str} {st : Cf × Hv} (h : num (cutc 61 p).2.1 = none) : step st p = none := step_bad (by
  unfold setting; rw [h]; cases find (cutc 61 p).1 <;> rfl)
theorem step_had {p : Str} {st : Cf × Hv} {i : Nat} (h : find (cutc 61 p).1 = some i) (hh : st.2.at i = true) : step st p = none := by
  unfold step setting
  rw [h]
  cases hn : num (cutc 61 p).2.1 with
  | none => rfl
  | some u => show (if st.2.at i = true then none else _) = none; rw [if_pos hh]
theorem step_yes {p : Str} {st : Cf × Hv} {i u : Nat} (h : find (cutc 61 p).1 = some i) (hh : st.2.at i = false) (hn : num (cutc 61 p).2.1 = some u) : step st p = some (st.1.put i u, st.2.put i) := by
  unfold step setting
  rw [h, hn]
  show (if st.2.at i = true then none else some (st.1.put i (u : Int), st.2.put i)) = _
  rw [hh]; rfl
theorem read_of_rd {s : Str} {st : Option (Cf × Hv)} (h : rd (parts s) (dflt, hv0) = st) : read s = st.map (·.1) := by unfold read; rw [h]
set_option maxRecDepth 100000 in
set_option maxHeartbeats 4000000 in
theorem pread {w : World} (h : Env w) {s0 : Str} (hs : s0.length ≤ 1000000) : Calls Tryd.prog 42 #[.string ⟨s0.toArray⟩] w fun e w' => ReadR (read s0) e ∧ Below w.heap.size w w' := by
  have A : Hid (Below w.heap.size w (w.alloc (.cells #[.int .i64 0, .int .i64 0, .int .i64 0, .int .i64 0] 60))) := Lib.hid (Below.alloc (Below.refl _ _) (Nat.le_refl _) _)
  have P1 := Lib.hid (pdefault (w.alloc (.cells #[.int .i64 0, .int .i64 0, .int .i64 0, .int .i64 0] 60)))
  have P2 := Lib.hid (fun w' => psplit 60 1024 1024 1024 w')
  have X0 := Lib.hid (block_new w (.cells #[.int .i64 0, .int .i64 0, .int .i64 0, .int .i64 0] 60))
  have HE := Lib.hid h
  have HS := Lib.hid hs
  have hne : ∃ m0 : Bool, (!s0.isEmpty) = m0 ∧ rd (parts s0) (dflt, hv0) = rd (if m0 then sp s0 else []) (dflt, hv0) := by
    by_cases e : s0 = []
    · subst e; exact ⟨false, rfl, rfl⟩
    · exact ⟨true, by cases s0 with | nil => exact absurd rfl e | cons x l => rfl, by unfold parts; rw [if_neg e]; rfl⟩
  obtain ⟨m0, hm0, hrd⟩ := hne
  have RD0 := Lib.hid hrd
  clear h hs hrd
  go_enter Tryd.func42, Tryd.ntmps42
  go_wp2_with fail
  refine (P1.out).mono ?_; rintro e w1 ⟨rfl, hb1⟩
  have P3 := Lib.hid (P2.out w1)
  have B1 := Lib.hid (A.out.trans (hb1.mono A.out.size))
  have X1 := Lib.hid ((hb1.block _ (lt_of_block X0.out)).trans X0.out)
  clear hb1 P1 P2 X0
  go_wp2_with fail
  refine (P3.out).mono ?_; rintro e w2 ⟨rfl, hb2⟩
  have B2 := Lib.hid (B1.out.trans (hb2.mono B1.out.size))
  have X2 := Lib.hid ((hb2.block _ (lt_of_block X1.out)).trans X1.out)
  have hsz := lt_of_block X2.out
  have HSZ := Lib.hid hsz
  have RB : Hid (RdB w w2.heap.size (dflt, hv0) ((w2.alloc (.cells #[.int .i64 60, .int .i64 1024, .int .i64 1024, .int .i64 1024] 60)).alloc (.cells #[.bool false, .bool false, .bool false, .bool false] 83))) := Lib.hid
    ⟨block_old (block_new _ _) _, by
      have := block_new (w2.alloc (.cells #[.int .i64 60, .int .i64 1024, .int .i64 1024, .int .i64 1024] 60)) (.cells #[.bool false, .bool false, .bool false, .bool false] 83)
      rwa [show (w2.alloc (.cells #[.int .i64 60, .int .i64 1024, .int .i64 1024, .int .i64 1024] 60)).heap.size = w2.heap.size + 1 by simp] at this, block_old (block_old X2.out _) _, (B2.out.alloc B2.out.size _).alloc (by have := B2.out.size; simp; omega) _⟩
  clear hb2 X1 P3 A
  go_wp2_with fail
  generalize w2.heap.size = g at *
  go_loopw [0, 5] (fun v0 v5 wr => RdRel w g s0 v0 v5 wr) (fun v0 v5 _ => rdM v0 v5)
  case atStart => exact ⟨s0, m0, (dflt, hv0), rfl, by rw [← hm0], Nat.le_refl _, RD0.out, RB.out⟩
  case round =>
    obtain ⟨s, m, st, rfl, rfl, hl, hrd, hb⟩ := hrel
    have B := Lib.hid hb
    have RD := Lib.hid hrd
    have HL := Lib.hid hl
    have EW := Lib.hid (HE.out.below hb.below)
    clear hb hrd hl hm0
    cases m with
    | false =>
      have RE := Lib.hid (read_of_rd RD.out)
      have x0 : wr.cell? ⟨g, 0, none⟩ = some (.int .i64 st.1.a) := cell_of B.out.f 0
      have x1 : wr.cell? ⟨g, 1, none⟩ = some (.int .i64 st.1.b) := cell_of B.out.f 1
      have x2 : wr.cell? ⟨g, 2, none⟩ = some (.int .i64 st.1.c) := cell_of B.out.f 2
      have x3 : wr.cell? ⟨g, 3, none⟩ = some (.int .i64 st.1.d) := cell_of B.out.f 3
      have y0 : wr.cell? ⟨w.heap.size, 0, none⟩ = some (.int .i64 0) := cell_of B.out.out 0
      have y1 : wr.cell? ⟨w.heap.size, 1, none⟩ = some (.int .i64 0) := cell_of B.out.out 1
      have y2 : wr.cell? ⟨w.heap.size, 2, none⟩ = some (.int .i64 0) := cell_of B.out.out 2
      have y3 : wr.cell? ⟨w.heap.size, 3, none⟩ = some (.int .i64 0) := cell_of B.out.out 3
      have z0 : wr.frozen? ⟨w.heap.size, 0, none⟩ = false := free_of B.out.out 0
      have z1 : wr.frozen? ⟨w.heap.size, 1, none⟩ = false := free_of B.out.out 1
      have z2 : wr.frozen? ⟨w.heap.size, 2, none⟩ = false := free_of B.out.out 2
      have z3 : wr.frozen? ⟨w.heap.size, 3, none⟩ = false := free_of B.out.out 3
      obtain ⟨q, hv⟩ := st
      dsimp only at *
      have B6 : Hid (Below w.heap.size w ((((wr.setCell ⟨w.heap.size, 0, none⟩ (.int .i64 q.a)).setCell ⟨w.heap.size, 1, none⟩ (.int .i64 q.b)).setCell ⟨w.heap.size, 2, none⟩ (.int .i64 q.c)).setCell ⟨w.heap.size, 3, none⟩ (.int .i64 q.d))) := Lib.hid ((((B.out.below.setCell (by simp) _).setCell (by simp) _).setCell (by simp) _).setCell (by simp) _)
      have hy := set4 B.out.out rfl (.int .i64 q.a) (.int .i64 q.b) (.int .i64 q.c) (.int .i64 q.d)
      have HY := Lib.hid hy
      clear hy
      go_wp2_with fail
      clear y0 y1 y2 y3 z0 z1 z2 z3 x0 x1 x2 x3
      have hy := HY.out
      clear HY
      generalize (((wr.setCell ⟨w.heap.size, 0, none⟩ (.int .i64 q.a)).setCell ⟨w.heap.size, 1, none⟩ (.int .i64 q.b)).setCell ⟨w.heap.size, 2, none⟩ (.int .i64 q.c)).setCell ⟨w.heap.size, 3, none⟩ (.int .i64 q.d) = W6 at *
      have y0 : W6.cell? ⟨w.heap.size, 0, none⟩ = some (.int .i64 q.a) := cell_of hy 0
      have y1 : W6.cell? ⟨w.heap.size, 1, none⟩ = some (.int .i64 q.b) := cell_of hy 1
      have y2 : W6.cell? ⟨w.heap.size, 2, none⟩ = some (.int .i64 q.c) := cell_of hy 2
      have y3 : W6.cell? ⟨w.heap.size, 3, none⟩ = some (.int .i64 q.d) := cell_of hy 3
      exact bodyPost_ret (v := .agg #[.int .i64 q.a, .int .i64 q.b, .int .i64 q.c, .int .i64 q.d]) (by simp [results, Tryd.results42, go_sem, y0, y1, y2, y3]) rfl ⟨by rw [RE.out]; rfl, B6.out⟩
    | true =>
      obtain ⟨hc1, hc2, hc3⟩ := cutc_len 32 s
      have C1 := Lib.hid (l_cut EW.out 32 (s := s) (by have := HL.out; have := HS.out; omega))
      have hsp : rd (parts s0) (dflt, hv0) = rd ((cutc 32 s).1 :: (if (cutc 32 s).2.2 then sp (cutc 32 s).2.1 else [])) st := by rw [RD.out, ← sp_cut s]; rfl
      have hrl := (show (cutc 32 s).2.1.length ≤ s0.length by have := HL.out; omega)
      generalize (cutc 32 s).1 = a at *
      generalize (cutc 32 s).2.1 = r at *
      generalize (cutc 32 s).2.2 = m' at *
      have SP := Lib.hid hsp
      have HRL := Lib.hid hrl
      have HAL := Lib.hid (show a.length ≤ 1000000 by have := HL.out; have := HS.out; omega)
      have HM := Lib.hid hc3
      clear RD hsp hc1 hc2 hrl hc3
      go_wp2_with fail
      refine (C1.out).mono ?_; rintro e w3 ⟨rfl, hb3⟩
      have B3 := Lib.hid (B.out.keep hb3)
      have E3 := Lib.hid (EW.out.below hb3)
      obtain ⟨hd1, hd2, -⟩ := cutc_len 61 a
      have C2 := Lib.hid (l_cut E3.out 61 (s := a) (by have := HAL.out; omega))
      have NF := Lib.hid (fun (h : find (cutc 61 a).1 = none) => rd_bad (l := if m' then sp r else []) (step_nofind (st := st) h))
      have NN := Lib.hid (fun (h : num (cutc 61 a).2.1 = none) => rd_bad (l := if m' then sp r else []) (step_nonum (st := st) h))
      have NH := Lib.hid (fun i (h : find (cutc 61 a).1 = some i) (hh : st.2.at i = true) => rd_bad (l := if m' then sp r else []) (step_had h hh))
      have NY := Lib.hid (fun i u (h : find (cutc 61 a).1 = some i) (hh : st.2.at i = false) (hn : num (cutc 61 a).2.1 = some u) => rd_next (l := if m' then sp r else []) (step_yes h hh hn))
      have hdl : (cutc 61 a).2.1.length ≤ 1000000 := by have := HAL.out; omega
      generalize (cutc 61 a).1 = nam at *
      generalize (cutc 61 a).2.1 = dig at *
      generalize (cutc 61 a).2.2 = m2 at *
      have HDL := Lib.hid hdl
      clear hb3 C1 hd1 hd2 hdl
      go_wp2_with fail
      refine (C2.out).mono ?_; rintro e w4 ⟨rfl, hb4⟩
      have B4 := Lib.hid (B3.out.keep hb4)
      have E4 := Lib.hid (E3.out.below hb4)
      have PF := Lib.hid (pfind E4.out nam)
      clear hb4 C2
      cases hf : find nam with
      | none =>
        rw [hf] at PF
        have RE := Lib.hid (read_of_rd (SP.out.trans (NF.out hf)))
        clear hf
        go_wp2_with fail
        refine (PF.out).mono ?_; rintro e w5 ⟨rfl, hb5⟩
        have B5 := Lib.hid (B4.out.keep hb5)
        clear hb5
        go_wp2_with fail
        exact ⟨rfl, by rw [RE.out]; rfl, B5.out.below⟩
      | some i =>
        rw [hf] at PF
        have HFI := Lib.hid hf
        obtain ⟨hi4, -⟩ := find_some hf
        clear hf
        have h5 : i = 0 ∨ i = 1 ∨ i = 2 ∨ i = 3 := by omega
        clear hi4
        rcases h5 with rfl | rfl | rfl | rfl
        · go_wp2_with fail
          refine (PF.out).mono ?_; rintro e w5 ⟨rfl, hb5⟩
          have B5 := Lib.hid (B4.out.keep hb5)
          have E5 := Lib.hid (E4.out.below hb5)
          have hy : w5.cell? ⟨g + 1, 0, none⟩ = some (.bool st.2.a) := cell_of B5.out.h 0
          have hfy : w5.frozen? ⟨g + 1, 0, none⟩ = false := free_of B5.out.h 0
          clear hb5 PF
          cases hh : st.2.a with
          | true =>
            rw [hh] at hy
            have RE := Lib.hid (read_of_rd (SP.out.trans (NH.out 0 HFI.out hh)))
            clear hh
            go_wp2_with fail
            exact ⟨rfl, by rw [RE.out]; rfl, B5.out.below⟩
          | false =>
            rw [hh] at hy
            have HH := Lib.hid hh
            have B6 : Hid (RdB w g (st.1, st.2.put 0) (w5.setCell ⟨g + 1, 0, none⟩ (.bool true))) := Lib.hid (B5.out.setH HSZ.out 0 rfl)
            have PN_ := Lib.hid (pnumber (HE.out.below B6.out.below) HDL.out)
            clear hh
            cases hn : num dig with
            | none =>
              rw [hn] at PN_
              have RE := Lib.hid (read_of_rd (SP.out.trans (NN.out hn)))
              clear hn
              go_wp2_with fail
              refine (PN_.out).mono ?_; rintro e w7 ⟨rfl, hb7⟩
              have B7 := Lib.hid (B6.out.keep hb7)
              clear hb7
              go_wp2_with fail
              exact ⟨rfl, by rw [RE.out]; rfl, B7.out.below⟩
            | some u =>
              rw [hn] at PN_
              have RN := Lib.hid (SP.out.trans (NY.out 0 u HFI.out HH.out hn))
              clear hn
              go_wp2_with fail
              refine (PN_.out).mono ?_; rintro e w7 ⟨rfl, hb7⟩
              have B7 := Lib.hid (B6.out.keep hb7)
              have hx : w7.cell? ⟨g, 0, none⟩ = some (.int .i64 st.1.a) := cell_of B7.out.f 0
              have hfx : w7.frozen? ⟨g, 0, none⟩ = false := free_of B7.out.f 0
              have B8 : Hid (RdB w g (st.1.put 0 (u : Int), st.2.put 0) (w7.setCell ⟨g, 0, none⟩ (.int .i64 (u : Int)))) := Lib.hid (B7.out.setF HSZ.out 0 rfl)
              clear hb7 PN_
              go_wp2_with fail
              go_roundw
              case rel => exact ⟨r, m', _, rfl, rfl, HRL.out, RN.out, B8.out⟩
              case measure =>
                have := HM.out
                cases m' with
                | false => simp [rdM]
                | true => simp [rdM, strLen, ByteArray.size] at this ⊢; omega
        · go_wp2_with fail
          refine (PF.out).mono ?_; rintro e w5 ⟨rfl, hb5⟩
          have B5 := Lib.hid (B4.out.keep hb5)
          have E5 := Lib.hid (E4.out.below hb5)
          have hy : w5.cell? ⟨g + 1, 1, none⟩ = some (.bool st.2.b) := cell_of B5.out.h 1
          have hfy : w5.frozen? ⟨g + 1, 1, none⟩ = false := free_of B5.out.h 1
          clear hb5 PF
          cases hh : st.2.b with
          | true =>
            rw [hh] at hy
            have RE := Lib.hid (read_of_rd (SP.out.trans (NH.out 1 HFI.out hh)))
            clear hh
            go_wp2_with fail
            exact ⟨rfl, by rw [RE.out]; rfl, B5.out.below⟩
          | false =>
            rw [hh] at hy
            have HH := Lib.hid hh
            have B6 : Hid (RdB w g (st.1, st.2.put 1) (w5.setCell ⟨g + 1, 1, none⟩ (.bool true))) := Lib.hid (B5.out.setH HSZ.out 1 rfl)
            have PN_ := Lib.hid (pnumber (HE.out.below B6.out.below) HDL.out)
            clear hh
            cases hn : num dig with
            | none =>
              rw [hn] at PN_
              have RE := Lib.hid (read_of_rd (SP.out.trans (NN.out hn)))
              clear hn
              go_wp2_with fail
              refine (PN_.out).mono ?_; rintro e w7 ⟨rfl, hb7⟩
              have B7 := Lib.hid (B6.out.keep hb7)
              clear hb7
              go_wp2_with fail
              exact ⟨rfl, by rw [RE.out]; rfl, B7.out.below⟩
            | some u =>
              rw [hn] at PN_
              have RN := Lib.hid (SP.out.trans (NY.out 1 u HFI.out HH.out hn))
              clear hn
              go_wp2_with fail
              refine (PN_.out).mono ?_; rintro e w7 ⟨rfl, hb7⟩
              have B7 := Lib.hid (B6.out.keep hb7)
              have hx : w7.cell? ⟨g, 1, none⟩ = some (.int .i64 st.1.b) := cell_of B7.out.f 1
              have hfx : w7.frozen? ⟨g, 1, none⟩ = false := free_of B7.out.f 1
              have B8 : Hid (RdB w g (st.1.put 1 (u : Int), st.2.put 1) (w7.setCell ⟨g, 1, none⟩ (.int .i64 (u : Int)))) := Lib.hid (B7.out.setF HSZ.out 1 rfl)
              clear hb7 PN_
              go_wp2_with fail
              go_roundw
              case rel => exact ⟨r, m', _, rfl, rfl, HRL.out, RN.out, B8.out⟩
              case measure =>
                have := HM.out
                cases m' with
                | false => simp [rdM]
                | true => simp [rdM, strLen, ByteArray.size] at this ⊢; omega
        · go_wp2_with fail
          refine (PF.out).mono ?_; rintro e w5 ⟨rfl, hb5⟩
          have B5 := Lib.hid (B4.out.keep hb5)
          have E5 := Lib.hid (E4.out.below hb5)
          have hy : w5.cell? ⟨g + 1, 2, none⟩ = some (.bool st.2.c) := cell_of B5.out.h 2
          have hfy : w5.frozen? ⟨g + 1, 2, none⟩ = false := free_of B5.out.h 2
          clear hb5 PF
          cases hh : st.2.c with
          | true =>
            rw [hh] at hy
            have RE := Lib.hid (read_of_rd (SP.out.trans (NH.out 2 HFI.out hh)))
            clear hh
            go_wp2_with fail
            exact ⟨rfl, by rw [RE.out]; rfl, B5.out.below⟩
          | false =>
            rw [hh] at hy
            have HH := Lib.hid hh
            have B6 : Hid (RdB w g (st.1, st.2.put 2) (w5.setCell ⟨g + 1, 2, none⟩ (.bool true))) := Lib.hid (B5.out.setH HSZ.out 2 rfl)
            have PN_ := Lib.hid (pnumber (HE.out.below B6.out.below) HDL.out)
            clear hh
            cases hn : num dig with
            | none =>
              rw [hn] at PN_
              have RE := Lib.hid (read_of_rd (SP.out.trans (NN.out hn)))
              clear hn
              go_wp2_with fail
              refine (PN_.out).mono ?_; rintro e w7 ⟨rfl, hb7⟩
              have B7 := Lib.hid (B6.out.keep hb7)
              clear hb7
              go_wp2_with fail
              exact ⟨rfl, by rw [RE.out]; rfl, B7.out.below⟩
            | some u =>
              rw [hn] at PN_
              have RN := Lib.hid (SP.out.trans (NY.out 2 u HFI.out HH.out hn))
              clear hn
              go_wp2_with fail
              refine (PN_.out).mono ?_; rintro e w7 ⟨rfl, hb7⟩
              have B7 := Lib.hid (B6.out.keep hb7)
              have hx : w7.cell? ⟨g, 2, none⟩ = some (.int .i64 st.1.c) := cell_of B7.out.f 2
              have hfx : w7.frozen? ⟨g, 2, none⟩ = false := free_of B7.out.f 2
              have B8 : Hid (RdB w g (st.1.put 2 (u : Int), st.2.put 2) (w7.setCell ⟨g, 2, none⟩ (.int .i64 (u : Int)))) := Lib.hid (B7.out.setF HSZ.out 2 rfl)
              clear hb7 PN_
              go_wp2_with fail
              go_roundw
              case rel => exact ⟨r, m', _, rfl, rfl, HRL.out, RN.out, B8.out⟩
              case measure =>
                have := HM.out
                cases m' with
                | false => simp [rdM]
                | true => simp [rdM, strLen, ByteArray.size] at this ⊢; omega
        · go_wp2_with fail
          refine (PF.out).mono ?_; rintro e w5 ⟨rfl, hb5⟩
          have B5 := Lib.hid (B4.out.keep hb5)
          have E5 := Lib.hid (E4.out.below hb5)
          have hy : w5.cell? ⟨g + 1, 3, none⟩ = some (.bool st.2.d) := cell_of B5.out.h 3
          have hfy : w5.frozen? ⟨g + 1, 3, none⟩ = false := free_of B5.out.h 3
          clear hb5 PF
          cases hh : st.2.d with
          | true =>
            rw [hh] at hy
            have RE := Lib.hid (read_of_rd (SP.out.trans (NH.out 3 HFI.out hh)))
            clear hh
            go_wp2_with fail
            exact ⟨rfl, by rw [RE.out]; rfl, B5.out.below⟩
          | false =>
            rw [hh] at hy
            have HH := Lib.hid hh
            have B6 : Hid (RdB w g (st.1, st.2.put 3) (w5.setCell ⟨g + 1, 3, none⟩ (.bool true))) := Lib.hid (B5.out.setH HSZ.out 3 rfl)
            have PN_ := Lib.hid (pnumber (HE.out.below B6.out.below) HDL.out)
            clear hh
            cases hn : num dig with
            | none =>
              rw [hn] at PN_
              have RE := Lib.hid (read_of_rd (SP.out.trans (NN.out hn)))
              clear hn
              go_wp2_with fail
              refine (PN_.out).mono ?_; rintro e w7 ⟨rfl, hb7⟩
              have B7 := Lib.hid (B6.out.keep hb7)
              clear hb7
              go_wp2_with fail
              exact ⟨rfl, by rw [RE.out]; rfl, B7.out.below⟩
            | some u =>
              rw [hn] at PN_
              have RN := Lib.hid (SP.out.trans (NY.out 3 u HFI.out HH.out hn))
              clear hn
              go_wp2_with fail
              refine (PN_.out).mono ?_; rintro e w7 ⟨rfl, hb7⟩
              have B7 := Lib.hid (B6.out.keep hb7)
              have hx : w7.cell? ⟨g, 3, none⟩ = some (.int .i64 st.1.d) := cell_of B7.out.f 3
              have hfx : w7.frozen? ⟨g, 3, none⟩ = false := free_of B7.out.f 3
              have B8 : Hid (RdB w g (st.1.put 3 (u : Int), st.2.put 3) (w7.setCell ⟨g, 3, none⟩ (.int .i64 (u : Int)))) := Lib.hid (B7.out.setF HSZ.out 3 rfl)
              clear hb7 PN_
              go_wp2_with fail
              go_roundw
              case rel => exact ⟨r, m', _, rfl, rfl, HRL.out, RN.out, B8.out⟩
              case measure =>
                have := HM.out
                cases m' with
                | false => simp [rdM]
                | true => simp [rdM, strLen, ByteArray.size] at this ⊢; omega
end Go.Proofs.YtabihdhgonnihaaDoor

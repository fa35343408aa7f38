/- Parse of the program. -/
import Derived.Test.YtlmdkcpiimpniaaDoorRe
import Derived.Test.YtlmdkcpiimpniaaDoorVe
namespace Go.Proofs.YtlmdkcpiimpniaaDoor
open Go.ChangeShapes Go.WideShapes Go.ChangeAt Go.RowKit
set_option linter.unusedVariables false
set_option linter.unusedSimpArgs false

theorem sp_word : ∀ (s : Str), ∀ x ∈ sp s, x.length ≤ s.length
  | [], x, hx => by simp [sp] at hx; subst hx; simp
  | b :: l, x, hx => by
    have ih := sp_word l
    have hne := sp_ne l
    unfold sp at hx
    cases hs : sp l with
    | nil => exact absurd hs hne
    | cons y r =>
      rw [hs] at ih hx
      split at hx
      · rcases List.mem_cons.1 hx with rfl | hx
        · simp
        · have := ih x hx; simp only [List.length_cons]; omega
      · rcases List.mem_cons.1 hx with rfl | hx
        · have := ih y (by simp); show (b :: y).length ≤ _; simp only [List.length_cons]; omega
        · have := ih x (List.mem_cons_of_mem _ hx); simp only [List.length_cons]; omega
theorem pread {w : World} (hE : Env w) {wb n c : Nat} {ws : List Str} (hS : IsSl 1 encS w (some ⟨wb, 0, none⟩) n c ws) (hn1 : 1 ≤ n) (hn : n ≤ 1000000) (hws : ∀ s ∈ ws, s.length ≤ 1000000) :
    Calls Tryd.prog 39 #[.slice (some ⟨wb, 0, none⟩) n c] w (RdS w (readWords ws)) := by
  have hnl := hS.hlen
  obtain ⟨_, _, e, h0⟩ := sl_str hS (i := 0) (by omega)
  cases e
  rw [Nat.add_zero] at h0
  match ws, hnl, hS, hws, h0 with
  | [], hnl, _, _, _ => exact absurd hnl (by simp; omega)
  | [w0], hnl, hS, hws, h0 => exact pread_no hE (by omega) hn h0 _ rfl (Or.inr (by simp at hnl; omega))
  | w0 :: w1 :: rest, hnl, hS, hws, h0 =>
    have hn2 : 2 ≤ n := by simp only [List.length_cons] at hnl; omega
    show Calls Tryd.prog 39 _ w (RdS w ((findW w0).bind fun k => if w1 = errW then readErr k rest else if w1 = okW then readOk k rest else none))
    cases hf : findW w0 with
    | none => exact pread_no hE (by omega) hn h0 _ rfl (Or.inl hf)
    | some k =>
      obtain ⟨hk, hkw⟩ := findW_some hf
      show Calls Tryd.prog 39 _ w (RdS w (if w1 = errW then readErr k rest else if w1 = okW then readOk k rest else none))
      by_cases h1 : w1 = errW
      · rw [if_pos h1]
        match rest, hnl, hS, hws, h0 with
        | [], hnl, hS, hws, h0 => exact pread_e1 hE hS hn2 hn hws hk hkw rfl _ h1 (by simp at hnl; omega) rfl
        | x :: y :: l, hnl, hS, hws, h0 => exact pread_e1 hE hS hn2 hn hws hk hkw rfl _ h1 (by simp only [List.length_cons] at hnl; omega) rfl
        | [x], hnl, hS, hws, h0 =>
          have hn3 : n = 3 := by simpa using hnl
          cases hs : sgn x with
          | none => exact pread_e2 hE hS hn2 hn hws hk hkw rfl _ h1 hn3 hs (by show (sgn x).bind _ = none; rw [hs]; rfl)
          | some v =>
            by_cases hv : 1 ≤ v ∧ v ≤ 18
            · exact pread_e4 hE hS hn2 hn hws hk hkw rfl _ h1 hn3 v hs hv (by
                show (sgn x).bind (fun v => if 1 ≤ v ∧ v ≤ 18 then some (⟨k, v, false, [], []⟩ : Rp) else none) = _
                rw [hs]
                show (if 1 ≤ v ∧ v ≤ 18 then some (⟨k, v, false, [], []⟩ : Rp) else none) = _
                rw [if_pos hv])
            · exact pread_e3 hE hS hn2 hn hws hk hkw rfl _ h1 hn3 v hs hv (by
                show (sgn x).bind (fun v => if 1 ≤ v ∧ v ≤ 18 then some (⟨k, v, false, [], []⟩ : Rp) else none) = _
                rw [hs]
                show (if 1 ≤ v ∧ v ≤ 18 then some (⟨k, v, false, [], []⟩ : Rp) else none) = _
                rw [if_neg hv])
      · rw [if_neg h1]
        by_cases h2 : w1 = okW
        · rw [if_pos h2]
          by_cases ha : asksK k = true
          · match rest, hnl, hS, hws, h0 with
            | [], hnl, hS, hws, h0 => exact pread_k0 hE hS hn2 hn hws hk hkw rfl _ h2 ha (by simpa using hnl) (by unfold readOk; rw [if_pos ha])
            | y :: l, hnl, hS, hws, h0 =>
              have hn3 : 3 ≤ n := by simp only [List.length_cons] at hnl; omega
              have e : readOk k (y :: l) = if y = yesW ∨ y = noW then (ents k l).map (fun q => (⟨k, 0, decide (y = yesW), q.1, q.2⟩ : Rp)) else none := by unfold readOk; rw [if_pos ha]
              rw [e]
              by_cases hy : y = yesW
              · exact pread_yes hE hS hn2 hn hws hk hkw rfl _ h2 ha hn3 hy (by rw [if_pos (Or.inl hy), decide_eq_true hy]; rfl)
              · by_cases hy2 : y = noW
                · exact pread_noo hE hS hn2 hn hws hk hkw rfl _ h2 ha hn3 hy2 (by rw [if_pos (Or.inr hy2), decide_eq_false hy]; rfl)
                · exact pread_k1 hE hS hn2 hn hws hk hkw rfl _ h2 ha hn3 hy hy2 (by rw [if_neg (by simp [hy, hy2])])
          · exact pread_o hE hS hn2 hn hws hk hkw rfl _ h2 (by simpa using ha) (by unfold readOk; rw [if_neg ha]; rfl)
        · rw [if_neg h2]
          exact pread_x hE hS hn2 hn hws hk hkw rfl _ rfl h1 h2
def r0 : Rp := ⟨0, 0, false, [], []⟩
/-- What Parse returns. -/
def PaS (w : World) (R : Option Rp) (e : Ending) (w' : World) : Prop :=
  ∃ a c a' c', e = .returned (.tuple #[.agg (rpV (R.getD r0) a c a' c'), .int .i64 (if R.isSome = true then 0 else 15)]) ∧ LsR w' (R.getD r0) a c a' c' ∧ Below w.heap.size w w'
theorem pas_bad {w w' : World} {R : Option Rp} (h : R = none) (hb : Below w.heap.size w w') : PaS w R (.returned (.tuple #[.agg #[.int .i64 0, .int .i64 0, .bool false, .slice none 0 0, .slice none 0 0], .int .i64 15])) w' := by
  subst h
  exact ⟨none, 0, none, 0, rfl, ⟨IsSl.nil _, IsSl.nil _⟩, hb⟩
theorem count_le_len (s : Str) : s.count 32 ≤ s.length := List.count_le_length
theorem rdW_len {k : Nat} : ∀ (ws : List Str) (i : Nat) (p : List Nat) (q : List Int) (R : List Nat × List Int), rdW k i ws (p, q) = some R → R.1.length ≤ p.length + ws.length ∧ R.2.length ≤ q.length + ws.length
  | [], i, p, q, R, h => by cases h; exact ⟨Nat.le_refl _, Nat.le_refl _⟩
  | w :: ws, i, p, q, R, h => by
    rw [rdW_cons] at h
    split at h
    · cases hu : uns w with
      | none => rw [hu] at h; cases h
      | some x =>
        rw [hu] at h
        have := rdW_len ws (i + 1) (p ++ [x]) q R h
        simp only [List.length_append, List.length_cons, List.length_nil] at this ⊢
        omega
    · cases hu : sgn w with
      | none => rw [hu] at h; cases h
      | some x =>
        rw [hu] at h
        have := rdW_len ws (i + 1) p (q ++ [x]) R h
        simp only [List.length_append, List.length_cons, List.length_nil] at this ⊢
        omega
theorem ents_len {k : Nat} {ws : List Str} {R : List Nat × List Int} (h : ents k ws = some R) : R.1.length ≤ ws.length ∧ R.2.length ≤ ws.length := by
  unfold ents at h
  split at h
  · split at h
    · cases h; simp
    · cases h
  · split at h
    · cases h
    · have := rdW_len ws 0 [] [] R h; simpa using this
theorem readWords_len0 {ws : List Str} {r : Rp} (h : readWords ws = some r) : r.ids.length ≤ ws.length ∧ r.nums.length ≤ ws.length := by
  match ws, h with
  | w0 :: w1 :: rest, h =>
    change (findW w0).bind (fun k => if w1 = errW then readErr k rest else if w1 = okW then readOk k rest else none) = some r at h
    cases hw : findW w0 with
    | none => rw [hw] at h; cases h
    | some k =>
      rw [hw] at h
      change (if w1 = errW then readErr k rest else if w1 = okW then readOk k rest else none) = some r at h
      split at h
      · match rest, h with
        | [x], h =>
          change (sgn x).bind (fun v => if 1 ≤ v ∧ v ≤ 18 then some (⟨k, v, false, [], []⟩ : Rp) else none) = some r at h
          cases hx : sgn x with
          | none => rw [hx] at h; cases h
          | some v =>
            rw [hx] at h
            change (if 1 ≤ v ∧ v ≤ 18 then some (⟨k, v, false, [], []⟩ : Rp) else none) = some r at h
            split at h
            · cases h; simp
            · cases h
      · split at h
        · have key : ∀ (y : Bool) (l : List Str), (ents k l).map (fun q => (⟨k, 0, y, q.1, q.2⟩ : Rp)) = some r → r.ids.length ≤ l.length ∧ r.nums.length ≤ l.length := fun y l h => by
            cases he : ents k l with
            | none => rw [he] at h; cases h
            | some q => rw [he] at h; cases h; exact ents_len he
          unfold readOk at h
          split at h
          · match rest, h with
            | y :: l, h =>
              change (if y = yesW ∨ y = noW then (ents k l).map (fun q => (⟨k, 0, decide (y = yesW), q.1, q.2⟩ : Rp)) else none) = some r at h
              split at h
              · have := key _ _ h; simp only [List.length_cons]; omega
              · cases h
          · have := key _ _ h; simp only [List.length_cons]; omega
        · cases h
theorem readWords_len {s : Str} (hs : s.length ≤ 100000) {r : Rp} (h : readWords (sp s) = some r) : r.ids.length ≤ 100000000 ∧ r.nums.length ≤ 100000000 := by
  have := readWords_len0 h
  have := (sp_len s).2
  omega
theorem pas_ok {w w' : World} {R : Option Rp} {r : Rp} (h : R = some r) {a3 : Option Addr} {c3 : Nat} {a4 : Option Addr} {c4 : Nat} {B : Nat} (h3 : OutR 1 (encK .u64) 28 w' B (.slice a3 r.ids.length c3) (ns r.ids)) (h4 : OutR 1 (encK .i64) 2 w' B (.slice a4 r.nums.length c4) r.nums) (hb : Below w.heap.size w w') :
    PaS w R (.returned (.tuple #[.agg #[.int .i64 r.op, .int .i64 r.er, .bool r.yes, .slice a3 r.ids.length c3, .slice a4 r.nums.length c4], .int .i64 0])) w' := by
  subst h
  refine ⟨a3, c3, a4, c4, rfl, ⟨?_, ?_⟩, hb⟩
  · exact IsSl.of_own (encK_len _) (by have := h3.row; rwa [ns_len] at this) (ns_len _)
  · exact IsSl.of_own (encK_len _) h4.row rfl
end Go.Proofs.YtlmdkcpiimpniaaDoor
/- Parse of the program. -/
namespace Go.Proofs.YtlmdkcpiimpniaaDoor
open Go.ChangeShapes Go.WideShapes Go.ChangeAt Go.RowKit
set_option linter.unusedVariables false
set_option linter.unusedSimpArgs false

set_option maxRecDepth 100000 in
set_option maxHeartbeats 8000000 in
theorem pparse {w : World} (hE : Env w) {s : Str} (hs : s.length ≤ 100000) :
    Calls Tryd.prog 15 #[.string ⟨s.toArray⟩] w (PaS w (parseR s)) := by
  have A1 := Lib.hid (Below.alloc (Below.refl w.heap.size w) (Nat.le_refl _) (.cells #[.int .i64 0, .int .i64 0, .bool false, .slice none 0 0, .slice none 0 0] 27))
  have X1 := Lib.hid (block_new w (.cells #[.int .i64 0, .int .i64 0, .bool false, .slice none 0 0, .slice none 0 0] 27))
  have CC := Lib.hid (count_call s (w.alloc (.cells #[.int .i64 0, .int .i64 0, .bool false, .slice none 0 0, .slice none 0 0] 27)))
  have SC := Lib.hid (split_call (hE.below A1.out) s (by omega))
  have h1 : (w.alloc (.cells #[.int .i64 0, .int .i64 0, .bool false, .slice none 0 0, .slice none 0 0] 27)).heap.size = w.heap.size + 1 := by simp
  rw [h1] at SC
  have A2 : Hid (Below w.heap.size w ((w.alloc (.cells #[.int .i64 0, .int .i64 0, .bool false, .slice none 0 0, .slice none 0 0] 27)).alloc (.cells (strs (sp s)) 9))) := Lib.hid (A1.out.alloc (by simp) _)
  have X2 := Lib.hid (block_old X1.out (.cells (strs (sp s)) 9))
  have hsl := sp_len s
  have RD := Lib.hid (pread (hE.below A2.out) (strs_sl (w.alloc (.cells #[.int .i64 0, .int .i64 0, .bool false, .slice none 0 0, .slice none 0 0] 27)) (sp s) (by unfold maxLen; omega)) hsl.1 (by omega) (fun x hx => Nat.le_trans (sp_word s x hx) (by omega)))
  rw [h1] at RD
  have h2 : ((w.alloc (.cells #[.int .i64 0, .int .i64 0, .bool false, .slice none 0 0, .slice none 0 0] 27)).alloc (.cells (strs (sp s)) 9)).heap.size = w.heap.size + 2 := by simp
  have HC := Lib.hid (fun W (hb : Below w.heap.size w W) (r : Rp) a c a' c' (g1 : r.ids.length ≤ 100000000) (g2 : r.nums.length ≤ 100000000) => pcheck (hE.below hb) r a c a' c' g1 g2)
  have hp1 : Hid (readWords (sp s) = none → parseR s = none) := Lib.hid (fun h => by unfold parseR; rw [h]; rfl)
  have hp2 : Hid (∀ r, readWords (sp s) = some r → chk r = 0 → parseR s = some r) := Lib.hid (fun r h k => by unfold parseR; rw [h]; exact if_pos k)
  have hp3 : Hid (∀ r, readWords (sp s) = some r → chk r ≠ 0 → parseR s = none) := Lib.hid (fun r h k => by unfold parseR; rw [h]; exact if_neg k)
  have RIN := Lib.hid (fun r (h : readWords (sp s) = some r) => readWords_len hs h)
  have hcl := count_le_len s
  generalize List.count 32 s = cnt at *
  have d1 : decide (131074 < (cnt : Int)) = false := by simp; omega
  generalize parseR s = P at *
  generalize readWords (sp s) = RW at *
  obtain ⟨WS, hWS⟩ : ∃ WS, WS = ((w.alloc (.cells #[.int .i64 0, .int .i64 0, .bool false, .slice none 0 0, .slice none 0 0] 27)).alloc (.cells (strs (sp s)) 9)) := ⟨_, rfl⟩
  rw [← hWS] at A2 X2 RD h2 SC
  generalize (sp s).length = n at *
  clear hE hWS
  cases RW with
  | none =>
    have HP := Lib.hid (hp1.out rfl)
    clear hp1 hp2 hp3 RIN HC
    go_enter Tryd.func15, Tryd.ntmps15
    go_wp2_with fail
    refine (CC.out).mono ?_; rintro e w' ⟨rfl, rfl⟩
    go_wp2_with fail
    refine (SC.out).mono ?_; rintro e w2 ⟨rfl, rfl⟩
    go_wp2_with fail
    refine (RD.out).mono ?_; rintro e w3 ⟨o, er, y, a3, n3, c3, a4, n4, c4, ok, rfl, hb, f1, f2⟩
    have B3 := Lib.hid (A2.out.trans (hb.mono A2.out.size))
    have X3 := Lib.hid ((hb.block _ (lt_of_block X2.out)).trans X2.out)
    have hs3 : w.heap.size + 2 ≤ w3.heap.size := by have := hb.size; rw [h2] at this; exact this
    have hlt3 : w.heap.size < w3.heap.size := by omega
    obtain rfl : ok = false := f1 rfl
    clear f1 f2 hb
    have y0 : w3.cell? ⟨w.heap.size, 0, none⟩ = some (.int .i64 0) := cell_of X3.out 0
    have y1 : w3.cell? ⟨w.heap.size, 1, none⟩ = some (.int .i64 0) := cell_of X3.out 1
    have y2 : w3.cell? ⟨w.heap.size, 2, none⟩ = some (.bool false) := cell_of X3.out 2
    have y3 : w3.cell? ⟨w.heap.size, 3, none⟩ = some (.slice none 0 0) := cell_of X3.out 3
    have y4 : w3.cell? ⟨w.heap.size, 4, none⟩ = some (.slice none 0 0) := cell_of X3.out 4
    have qf : ∀ i, w3.frozen? ⟨w.heap.size, i, none⟩ = false := fun i => free_of X3.out i
    go_wp2_with fail
    have h7 := block_old (set5 X3.out rfl (.int .i64 0) (.int .i64 0) (.bool false) (.slice none 0 0) (.slice none 0 0)) (.cells #[.int .i64 o, .int .i64 er, .bool y, .slice a3 n3 c3, .slice a4 n4 c4] 27)
    have B7 := Lib.hid ((have b := below5 (x := w.heap.size) B3.out (by omega) (.int .i64 0) (.int .i64 0) (.bool false) (.slice none 0 0) (.slice none 0 0); b.alloc b.size (.cells #[.int .i64 o, .int .i64 er, .bool y, .slice a3 n3 c3, .slice a4 n4 c4] 27)))
    clear y0 y1 y2 y3 y4 qf
    generalize hW6 : (((((w3.setCell ⟨w.heap.size, 0, none⟩ (.int .i64 0)).setCell ⟨w.heap.size, 1, none⟩ (.int .i64 0)).setCell ⟨w.heap.size, 2, none⟩ (.bool false)).setCell ⟨w.heap.size, 3, none⟩ (.slice none 0 0)).setCell ⟨w.heap.size, 4, none⟩ (.slice none 0 0)).alloc (.cells #[.int .i64 o, .int .i64 er, .bool y, .slice a3 n3 c3, .slice a4 n4 c4] 27) = W6 at *
    have y0 : W6.cell? ⟨w.heap.size, 0, none⟩ = some (.int .i64 0) := cell_of h7 0
    have y1 : W6.cell? ⟨w.heap.size, 1, none⟩ = some (.int .i64 0) := cell_of h7 1
    have y2 : W6.cell? ⟨w.heap.size, 2, none⟩ = some (.bool false) := cell_of h7 2
    have y3 : W6.cell? ⟨w.heap.size, 3, none⟩ = some (.slice none 0 0) := cell_of h7 3
    have y4 : W6.cell? ⟨w.heap.size, 4, none⟩ = some (.slice none 0 0) := cell_of h7 4
    exact bodyPost_ret (v := .tuple #[.agg #[.int .i64 0, .int .i64 0, .bool false, .slice none 0 0, .slice none 0 0], .int .i64 15]) (by clear hW6 h7; simp [results, Tryd.results15, go_sem, y0, y1, y2, y3, y4]) rfl (pas_bad HP.out B7.out)
  | some r =>
    by_cases hk : chk r = 0
    · have HP := Lib.hid (hp2.out r rfl hk)
      clear hp1 hp2 hp3
      go_enter Tryd.func15, Tryd.ntmps15
      go_wp2_with fail
      refine (CC.out).mono ?_; rintro e w' ⟨rfl, rfl⟩
      go_wp2_with fail
      refine (SC.out).mono ?_; rintro e w2 ⟨rfl, rfl⟩
      go_wp2_with fail
      refine (RD.out).mono ?_; rintro e w3 ⟨o, er, y, a3, n3, c3, a4, n4, c4, ok, rfl, hb, f1, f2⟩
      have B3 := Lib.hid (A2.out.trans (hb.mono A2.out.size))
      have X3 := Lib.hid ((hb.block _ (lt_of_block X2.out)).trans X2.out)
      have hs3 : w.heap.size + 2 ≤ w3.heap.size := by have := hb.size; rw [h2] at this; exact this
      have hlt3 : w.heap.size < w3.heap.size := by omega
      obtain ⟨rfl, rfl, rfl, rfl, o3, o4⟩ := f2 r rfl
      obtain ⟨a3', c3', e3, s3⟩ := o3.sl
      obtain ⟨a4', c4', e4, s4⟩ := o4.sl
      cases e3
      cases e4
      rw [ns_len] at s3 ⊢
      have LL := Lib.hid (LsR.mk s3 s4)
      have OO := Lib.hid (And.intro o3 o4)
      rw [ns_len] at OO
      clear f1 f2 s3 s4 o3 o4
      have B4 := Lib.hid (B3.out.alloc (by omega) (.cells #[.int .i64 r.op, .int .i64 r.er, .bool r.yes, .slice a3 r.ids.length c3, .slice a4 r.nums.length c4] 27))
      have X4 := Lib.hid (block_old X3.out (.cells #[.int .i64 r.op, .int .i64 r.er, .bool r.yes, .slice a3 r.ids.length c3, .slice a4 r.nums.length c4] 27))
      have R4 := Lib.hid (block_new w3 (.cells #[.int .i64 r.op, .int .i64 r.er, .bool r.yes, .slice a3 r.ids.length c3, .slice a4 r.nums.length c4] 27))
      have PC := Lib.hid (HC.out _ B4.out r a3 c3 a4 c4 (RIN.out r rfl).1 (RIN.out r rfl).2)
      unfold rpV at PC
      clear HC RIN hb
      rw [hk] at PC
      have y0 : w3.cell? ⟨w.heap.size, 0, none⟩ = some (.int .i64 0) := cell_of X3.out 0
      have y1 : w3.cell? ⟨w.heap.size, 1, none⟩ = some (.int .i64 0) := cell_of X3.out 1
      have y2 : w3.cell? ⟨w.heap.size, 2, none⟩ = some (.bool false) := cell_of X3.out 2
      have y3 : w3.cell? ⟨w.heap.size, 3, none⟩ = some (.slice none 0 0) := cell_of X3.out 3
      have y4 : w3.cell? ⟨w.heap.size, 4, none⟩ = some (.slice none 0 0) := cell_of X3.out 4
      have qf : ∀ i, w3.frozen? ⟨w.heap.size, i, none⟩ = false := fun i => free_of X3.out i
      go_wp2_with fail
      refine (PC.out).mono ?_; rintro e w5 ⟨rfl, hb5⟩
      have B5 := Lib.hid (B4.out.trans (hb5.mono B4.out.size))
      have X5 := Lib.hid ((hb5.block _ (lt_of_block X4.out)).trans X4.out)
      have R5 := Lib.hid ((hb5.block _ (lt_of_block R4.out)).trans R4.out)
      have O5 := Lib.hid (And.intro (OO.out.1.below ((Below.alloc (Below.refl _ _) (Nat.le_refl _) _).trans (hb5.mono (by simp)))) (OO.out.2.below ((Below.alloc (Below.refl _ _) (Nat.le_refl _) _).trans (hb5.mono (by simp)))))
      clear y0 y1 y2 y3 y4 qf hb5
      have y0 : w5.cell? ⟨w.heap.size, 0, none⟩ = some (.int .i64 0) := cell_of X5.out 0
      have y1 : w5.cell? ⟨w.heap.size, 1, none⟩ = some (.int .i64 0) := cell_of X5.out 1
      have y2 : w5.cell? ⟨w.heap.size, 2, none⟩ = some (.bool false) := cell_of X5.out 2
      have y3 : w5.cell? ⟨w.heap.size, 3, none⟩ = some (.slice none 0 0) := cell_of X5.out 3
      have y4 : w5.cell? ⟨w.heap.size, 4, none⟩ = some (.slice none 0 0) := cell_of X5.out 4
      have qf : ∀ i, w5.frozen? ⟨w.heap.size, i, none⟩ = false := fun i => free_of X5.out i
      have z0 : w5.cell? ⟨w3.heap.size, 0, none⟩ = some (.int .i64 r.op) := cell_of R5.out 0
      have z1 : w5.cell? ⟨w3.heap.size, 1, none⟩ = some (.int .i64 r.er) := cell_of R5.out 1
      have z2 : w5.cell? ⟨w3.heap.size, 2, none⟩ = some (.bool r.yes) := cell_of R5.out 2
      have z3 : w5.cell? ⟨w3.heap.size, 3, none⟩ = some (.slice a3 r.ids.length c3) := cell_of R5.out 3
      have z4 : w5.cell? ⟨w3.heap.size, 4, none⟩ = some (.slice a4 r.nums.length c4) := cell_of R5.out 4
      go_wp2_with fail
      have Q5 := Lib.hid (And.intro (out5 (x := w.heap.size) O5.out.1 (by omega) (.int .i64 r.op) (.int .i64 r.er) (.bool r.yes) (.slice a3 r.ids.length c3) (.slice a4 r.nums.length c4)) (out5 (x := w.heap.size) O5.out.2 (by omega) (.int .i64 r.op) (.int .i64 r.er) (.bool r.yes) (.slice a3 r.ids.length c3) (.slice a4 r.nums.length c4)))
      have h7 := set5 X5.out rfl (.int .i64 r.op) (.int .i64 r.er) (.bool r.yes) (.slice a3 r.ids.length c3) (.slice a4 r.nums.length c4)
      have B7 := Lib.hid (below5 (x := w.heap.size) B5.out (by omega) (.int .i64 r.op) (.int .i64 r.er) (.bool r.yes) (.slice a3 r.ids.length c3) (.slice a4 r.nums.length c4))
      clear y0 y1 y2 y3 y4 qf z0 z1 z2 z3 z4
      generalize hW6 : ((((w5.setCell ⟨w.heap.size, 0, none⟩ (.int .i64 r.op)).setCell ⟨w.heap.size, 1, none⟩ (.int .i64 r.er)).setCell ⟨w.heap.size, 2, none⟩ (.bool r.yes)).setCell ⟨w.heap.size, 3, none⟩ (.slice a3 r.ids.length c3)).setCell ⟨w.heap.size, 4, none⟩ (.slice a4 r.nums.length c4) = W6 at *
      have y0 : W6.cell? ⟨w.heap.size, 0, none⟩ = some (.int .i64 r.op) := cell_of h7 0
      have y1 : W6.cell? ⟨w.heap.size, 1, none⟩ = some (.int .i64 r.er) := cell_of h7 1
      have y2 : W6.cell? ⟨w.heap.size, 2, none⟩ = some (.bool r.yes) := cell_of h7 2
      have y3 : W6.cell? ⟨w.heap.size, 3, none⟩ = some (.slice a3 r.ids.length c3) := cell_of h7 3
      have y4 : W6.cell? ⟨w.heap.size, 4, none⟩ = some (.slice a4 r.nums.length c4) := cell_of h7 4
      exact bodyPost_ret (v := .tuple #[.agg #[.int .i64 r.op, .int .i64 r.er, .bool r.yes, .slice a3 r.ids.length c3, .slice a4 r.nums.length c4], .int .i64 0]) (by clear hW6 h7; simp [results, Tryd.results15, go_sem, y0, y1, y2, y3, y4]) rfl (pas_ok HP.out Q5.out.1 Q5.out.2 B7.out)
    · have HP := Lib.hid (hp3.out r rfl hk)
      clear hp1 hp2 hp3
      have d2 : (chk r != 0) = true := by simpa using hk
      go_enter Tryd.func15, Tryd.ntmps15
      go_wp2_with fail
      refine (CC.out).mono ?_; rintro e w' ⟨rfl, rfl⟩
      go_wp2_with fail
      refine (SC.out).mono ?_; rintro e w2 ⟨rfl, rfl⟩
      go_wp2_with fail
      refine (RD.out).mono ?_; rintro e w3 ⟨o, er, y, a3, n3, c3, a4, n4, c4, ok, rfl, hb, f1, f2⟩
      have B3 := Lib.hid (A2.out.trans (hb.mono A2.out.size))
      have X3 := Lib.hid ((hb.block _ (lt_of_block X2.out)).trans X2.out)
      have hs3 : w.heap.size + 2 ≤ w3.heap.size := by have := hb.size; rw [h2] at this; exact this
      have hlt3 : w.heap.size < w3.heap.size := by omega
      obtain ⟨rfl, rfl, rfl, rfl, o3, o4⟩ := f2 r rfl
      obtain ⟨a3', c3', e3, s3⟩ := o3.sl
      obtain ⟨a4', c4', e4, s4⟩ := o4.sl
      cases e3
      cases e4
      rw [ns_len] at s3 ⊢
      have LL := Lib.hid (LsR.mk s3 s4)
      have OO := Lib.hid (And.intro o3 o4)
      rw [ns_len] at OO
      clear f1 f2 s3 s4 o3 o4
      have B4 := Lib.hid (B3.out.alloc (by omega) (.cells #[.int .i64 r.op, .int .i64 r.er, .bool r.yes, .slice a3 r.ids.length c3, .slice a4 r.nums.length c4] 27))
      have X4 := Lib.hid (block_old X3.out (.cells #[.int .i64 r.op, .int .i64 r.er, .bool r.yes, .slice a3 r.ids.length c3, .slice a4 r.nums.length c4] 27))
      have R4 := Lib.hid (block_new w3 (.cells #[.int .i64 r.op, .int .i64 r.er, .bool r.yes, .slice a3 r.ids.length c3, .slice a4 r.nums.length c4] 27))
      have PC := Lib.hid (HC.out _ B4.out r a3 c3 a4 c4 (RIN.out r rfl).1 (RIN.out r rfl).2)
      unfold rpV at PC
      clear HC RIN hb
      generalize chk r = ck at *
      clear hk OO LL
      have y0 : w3.cell? ⟨w.heap.size, 0, none⟩ = some (.int .i64 0) := cell_of X3.out 0
      have y1 : w3.cell? ⟨w.heap.size, 1, none⟩ = some (.int .i64 0) := cell_of X3.out 1
      have y2 : w3.cell? ⟨w.heap.size, 2, none⟩ = some (.bool false) := cell_of X3.out 2
      have y3 : w3.cell? ⟨w.heap.size, 3, none⟩ = some (.slice none 0 0) := cell_of X3.out 3
      have y4 : w3.cell? ⟨w.heap.size, 4, none⟩ = some (.slice none 0 0) := cell_of X3.out 4
      have qf : ∀ i, w3.frozen? ⟨w.heap.size, i, none⟩ = false := fun i => free_of X3.out i
      go_wp2_with fail
      refine (PC.out).mono ?_; rintro e w5 ⟨rfl, hb5⟩
      have B5 := Lib.hid (B4.out.trans (hb5.mono B4.out.size))
      have X5 := Lib.hid ((hb5.block _ (lt_of_block X4.out)).trans X4.out)
      have R5 := Lib.hid ((hb5.block _ (lt_of_block R4.out)).trans R4.out)
      clear y0 y1 y2 y3 y4 qf hb5
      have y0 : w5.cell? ⟨w.heap.size, 0, none⟩ = some (.int .i64 0) := cell_of X5.out 0
      have y1 : w5.cell? ⟨w.heap.size, 1, none⟩ = some (.int .i64 0) := cell_of X5.out 1
      have y2 : w5.cell? ⟨w.heap.size, 2, none⟩ = some (.bool false) := cell_of X5.out 2
      have y3 : w5.cell? ⟨w.heap.size, 3, none⟩ = some (.slice none 0 0) := cell_of X5.out 3
      have y4 : w5.cell? ⟨w.heap.size, 4, none⟩ = some (.slice none 0 0) := cell_of X5.out 4
      have qf : ∀ i, w5.frozen? ⟨w.heap.size, i, none⟩ = false := fun i => free_of X5.out i
      go_wp2_with fail
      have h7 := set5 X5.out rfl (.int .i64 0) (.int .i64 0) (.bool false) (.slice none 0 0) (.slice none 0 0)
      have B7 := Lib.hid (below5 (x := w.heap.size) B5.out (by omega) (.int .i64 0) (.int .i64 0) (.bool false) (.slice none 0 0) (.slice none 0 0))
      clear y0 y1 y2 y3 y4 qf
      generalize hW6 : ((((w5.setCell ⟨w.heap.size, 0, none⟩ (.int .i64 0)).setCell ⟨w.heap.size, 1, none⟩ (.int .i64 0)).setCell ⟨w.heap.size, 2, none⟩ (.bool false)).setCell ⟨w.heap.size, 3, none⟩ (.slice none 0 0)).setCell ⟨w.heap.size, 4, none⟩ (.slice none 0 0) = W6 at *
      have y0 : W6.cell? ⟨w.heap.size, 0, none⟩ = some (.int .i64 0) := cell_of h7 0
      have y1 : W6.cell? ⟨w.heap.size, 1, none⟩ = some (.int .i64 0) := cell_of h7 1
      have y2 : W6.cell? ⟨w.heap.size, 2, none⟩ = some (.bool false) := cell_of h7 2
      have y3 : W6.cell? ⟨w.heap.size, 3, none⟩ = some (.slice none 0 0) := cell_of h7 3
      have y4 : W6.cell? ⟨w.heap.size, 4, none⟩ = some (.slice none 0 0) := cell_of h7 4
      exact bodyPost_ret (v := .tuple #[.agg #[.int .i64 0, .int .i64 0, .bool false, .slice none 0 0, .slice none 0 0], .int .i64 15]) (by clear hW6 h7; simp [results, Tryd.results15, go_sem, y0, y1, y2, y3, y4]) rfl (pas_bad HP.out B7.out)
end Go.Proofs.YtlmdkcpiimpniaaDoor

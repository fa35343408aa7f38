/- Plain: what the document's Parse reads of the words of a line. -/
import Derived.Test.YtlmdkcpiimpniaaDoorLg
import Derived.Test.YtlmdkcpiimpniaaDoorVg
namespace Go.Proofs.YtlmdkcpiimpniaaDoor
open Go
set_option linter.unusedVariables false
set_option linter.unusedSimpArgs false

/-- The kind that was found last, among the first k. -/
def opv (W : Str) : Nat → Int
  | 0 => -1
  | k + 1 => if kwS k = W then (k : Int) else opv W k
theorem opv_kw : ∀ k : Fin 16, opv (kwS k.val) 16 = (k.val : Int) := by decide +kernel
theorem opv_none {W : Str} : ∀ k, (∀ j, j < k → kwS j ≠ W) → opv W k = -1
  | 0, _ => rfl
  | k + 1, h => by
    show (if kwS k = W then (k : Int) else opv W k) = -1
    rw [if_neg (h k (by omega)), opv_none k (fun j hj => h j (by omega))]
theorem opv_some {W : Str} {k : Nat} (h : findW W = some k) : opv W 16 = (k : Int) := by
  obtain ⟨hk, rfl⟩ := findW_some h
  exact opv_kw ⟨k, hk⟩
theorem opv_miss {W : Str} (h : findW W = none) : opv W 16 = -1 := opv_none 16 (fun j hj e => by
  have := findW_kw ⟨j, hj⟩
  simp only at this
  rw [e, h] at this
  cases this)
theorem opv_rng (W : Str) : ∀ k, -1 ≤ opv W k ∧ opv W k < (k : Int) + 1
  | 0 => ⟨Int.le_refl _, by show (-1 : Int) < 0 + 1; decide⟩
  | k + 1 => by
    have := opv_rng W k
    unfold opv
    split
    · omega
    · omega
/-- The numbers of the words, I of a round's words unsigned and M signed. -/
def lsG (I M : Nat) : Nat → List Str → List Nat × List Int → List Nat × List Int
  | _, [], acc => acc
  | i, w :: ws, acc => if i % (I + M) < I then lsG I M (i + 1) ws (acc.1 ++ [val 0 w], acc.2) else lsG I M (i + 1) ws (acc.1, acc.2 ++ [sval w])
theorem lsG_cons {I M i : Nat} {w : Str} {ws : List Str} {p : List Nat} {q : List Int} : lsG I M i (w :: ws) (p, q) = if i % (I + M) < I then lsG I M (i + 1) ws (p ++ [val 0 w], q) else lsG I M (i + 1) ws (p, q ++ [sval w]) := rfl
theorem lsG_lsW (k : Nat) : ∀ (ws : List Str) (i : Nat) (acc : List Nat × List Int), lsG (ki k) (kn k) i ws acc = lsW k i ws acc
  | [], i, acc => rfl
  | w :: ws, i, acc => by
    show (if i % (ki k + kn k) < ki k then lsG (ki k) (kn k) (i + 1) ws (acc.1 ++ [val 0 w], acc.2) else lsG (ki k) (kn k) (i + 1) ws (acc.1, acc.2 ++ [sval w])) = if i % (ki k + kn k) < ki k then lsW k (i + 1) ws (acc.1 ++ [val 0 w], acc.2) else lsW k (i + 1) ws (acc.1, acc.2 ++ [sval w])
    rw [lsG_lsW k ws, lsG_lsW k ws]
theorem lsG_rng (I M : Nat) : ∀ (ws : List Str) (i : Nat) (acc : List Nat × List Int), (∀ x ∈ acc.1, x ≤ 18446744073709551615) → (∀ x ∈ acc.2, -9223372036854775808 ≤ x ∧ x ≤ 9223372036854775807) →
    (∀ x ∈ (lsG I M i ws acc).1, x ≤ 18446744073709551615) ∧ (∀ x ∈ (lsG I M i ws acc).2, -9223372036854775808 ≤ x ∧ x ≤ 9223372036854775807)
  | [], i, acc, h1, h2 => ⟨h1, h2⟩
  | w :: ws, i, acc, h1, h2 => by
    unfold lsG
    split
    · refine lsG_rng I M ws (i + 1) _ (fun x hx => ?_) h2
      rcases List.mem_append.1 hx with hx | hx
      · exact h1 x hx
      · rw [List.mem_singleton.1 hx]; exact val_lt _ _ (by decide)
    · refine lsG_rng I M ws (i + 1) _ h1 (fun x hx => ?_)
      rcases List.mem_append.1 hx with hx | hx
      · exact h2 x hx
      · rw [List.mem_singleton.1 hx]; exact sval_rng w
theorem lsG_len (I M : Nat) : ∀ (ws : List Str) (i : Nat) (acc : List Nat × List Int), (lsG I M i ws acc).1.length ≤ acc.1.length + ws.length ∧ (lsG I M i ws acc).2.length ≤ acc.2.length + ws.length
  | [], i, acc => ⟨Nat.le_refl _, Nat.le_refl _⟩
  | w :: ws, i, acc => by
    unfold lsG
    split
    · have := lsG_len I M ws (i + 1) (acc.1 ++ [val 0 w], acc.2)
      simp only [List.length_append, List.length_cons, List.length_nil] at this ⊢
      omega
    · have := lsG_len I M ws (i + 1) (acc.1, acc.2 ++ [sval w])
      simp only [List.length_append, List.length_cons, List.length_nil] at this ⊢
      omega
theorem in_lsG {k : Int} {er : Int} {y : Bool} (I M : Nat) (ws : List Str) : RpIn ⟨k, er, y, (lsG I M 0 ws ([], [])).1, (lsG I M 0 ws ([], [])).2⟩ :=
  ⟨(lsG_rng I M ws 0 ([], []) (fun x hx => (by cases hx)) (fun x hx => (by cases hx))).1, (lsG_rng I M ws 0 ([], []) (fun x hx => (by cases hx)) (fun x hx => (by cases hx))).2⟩
/-- Two words and more. -/
theorem loose_eq {ws : List Str} (h : 2 ≤ ws.length) : looseWords ws = (findW (ws.getD 0 [])).map fun k => if ws.getD 1 [] = errW then looseErr k (ws.drop 2) else if ws.getD 1 [] = okW then looseOk k (ws.drop 2) else ⟨k, 0, false, [], []⟩ := by
  match ws, h with
  | a :: b :: r, _ => rfl
theorem loose_short {ws : List Str} (h : ws.length < 2) : looseWords ws = none := by
  match ws, h with
  | [], _ => rfl
  | [_], _ => rfl
theorem loose_miss {ws : List Str} (h : findW (ws.getD 0 []) = none) : looseWords ws = none := by
  match ws, h with
  | [], _ => rfl
  | [_], _ => rfl
  | a :: b :: r, h =>
    change findW a = none at h
    show (findW a).map _ = none
    rw [h]; rfl
theorem doc_none {s : Str} (h : looseWords (sp s) = none) : docParse s = none := by unfold docParse; rw [h]; rfl
def pick (s : Str) (q : Rp) : Option Rp := if chk q = 0 ∧ lineS q = s then some q else none
theorem doc_pick {s : Str} {q : Rp} (h : looseWords (sp s) = some q) : docParse s = pick s q := by unfold docParse; rw [h]; rfl
theorem doc_err {s : Str} {k : Nat} (hk : findW ((sp s).getD 0 []) = some k) (hw : (sp s).getD 1 [] = errW) (hn : (sp s).length = 3) : docParse s = pick s ⟨k, ((val 0 ((sp s).getD 2 []) % 100 : Nat) : Int), false, [], []⟩ := by
  refine doc_pick ?_
  rw [loose_eq (by omega), hk]
  show some (if (sp s).getD 1 [] = errW then _ else _) = _
  rw [if_pos hw]
  match hs : sp s, hn with
  | [a, b, c], _ => rfl
theorem doc_err2 {s : Str} {k : Nat} (hk : findW ((sp s).getD 0 []) = some k) (hw : (sp s).getD 1 [] = errW) (h2 : 2 ≤ (sp s).length) (hn : (sp s).length ≠ 3) : docParse s = pick s ⟨k, 0, false, [], []⟩ := by
  refine doc_pick ?_
  rw [loose_eq h2, hk]
  show some (if (sp s).getD 1 [] = errW then looseErr k ((sp s).drop 2) else _) = _
  rw [if_pos hw]
  match hs : sp s, hn, h2 with
  | [a, b], _, _ => rfl
  | [a, b, c], hn, _ => exact absurd rfl hn
  | a :: b :: c :: d :: e, _, _ => rfl
theorem doc_oth {s : Str} {k : Nat} (hk : findW ((sp s).getD 0 []) = some k) (h1 : (sp s).getD 1 [] ≠ errW) (h2 : (sp s).getD 1 [] ≠ okW) (hn : 2 ≤ (sp s).length) : docParse s = pick s ⟨k, 0, false, [], []⟩ := by
  refine doc_pick ?_
  rw [loose_eq hn, hk]
  show some (if (sp s).getD 1 [] = errW then _ else if (sp s).getD 1 [] = okW then _ else _) = _
  rw [if_neg h1, if_neg h2]
theorem ok_ne_err : okW ≠ errW := by decide
theorem loose_ok {s : Str} {k : Nat} (hk : findW ((sp s).getD 0 []) = some k) (hw : (sp s).getD 1 [] = okW) (hn : 2 ≤ (sp s).length) : looseWords (sp s) = some (looseOk k ((sp s).drop 2)) := by
  rw [loose_eq hn, hk]
  show some (if (sp s).getD 1 [] = errW then _ else if (sp s).getD 1 [] = okW then _ else _) = _
  rw [if_neg (by rw [hw]; exact ok_ne_err), if_pos hw]
theorem chk_zero {er : Int} (h : er ≠ 15) {y : Bool} {ids : List Nat} {nums : List Int} : chk ⟨0, er, y, ids, nums⟩ ≠ 0 := fun e => by
  have := (chk_fits e).1.2.1
  exact this ⟨rfl, h⟩
theorem pick_zero {s : Str} {y : Bool} {ids : List Nat} {nums : List Int} : pick s ⟨((0 : Nat) : Int), 0, y, ids, nums⟩ = none := if_neg (fun h => chk_zero (er := 0) (by decide) h.1)
theorem en_pos {k : Nat} (h : k ≠ 0) : en k = kn k := if_neg h
theorem kin_zero {k : Nat} (hk : k < 16) : ki k + en k = 0 ↔ k = 3 := by
  have h : ∀ k : Fin 16, ki k.val + en k.val = 0 ↔ k.val = 3 := by decide +kernel
  exact h ⟨k, hk⟩
theorem kin_le {k : Nat} (hk : k < 16) : ki k ≤ 7 ∧ en k ≤ 7 := by
  have h : ∀ k : Fin 16, ki k.val ≤ 7 ∧ en k.val ≤ 7 := by decide +kernel
  exact h ⟨k, hk⟩
theorem lsE_G {k : Nat} (h0 : k ≠ 0) (hs : ki k + en k ≠ 0) (ws : List Str) : lsE k ws = lsG (ki k) (en k) 0 ws ([], []) := by
  rw [en_pos h0] at hs ⊢
  unfold lsE
  rw [if_neg hs, lsG_lsW]
theorem lsE_three (ws : List Str) : lsE 3 ws = ([], []) := rfl
/-- The reply of a line with ok, of a kind with numbers: y, and the numbers of the words behind at. -/
theorem doc_ok {s : Str} {k : Nat} (hk : findW ((sp s).getD 0 []) = some k) (hw : (sp s).getD 1 [] = okW) (hn : 2 ≤ (sp s).length) (ha : asksK k = false) (hs : ki k + en k ≠ 0) :
    docParse s = pick s ⟨k, 0, false, (lsG (ki k) (en k) 0 ((sp s).drop 2) ([], [])).1, (lsG (ki k) (en k) 0 ((sp s).drop 2) ([], [])).2⟩ := by
  have e := doc_pick (loose_ok hk hw hn)
  unfold looseOk at e
  rw [if_neg (by rw [ha]; decide)] at e
  by_cases h0 : k = 0
  · subst h0
    rw [e, pick_zero, pick_zero]
  · rw [e, lsE_G h0 hs]
theorem dec_beq (c d : Str) : decide (c = d) = (c == d) := by
  by_cases h : c = d
  · rw [decide_eq_true h, h]; simp
  · rw [decide_eq_false h]; exact (beq_false_of_ne h).symm
theorem asks_ne {k : Nat} (ha : asksK k = true) : k ≠ 0 := fun e => by subst e; revert ha; decide
theorem doc_yes {s : Str} {k : Nat} (hk : findW ((sp s).getD 0 []) = some k) (hw : (sp s).getD 1 [] = okW) (hn : 3 ≤ (sp s).length) (ha : asksK k = true) (hs : ki k + en k ≠ 0) :
    docParse s = pick s ⟨k, 0, (sp s).getD 2 [] == yesW, (lsG (ki k) (en k) 0 ((sp s).drop 3) ([], [])).1, (lsG (ki k) (en k) 0 ((sp s).drop 3) ([], [])).2⟩ := by
  have e := doc_pick (loose_ok hk hw (by omega))
  unfold looseOk at e
  rw [if_pos ha] at e
  rw [e]
  match hh : sp s, hn with
  | a :: b :: c :: r, _ =>
    show pick s ⟨k, 0, decide (c = yesW), (lsE k r).1, (lsE k r).2⟩ = pick s ⟨k, 0, c == yesW, (lsG (ki k) (en k) 0 r ([], [])).1, (lsG (ki k) (en k) 0 r ([], [])).2⟩
    rw [lsE_G (asks_ne ha) hs]
    rw [dec_beq]
theorem doc_yes3 {s : Str} {k : Nat} (hk : findW ((sp s).getD 0 []) = some k) (hw : (sp s).getD 1 [] = okW) (hn : 3 ≤ (sp s).length) (ha : asksK k = true) (hs : k = 3) :
    docParse s = pick s ⟨k, 0, (sp s).getD 2 [] == yesW, [], []⟩ := by
  have e := doc_pick (loose_ok hk hw (by omega))
  unfold looseOk at e
  rw [if_pos ha] at e
  rw [e]
  subst hs
  match hh : sp s, hn with
  | a :: b :: c :: r, _ =>
    show pick s ⟨3, 0, decide (c = yesW), (lsE 3 r).1, (lsE 3 r).2⟩ = pick s ⟨3, 0, c == yesW, [], []⟩
    rw [lsE_three]
    rw [dec_beq]
theorem lsE_nil (k : Nat) : lsE k [] = ([], []) := by unfold lsE; split <;> rfl
theorem doc_ask2 {s : Str} {k : Nat} (hk : findW ((sp s).getD 0 []) = some k) (hw : (sp s).getD 1 [] = okW) (hn : (sp s).length = 2) (ha : asksK k = true) :
    docParse s = pick s ⟨k, 0, false, [], []⟩ := by
  have e := doc_pick (loose_ok hk hw (by omega))
  unfold looseOk at e
  rw [if_pos ha] at e
  rw [e]
  match hh : sp s, hn with
  | [a, b], _ =>
    show pick s ⟨k, 0, false, (lsE k []).1, (lsE k []).2⟩ = _
    rw [lsE_nil]
end Go.Proofs.YtlmdkcpiimpniaaDoor

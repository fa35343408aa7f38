/- Plain: orders of settings, what can be left out, and texts that are none. -/
import Derived.Test.YtabihdhgonnihaaDoorZza
namespace Go.Proofs.YtabihdhgonnihaaDoor
open Go.ChangeShapes Go.WideShapes Go.ChangeAt Go.RowKit
set_option linter.unusedVariables false
set_option linter.unusedSimpArgs false

theorem cf_ext {f g : Cf} (h : ∀ i, i < 4 → f.at i = g.at i) : f = g := by
  obtain ⟨a, b, c, d⟩ := f
  obtain ⟨a', b', c', d'⟩ := g
  have h0 := h 0 (by omega); have h1 := h 1 (by omega); have h2 := h 2 (by omega); have h3 := h 3 (by omega)
  simp only [Cf.at] at h0 h1 h2 h3
  subst h0 h1 h2 h3
  rfl
theorem putL_at (f : Cf) : ∀ (l : List Nat) (g : Cf), (∀ i ∈ l, i < 4) → ∀ j, j < 4 → (putL f g l).at j = if j ∈ l then f.at j else g.at j
  | [], g, _, j, _ => by simp [putL]
  | i :: l, g, h, j, hj => by
    show (putL f (g.put i (f.at i)) l).at j = _
    rw [putL_at f l _ (fun k hk => h k (List.mem_cons_of_mem _ hk)) j hj]
    by_cases hl : j ∈ l
    · rw [if_pos hl, if_pos (List.mem_cons_of_mem _ hl)]
    · rw [if_neg hl]
      by_cases he : i = j
      · subst he; rw [if_pos (by simp), put_same_at _ hj]
      · rw [put_other_at _ (h i (by simp)) hj he, if_neg (by simp; exact ⟨fun e => he e.symm, hl⟩)]
/-- Settings in some order, those that are left out being as in the default. -/
theorem parse_ord {f : Cf} (h : wrong f < 0) {l : List Nat} (hl : ∀ i ∈ l, i < 4) (hd : l.Nodup) (ho : ∀ j, j < 4 → j ∉ l → f.at j = dflt.at j) : parse (jn (l.map (st f))) = (f, 0) := by
  have hp : parts (jn (l.map (st f))) = l.map (st f) := parts_jn (fun a ha => by
    obtain ⟨i, _, rfl⟩ := List.mem_map.1 ha; exact st32 f i) (fun a ha => by
    obtain ⟨i, _, rfl⟩ := List.mem_map.1 ha; exact st_ne f i)
  have hq : putL f dflt l = f := cf_ext fun j hj => by
    rw [putL_at f l dflt hl j hj]
    split
    · rfl
    · rename_i hn; exact (ho j hj hn).symm
  have hr : read (jn (l.map (st f))) = some f := by
    unfold read
    rw [hp, rd_st h l dflt hv0 (fun i hi => ⟨hl i hi, by
      have h4 := hl i hi
      have h5 : i = 0 ∨ i = 1 ∨ i = 2 ∨ i = 3 := by omega
      rcases h5 with rfl | rfl | rfl | rfl <;> rfl⟩) hd]
    show some (putL f dflt l) = some f
    rw [hq]
  unfold parse
  rw [hr]
  show (if wrong f < 0 then (f, 0) else (zero, 2)) = (f, 0)
  rw [if_pos h]
/-- What strings.Join makes of them. -/
theorem join_jn : ∀ l : List Str, Lib.join l [32] = jn l
  | [] => rfl
  | [a] => Lib.join_one a [32]
  | a :: b :: l => by
    rw [Lib.join_cons]
    show a ++ Lib.joinTail [32] (b :: l) = a ++ 32 :: jn (b :: l)
    rw [← join_jn (b :: l), Lib.join_cons]
    simp [Lib.joinTail]
/-- A first piece that is no setting. -/
theorem parts_first (s : Str) (h : s ≠ []) : (cutc 32 s).1 ∈ parts s := by
  unfold parts
  rw [if_neg h, sp_cut]
  simp
theorem bad_first {s : Str} (h : s ≠ []) (hp : setting (cutc 32 s).1 = none) : parse s = (zero, 15) := parse_bad (parts_first s h) hp
theorem setting_find {p r : Str} (h61 : (61 : UInt8) ∉ p) (hf : find p = none) : setting (p ++ 61 :: r) = none := by
  unfold setting
  rw [cutc_app _ h61]
  show (find p).bind _ = none
  rw [hf]; rfl
theorem setting_num {i : Nat} {r : Str} (hi : i < 4) (hn : num r = none) : setting (nm i ++ 61 :: r) = none := by
  unfold setting
  rw [cutc_app _ nm61]
  show (find (nm i)).bind _ = none
  rw [find_nm hi]
  show (num r).map _ = none
  rw [hn]; rfl
theorem num_not {s : Str} {c : UInt8} (hc : c ∈ s) (hd : isD c = false) : num s = none := by
  cases hn : num s with
  | none => rfl
  | some v =>
    have := dec_dig v c (by rw [← (num_iff.1 hn).1]; exact hc)
    rw [hd] at this; cases this
theorem cut32_app {a r : Str} (h : (32 : UInt8) ∉ a) : (cutc 32 (a ++ r)).1 = a ++ (cutc 32 r).1 := by
  induction a with
  | nil => rfl
  | cons b a ih =>
    rw [List.cons_append]
    show (if b = 32 then (([] : Str), a ++ r, true) else (b :: (cutc 32 (a ++ r)).1, (cutc 32 (a ++ r)).2.1, (cutc 32 (a ++ r)).2.2)).1 = _
    rw [if_neg (fun e => h (by rw [e]; simp))]
    show b :: (cutc 32 (a ++ r)).1 = _
    rw [ih (fun e => h (List.mem_cons_of_mem _ e))]
    rfl
section
variable {f : Cf} (h : wrong f < 0)
include h
/-- One space more at the end. -/
theorem bad_end : parse (txt f 4 ++ [32]) = (zero, 15) := by
  rcases more_plain h 32 with h1 | ⟨h1, _⟩
  · exact h1
  · exact absurd h1 (by decide)
theorem bad_line : parse (txt f 4 ++ [10]) = (zero, 15) := by
  rcases more_plain h 10 with h1 | ⟨h1, _⟩
  · exact h1
  · exact absurd h1 (by decide)
omit h in
theorem bad_front (s : Str) : parse (32 :: s) = (zero, 15) := by
  refine bad_first (by simp) ?_
  show setting [] = none
  decide
/-- A setting twice. -/
theorem bad_twice {j : Nat} (hj : j < 4) : parse (txt f 4 ++ 32 :: st f j) = (zero, 15) := by
  have hp : parts (txt f 4 ++ 32 :: st f j) = [0, 1, 2, 3].map (st f) ++ [st f j] := by
    have e : txt f 4 ++ 32 :: st f j = jn ([0, 1, 2, 3].map (st f) ++ [st f j]) := by rw [txt_jn h]; simp [jn]
    rw [e]
    refine parts_jn (fun a ha => ?_) (fun a ha => ?_)
    · rcases List.mem_append.1 ha with ha | ha
      · obtain ⟨i, _, rfl⟩ := List.mem_map.1 ha; exact st32 f i
      · rw [List.mem_singleton.1 ha]; exact st32 f j
    · rcases List.mem_append.1 ha with ha | ha
      · obtain ⟨i, _, rfl⟩ := List.mem_map.1 ha; exact st_ne f i
      · rw [List.mem_singleton.1 ha]; exact st_ne f j
  have hr := rd_st h [0, 1, 2, 3] dflt hv0 (fun i hi => by
    simp only [List.mem_cons, List.not_mem_nil, or_false] at hi
    rcases hi with rfl | rfl | rfl | rfl <;> exact ⟨by decide, rfl⟩) (by decide)
  have hs : step (putL f dflt [0, 1, 2, 3], markL hv0 [0, 1, 2, 3]) (st f j) = none := by
    unfold step
    rw [setting_st h hj]
    show (if (markL hv0 [0, 1, 2, 3]).at j = true then none else _) = none
    have h5 : j = 0 ∨ j = 1 ∨ j = 2 ∨ j = 3 := by omega
    rcases h5 with rfl | rfl | rfl | rfl <;> rfl
  unfold parse read
  rw [hp, rd_app, hr]
  show parseR (((step (putL f dflt [0, 1, 2, 3], markL hv0 [0, 1, 2, 3]) (st f j)).bind (rd [])).map (·.1)) = _
  rw [hs]; rfl
omit h in
/-- Two spaces. -/
theorem bad_two {i k : Nat} (l : List Nat) : parse (Lib.join ((i :: k :: l).map (st f)) [32, 32]) = (zero, 15) := by
  have e : Lib.join ((i :: k :: l).map (st f)) [32, 32] = st f i ++ 32 :: (32 :: (st f k ++ Lib.joinTail [32, 32] (l.map (st f)))) := by
    rw [List.map_cons, Lib.join_cons]
    simp [Lib.joinTail]
  refine parse_bad (p := []) ?_ (by decide)
  rw [e]
  unfold parts
  rw [if_neg (by simp), sp_app (st32 f i), sp_cut (32 :: _)]
  simp [cutc]
omit h in
/-- Commas. -/
theorem bad_comma {i k : Nat} (hi : i < 4) (l : List Nat) : parse (Lib.join ((i :: k :: l).map (st f)) [44]) = (zero, 15) := by
  have e : Lib.join ((i :: k :: l).map (st f)) [44] = (nm i ++ 61 :: (Lib.decDigits (f.at i).toNat ++ [44])) ++ (st f k ++ Lib.joinTail [44] (l.map (st f))) := by
    rw [List.map_cons, Lib.join_cons]
    simp [Lib.joinTail, st]
  have h32 : (32 : UInt8) ∉ nm i ++ 61 :: (Lib.decDigits (f.at i).toNat ++ [44]) := by
    intro hm
    rcases List.mem_append.1 hm with hm | hm
    · exact nm32 i hm
    · rcases List.mem_cons.1 hm with hm | hm
      · revert hm; decide
      · rcases List.mem_append.1 hm with hm | hm
        · exact (digit_no (dec_dig _ _ hm)).1 rfl
        · revert hm; decide
  refine bad_first (by rw [e]; simp) ?_
  rw [e, cut32_app h32, List.append_assoc, List.cons_append]
  exact setting_num hi (num_not (c := 44) (by simp) (by decide))
omit h in
theorem txt_head (h : wrong f < 0) : ∃ r, txt f 4 = nm 0 ++ 61 :: r := by
  rw [txt_jn h]
  exact ⟨_, by simp only [jn, st, List.append_assoc, List.cons_append]; rfl⟩
/-- Capital letters. -/
theorem bad_upper : parse (Lib.toUpperA (txt f 4)) = (zero, 15) := by
  obtain ⟨r, e⟩ := txt_head h
  have e2 : Lib.toUpperA (txt f 4) = [87, 73, 78, 68, 79, 87] ++ 61 :: r.map Lib.upperB := by
    rw [e]; unfold Lib.toUpperA; rw [List.map_append]; rfl
  rw [e2]
  refine bad_first (by simp) ?_
  rw [cut32_app (by decide)]
  show setting ([87, 73, 78, 68, 79, 87] ++ (61 :: (cutc 32 (r.map Lib.upperB)).1)) = none
  exact setting_find (by decide) (by decide)
/-- Spaces around the signs. -/
theorem bad_signs : parse (Lib.replaceAll (txt f 4) [61] [32, 61, 32]) = (zero, 15) := by
  obtain ⟨r, e⟩ := txt_head h
  have hi : Lib.index (txt f 4) [61] = ((6 : Nat) : Int) := by
    rw [index_one, e, cutc_app _ (nm61 (i := 0))]
    rfl
  have hc := Lib.count_hit (sub := [61]) (by simp) hi
  have e2 : ∃ r', Lib.replaceAll (txt f 4) [61] [32, 61, 32] = nm 0 ++ 32 :: r' := by
    unfold Lib.replaceAll Lib.replace Lib.replaceNum
    rw [if_neg (by decide), if_pos (Or.inl (by decide)), hc, Nat.add_comm, Lib.replaceK_hit _ _ _ _ 6 hi]
    have ht : (txt f 4).take 6 = nm 0 := by rw [e]; rfl
    rw [ht]
    exact ⟨_, by simp only [List.append_assoc, List.cons_append, List.nil_append]; rfl⟩
  obtain ⟨r', e3⟩ := e2
  rw [e3]
  refine bad_first (by simp) ?_
  rw [cutc_app _ (nm32 0)]
  show setting (nm 0) = none
  decide
end
theorem st_ascii (f : Cf) (i : Nat) : ∀ c ∈ st f i, c.toNat < 128 := fun c hc => by
  unfold st at hc
  rcases List.mem_append.1 hc with h | h
  · clear hc
    revert c
    unfold nm
    split <;> decide
  · rcases List.mem_cons.1 h with rfl | h
    · decide
    · have := dec_dig _ _ h; rw [isD_iff] at this; omega
theorem text_ascii {f : Cf} (h : wrong f < 0) : ∀ c ∈ txt f 4, c.toNat < 128 := fun c hc => by
  rw [txt_jn h] at hc
  simp only [jn, List.mem_append, List.mem_cons] at hc
  rcases hc with h | rfl | h | rfl | h | rfl | h
  · exact st_ascii f 0 c h
  · decide
  · exact st_ascii f 1 c h
  · decide
  · exact st_ascii f 2 c h
  · decide
  · exact st_ascii f 3 c h
theorem text_signs (f : Cf) : Lib.count (txt f 4) [61] ≤ (txt f 4).length := by
  rw [Lib.count_one]; exact List.count_le_length
/-- The settings that are not left out. -/
def bit (n i : Nat) : Bool := n / 2 ^ i % 2 == 1
def someI (n k : Nat) : List Nat := (List.range k).filter fun i => !bit n i
def ck (f : Cf) (n k : Nat) : Cf := ⟨if 0 < k ∧ bit n 0 = true then 60 else f.a, if 1 < k ∧ bit n 1 = true then 1024 else f.b, if 2 < k ∧ bit n 2 = true then 1024 else f.c, if 3 < k ∧ bit n 3 = true then 1024 else f.d⟩
theorem some_step (n k : Nat) : someI n (k + 1) = someI n k ++ if bit n k = true then [] else [k] := by
  unfold someI
  rw [List.range_succ, List.filter_append]
  cases hb : bit n k <;> simp [hb]
theorem some_plain {f : Cf} {n : Nat} (h : wrong (ck f n 4) < 0) : parse (Lib.join ((someI n 4).map (st (ck f n 4))) [32]) = (ck f n 4, 0) := by
  rw [join_jn]
  refine parse_ord h (fun i hi => ?_) (List.Pairwise.filter _ List.nodup_range) (fun j hj hn => ?_)
  · exact List.mem_range.1 (List.mem_filter.1 hi).1
  · have hb : bit n j = true := by
      cases hb : bit n j with
      | true => rfl
      | false => exact absurd (List.mem_filter.2 ⟨List.mem_range.2 hj, by simp [hb]⟩) hn
    have h5 : j = 0 ∨ j = 1 ∨ j = 2 ∨ j = 3 := by omega
    rcases h5 with rfl | rfl | rfl | rfl <;> simp [ck, hb, Cf.at, dflt]
theorem ck_wrong {f : Cf} (h : wrong f < 0) (n k : Nat) : wrong (ck f n k) < 0 := by
  rw [wrong_iff] at h ⊢
  unfold ck
  simp only
  refine ⟨?_, ?_, ?_, ?_⟩ <;> split <;> omega
theorem ck_ok {f : Cf} (h : f.ok) (n k : Nat) : (ck f n k).ok := by
  obtain ⟨h1, h2, h3, h4, h5, h6, h7, h8⟩ := h
  unfold ck
  constructor <;> simp only <;> split <;> omega
/-- The order that a number tells. -/
def lz (o : Nat) : Nat → List Nat × List Nat × Nat
  | 0 => ([], [0, 1, 2, 3], o)
  | s + 1 => let q := lz o s; (q.1 ++ [q.2.1.getD (q.2.2 % (4 - s)) 0], q.2.1.take (q.2.2 % (4 - s)) ++ q.2.1.drop (q.2.2 % (4 - s) + 1), q.2.2 / (4 - s))
theorem lz_table : ∀ o : Fin 256, (lz o.val 4).1.length = 4 ∧ (lz o.val 4).1.Nodup ∧ (∀ i ∈ (lz o.val 4).1, i < 4) ∧ (∀ i, i < 4 → i ∈ (lz o.val 4).1) := by decide +kernel
theorem turned_plain {f : Cf} (h : wrong f < 0) {o : Nat} (ho : o < 256) : parse (Lib.join ((lz o 4).1.map (st f)) [32]) = (f, 0) := by
  obtain ⟨_, h2, h3, h4⟩ := lz_table ⟨o, ho⟩
  rw [join_jn]
  exact parse_ord h h3 h2 (fun j hj hn => absurd (h4 j hj) hn)
theorem turned_two {f : Cf} {o : Nat} (ho : o < 256) : parse (Lib.join ((lz o 4).1.map (st f)) [32, 32]) = (zero, 15) ∧ parse (Lib.join ((lz o 4).1.map (st f)) [44]) = (zero, 15) := by
  obtain ⟨h1, h2, h3, h4⟩ := lz_table ⟨o, ho⟩
  simp only at h1 h3
  generalize (lz o 4).1 = l at *
  match l, h1, h3 with
  | i :: k :: r, _, h3 => exact ⟨bad_two r, bad_comma (h3 i (by simp)) r⟩
end Go.Proofs.YtabihdhgonnihaaDoor

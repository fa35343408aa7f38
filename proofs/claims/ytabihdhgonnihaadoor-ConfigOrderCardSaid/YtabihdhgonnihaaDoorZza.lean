/- strings.Split at a space; plain: what was read is in the settings. -/
import Derived.Test.YtabihdhgonnihaaDoorHb
import Derived.Test.YtabihdhgonnihaaDoorZt
import Derived.Test.YtabihdhgonnihaaDoorY
namespace Go.Proofs.YtabihdhgonnihaaDoor
open Go.ChangeShapes Go.WideShapes Go.ChangeAt Go.RowKit
set_option linter.unusedVariables false
set_option linter.unusedSimpArgs false

theorem splitK_sp : ∀ (n : Nat) (s : Str), s.length ≤ n → Lib.splitK [32] 0 (Lib.count s [32]) s = sp s ∧ (sp s).length = Lib.count s [32] + 1
  | n, s, hn => by
    have hi := index_one 32 s
    cases hc : (cutc 32 s).2.2 with
    | false =>
      rw [hc, if_neg (by decide)] at hi
      have e1 : sp s = [s] := by rw [sp_cut, hc, cutc_miss 32 s hc]; rfl
      rw [Lib.count_miss hi, e1]
      exact ⟨rfl, rfl⟩
    | true =>
      rw [hc, if_pos rfl] at hi
      have hs := cutc_hit 32 s hc
      have e1 : sp s = (cutc 32 s).1 :: sp (cutc 32 s).2.1 := by rw [sp_cut, hc]; rfl
      generalize (cutc 32 s).1 = a at *
      generalize (cutc 32 s).2.1 = r at *
      have hd : s.drop (a.length + ([32] : Str).length) = r := by rw [hs]; simp
      have ht : s.take (a.length + 0) = a := by rw [hs]; simp
      have hcnt := Lib.count_hit (sub := [32]) (by simp) hi
      rw [hd] at hcnt
      match n, hn with
      | 0, hn => rw [hs] at hn; simp at hn
      | n + 1, hn =>
        have ih := splitK_sp n r (by rw [hs] at hn; simp at hn; omega)
        have hm : ¬ (Lib.index s [32] == -1) = true := by rw [hi]; simp
        have hsp : Lib.splitK [32] 0 (1 + Lib.count r [32]) s = a :: sp r := by
          rw [Nat.add_comm, Lib.splitK, if_neg hm, hi, Int.toNat_natCast, hd, ht, ih.1]
        rw [hcnt, e1, hsp]
        exact ⟨rfl, by rw [List.length_cons, ih.2]; omega⟩
/-- The cells of strings. -/
def strs (l : List Str) : Array Value := (l.map (fun p => Value.string ⟨p.toArray⟩)).toArray
theorem ba_of (x : ByteArray) : x = ⟨x.data.toList.toArray⟩ := by cases x; simp
theorem splitB_sp (s : Str) : Lib.splitB ⟨#[32]⟩ 0 (Lib.countB ⟨s.toArray⟩ ⟨#[32]⟩) ⟨s.toArray⟩ = (sp s).map (fun p => ⟨p.toArray⟩) ∧ Lib.countB ⟨s.toArray⟩ ⟨#[32]⟩ + 1 = (sp s).length := by
  have h := splitK_sp s.length s (Nat.le_refl _)
  have hd := Lib.splitB_data ⟨#[32]⟩ 0 (Lib.countB ⟨s.toArray⟩ ⟨#[32]⟩) ⟨s.toArray⟩
  have hc : Lib.countB ⟨s.toArray⟩ ⟨#[32]⟩ = Lib.count s [32] := by unfold Lib.countB; simp
  rw [hc] at hd ⊢
  have hd2 : (Lib.splitB ⟨#[32]⟩ 0 (Lib.count s [32]) ⟨s.toArray⟩).map (·.data.toList) = sp s := by rw [hd]; simpa using h.1
  refine ⟨?_, h.2.symm⟩
  rw [← hd2, List.map_map]
  conv => lhs; rw [← List.map_id (Lib.splitB ⟨#[32]⟩ 0 (Lib.count s [32]) ⟨s.toArray⟩)]
  exact List.map_congr_left (fun x _ => ba_of x)
theorem flat_encS (l : List Str) : flat encS l = l.map (fun p => Value.string ⟨p.toArray⟩) := by
  induction l with
  | nil => rfl
  | cons a r ih => show encS a ++ flat encS r = _; rw [ih]; rfl
theorem split_call {w : World} (h : Env w) (s : Str) (hs : s.length < 1000000) : Calls Tryd.prog 37 #[.string ⟨s.toArray⟩, .string ⟨#[32]⟩] w fun e w' =>
    e = .returned (.slice (some ⟨w.heap.size, 0, none⟩) (sp s).length (sp s).length) ∧ w' = w.alloc (.cells (strs (sp s)) 9) := by
  obtain ⟨m, hm⟩ := h.mx
  have hh := Tryd.strings_Split ⟨s.toArray⟩ ⟨#[32]⟩ m w (by simp [ByteArray.size]; omega) hm (by decide)
  obtain ⟨h1, h2⟩ := splitB_sp s
  rw [h1, h2, List.map_map] at hh
  exact hh
theorem strs_sl (w : World) (l : List Str) (hl : l.length ≤ maxLen) : IsSl 1 encS (w.alloc (.cells (strs l) 9)) (some ⟨w.heap.size, 0, none⟩) l.length l.length l :=
  IsSl.of_block encS_len (block_new w _) (by rw [flat_encS]; simp [strs]) rfl hl
/-- A field of what is read is as the setting says. -/
theorem put_same_at (f : Cf) {i : Nat} (hi : i < 4) (x : Int) : (f.put i x).at i = x := by
  have h4 : i = 0 ∨ i = 1 ∨ i = 2 ∨ i = 3 := by omega
  rcases h4 with rfl | rfl | rfl | rfl <;> rfl
theorem put_other_at (f : Cf) {i j : Nat} (hi : i < 4) (hj : j < 4) (h : i ≠ j) (x : Int) : (f.put i x).at j = f.at j := by
  have h4 : i = 0 ∨ i = 1 ∨ i = 2 ∨ i = 3 := by omega
  have h5 : j = 0 ∨ j = 1 ∨ j = 2 ∨ j = 3 := by omega
  rcases h4 with rfl | rfl | rfl | rfl <;> rcases h5 with rfl | rfl | rfl | rfl <;> first | exact absurd rfl h | rfl
theorem mark_same (hv : Hv) {i : Nat} (hi : i < 4) : (hv.put i).at i = true := by
  have h4 : i = 0 ∨ i = 1 ∨ i = 2 ∨ i = 3 := by omega
  rcases h4 with rfl | rfl | rfl | rfl <;> rfl
theorem mark_keep (hv : Hv) {i j : Nat} (hi : i < 4) (hj : j < 4) (h : hv.at j = true) : (hv.put i).at j = true := by
  have h4 : i = 0 ∨ i = 1 ∨ i = 2 ∨ i = 3 := by omega
  have h5 : j = 0 ∨ j = 1 ∨ j = 2 ∨ j = 3 := by omega
  rcases h4 with rfl | rfl | rfl | rfl <;> rcases h5 with rfl | rfl | rfl | rfl <;> first | rfl | exact h
theorem step_some {st st' : Cf × Hv} {p : Str} (h : step st p = some st') : ∃ i u, setting p = some (i, u) ∧ st.2.at i = false ∧ st' = (st.1.put i u, st.2.put i) := by
  unfold step at h
  cases hq : setting p with
  | none => rw [hq] at h; cases h
  | some q =>
    obtain ⟨i, u⟩ := q
    rw [hq] at h
    change (if st.2.at i = true then none else some (st.1.put i (u : Int), st.2.put i)) = some st' at h
    split at h
    · cases h
    · rename_i hh
      exact ⟨i, u, rfl, by simpa using hh, (Option.some.inj h).symm⟩
theorem rd_keeps : ∀ (l : List Str) (st st' : Cf × Hv), rd l st = some st' → (∀ j, j < 4 → st.2.at j = true → st'.1.at j = st.1.at j ∧ st'.2.at j = true) ∧ ∀ p ∈ l, ∃ i u, i < 4 ∧ setting p = some (i, u) ∧ st'.1.at i = (u : Int)
  | [], st, st', h => by
    cases h
    exact ⟨fun j _ hj => ⟨rfl, hj⟩, fun p hp => by cases hp⟩
  | p :: l, st, st', h => by
    change (step st p).bind (rd l) = some st' at h
    cases hs : step st p with
    | none => rw [hs] at h; cases h
    | some x =>
      rw [hs] at h
      obtain ⟨i, u, h1, h2, rfl⟩ := step_some hs
      have hi := (setting_some h1).1
      obtain ⟨k1, k2⟩ := rd_keeps l _ st' h
      refine ⟨fun j hj hh => ?_, fun q hq => ?_⟩
      · have hne : i ≠ j := fun e => by rw [e, hh] at h2; cases h2
        obtain ⟨a, b⟩ := k1 j hj (mark_keep _ hi hj hh)
        exact ⟨by rw [a]; exact put_other_at _ hi hj hne _, b⟩
      · rcases List.mem_cons.1 hq with rfl | hq
        · refine ⟨i, u, hi, h1, ?_⟩
          rw [(k1 i hi (mark_same _ hi)).1]
          exact put_same_at _ hi _
        · exact k2 q hq
/-- Each setting of a text that is read is one of the text's that is written. -/
theorem again_plain {s : Str} {f : Cf} (h : parse s = (f, 0)) (hs : s ≠ []) : wrong f < 0 ∧ ∀ p ∈ sp s, ∃ i, i < 4 ∧ p = st f i := by
  unfold parse at h
  cases hr : read s with
  | none => rw [hr] at h; cases h
  | some g =>
    rw [hr] at h
    change (if wrong g < 0 then (g, 0) else (zero, 2)) = (f, 0) at h
    split at h
    · rename_i hw
      obtain rfl : g = f := (Prod.mk.inj h).1
      refine ⟨hw, fun p hp => ?_⟩
      unfold read at hr
      cases hd : rd (parts s) (dflt, hv0) with
      | none => rw [hd] at hr; cases hr
      | some x =>
        rw [hd] at hr
        obtain rfl : x.1 = g := Option.some.inj hr
        obtain ⟨i, u, h1, h2, h3⟩ := (rd_keeps _ _ _ hd).2 p (by unfold parts; rw [if_neg hs]; exact hp)
        refine ⟨i, h1, ?_⟩
        unfold st
        rw [h3, Int.toNat_natCast]
        exact (setting_some h2).2.2
    · cases (Prod.mk.inj h).2
theorem parse_empty : parse [] = (dflt, 0) := by decide +kernel
theorem parse_codes (s : Str) : (∃ f, parse s = (f, 0)) ∨ parse s = (zero, 15) ∨ parse s = (zero, 2) := by
  unfold parse parseR
  split
  · exact Or.inr (Or.inl rfl)
  · split
    · exact Or.inl ⟨_, rfl⟩
    · exact Or.inr (Or.inr rfl)
end Go.Proofs.YtabihdhgonnihaaDoor

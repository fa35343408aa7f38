/- Plain: a text with one character more or less. -/
import Derived.Test.YtabihdhgonnihaaDoorZr
namespace Go.Proofs.YtabihdhgonnihaaDoor
open Go.ChangeShapes Go.WideShapes Go.ChangeAt Go.RowKit
set_option linter.unusedVariables false
set_option linter.unusedSimpArgs false

/-- What is read: another configuration than f, or none. -/
def Other (f : Cf) (r : Cf × Int) : Prop := r = (zero, 15) ∨ r = (zero, 2) ∨ (r.2 = 0 ∧ r.1 ≠ f)
theorem three_lt {f : Cf} (h : wrong f < 0) : rd ([0, 1, 2].map (st f)) (dflt, hv0) = some (putL f dflt [0, 1, 2], markL hv0 [0, 1, 2]) :=
  rd_st h [0, 1, 2] dflt hv0 (fun i hi => by
    simp only [List.mem_cons, List.not_mem_nil, or_false] at hi
    rcases hi with rfl | rfl | rfl <;> exact ⟨by decide, rfl⟩) (by decide)
/-- The last setting has other digits. -/
theorem tail_plain {f : Cf} (h : wrong f < 0) {t : Str} (ht : (32 : UInt8) ∉ t) (hne : t ≠ Lib.decDigits f.d.toNat) :
    parse (jn [st f 0, st f 1, st f 2, nm 3 ++ 61 :: t]) = (zero, 15) ∨ ((∀ c ∈ t, isD c = true) ∧ Other f (parse (jn [st f 0, st f 1, st f 2, nm 3 ++ 61 :: t]))) := by
  have hp : parts (jn [st f 0, st f 1, st f 2, nm 3 ++ 61 :: t]) = [0, 1, 2].map (st f) ++ [nm 3 ++ 61 :: t] := by
    refine parts_jn (fun a ha => ?_) (fun a ha => ?_)
    · simp only [List.mem_cons, List.not_mem_nil, or_false] at ha
      rcases ha with rfl | rfl | rfl | rfl
      · exact st32 f _
      · exact st32 f _
      · exact st32 f _
      · intro h
        rcases List.mem_append.1 h with h | h
        · exact nm32 3 h
        · rcases List.mem_cons.1 h with h | h
          · revert h; decide
          · exact ht h
    · simp only [List.mem_cons, List.not_mem_nil, or_false] at ha
      rcases ha with rfl | rfl | rfl | rfl
      · exact st_ne f _
      · exact st_ne f _
      · exact st_ne f _
      · simp
  cases hn : num t with
  | none =>
    left
    refine parse_bad (p := nm 3 ++ 61 :: t) (by rw [hp]; simp) ?_
    unfold setting
    rw [cutc_app _ nm61]
    show (find (nm 3)).bind _ = _
    rw [find_nm (by decide)]
    show (num t).map _ = _
    rw [hn]; rfl
  | some v =>
    right
    obtain ⟨h1, h2⟩ := num_iff.1 hn
    refine ⟨fun c hc => dec_dig v c (by rw [← h1]; exact hc), ?_⟩
    have hr : read (jn [st f 0, st f 1, st f 2, nm 3 ++ 61 :: t]) = some ⟨f.a, f.b, f.c, (v : Int)⟩ := by
      unfold read
      rw [hp, rd_app, three_lt h, h1]
      show ((step (putL f dflt [0, 1, 2], markL hv0 [0, 1, 2]) (nm 3 ++ 61 :: Lib.decDigits v)).bind (rd [])).map (·.1) = _
      unfold step
      rw [setting_of (by decide) h2]
      rfl
    have hv : (v : Int) ≠ f.d := by
      intro e
      apply hne
      rw [h1, ← e, Int.toNat_natCast]
    unfold parse
    rw [hr]
    show Other f (if wrong ⟨f.a, f.b, f.c, (v : Int)⟩ < 0 then (⟨f.a, f.b, f.c, (v : Int)⟩, 0) else (zero, 2))
    split
    · exact Or.inr (Or.inr ⟨rfl, fun e => hv (by rw [← e])⟩)
    · exact Or.inr (Or.inl rfl)
theorem fd_nat {f : Cf} : (f.at 3).toNat = f.d.toNat := rfl
theorem more_plain {f : Cf} (h : wrong f < 0) (c : UInt8) : parse (txt f 4 ++ [c]) = (zero, 15) ∨ (isD c = true ∧ Other f (parse (txt f 4 ++ [c]))) := by
  by_cases hc : c = 32
  · subst hc
    left
    refine parse_bad (p := []) ?_ (by decide)
    unfold parts
    rw [if_neg (by simp), sp_snoc, if_pos rfl]
    simp
  · have e : txt f 4 ++ [c] = jn [st f 0, st f 1, st f 2, nm 3 ++ 61 :: (Lib.decDigits f.d.toNat ++ [c])] := by
      rw [txt_jn h]
      simp [jn, st, fd_nat]
    rw [e]
    rcases tail_plain h (t := Lib.decDigits f.d.toNat ++ [c]) (fun hm => by
      rcases List.mem_append.1 hm with hm | hm
      · exact (digit_no (dec_dig _ _ hm)).1 rfl
      · exact hc (List.mem_singleton.1 hm).symm) (fun e => by have := congrArg List.length e; simp at this) with h1 | ⟨h1, h2⟩
    · exact Or.inl h1
    · exact Or.inr ⟨h1 c (by simp), h2⟩
theorem less_plain {f : Cf} (h : wrong f < 0) : Other f (parse ((txt f 4).take ((txt f 4).length - 1))) := by
  have e : (txt f 4).take ((txt f 4).length - 1) = jn [st f 0, st f 1, st f 2, nm 3 ++ 61 :: (Lib.decDigits f.d.toNat).dropLast] := by
    rw [← List.dropLast_eq_take, txt_jn h]
    have hd := dec_ne f.d.toNat
    show (st f 0 ++ 32 :: (st f 1 ++ 32 :: (st f 2 ++ 32 :: (nm 3 ++ 61 :: Lib.decDigits f.d.toNat)))).dropLast = _
    rw [show st f 0 ++ 32 :: (st f 1 ++ 32 :: (st f 2 ++ 32 :: (nm 3 ++ 61 :: Lib.decDigits f.d.toNat))) = (st f 0 ++ 32 :: (st f 1 ++ 32 :: (st f 2 ++ 32 :: (nm 3 ++ [61])))) ++ Lib.decDigits f.d.toNat by simp]
    rw [List.dropLast_append_of_ne_nil hd]
    simp [jn]
  rw [e]
  rcases tail_plain h (t := (Lib.decDigits f.d.toNat).dropLast) (fun hm => (digit_no (dec_dig _ _ (List.dropLast_subset _ hm))).1 rfl) (fun e => by
      have := congrArg List.length e
      have h0 := List.length_pos_iff.2 (dec_ne f.d.toNat)
      rw [List.length_dropLast] at this; omega) with h1 | ⟨h1, h2⟩
  · exact Or.inl h1
  · exact h2
end Go.Proofs.YtabihdhgonnihaaDoor

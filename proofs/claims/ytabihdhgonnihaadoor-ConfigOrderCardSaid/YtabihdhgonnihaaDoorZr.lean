/- Plain: the text of a valid configuration is read as it. -/
import Derived.Test.YtabihdhgonnihaaDoorZl
import Derived.Test.YtabihdhgonnihaaDoorU
namespace Go.Proofs.YtabihdhgonnihaaDoor
open Go.ChangeShapes Go.WideShapes Go.ChangeAt Go.RowKit
set_option linter.unusedVariables false
set_option linter.unusedSimpArgs false

/-- A setting. -/
def st (f : Cf) (i : Nat) : Str := nm i ++ 61 :: Lib.decDigits (f.at i).toNat
theorem digit_no {c : UInt8} (h : isD c = true) : c ≠ 32 ∧ c ≠ 61 ∧ c ≠ 44 ∧ c ≠ 10 := by
  rw [isD_iff] at h
  refine ⟨?_, ?_, ?_, ?_⟩ <;> (rintro rfl; revert h; decide)
theorem nm32 (i : Nat) : (32 : UInt8) ∉ nm i := by unfold nm; split <;> decide
theorem st32 (f : Cf) (i : Nat) : (32 : UInt8) ∉ st f i := by
  unfold st
  intro h
  rcases List.mem_append.1 h with h | h
  · exact nm32 i h
  · rcases List.mem_cons.1 h with h | h
    · revert h; decide
    · exact (digit_no (dec_dig _ _ h)).1 rfl
theorem valid_nat {f : Cf} (h : wrong f < 0) {i : Nat} (hi : i < 4) : 0 ≤ f.at i ∧ (f.at i).toNat ≤ 9223372036854775807 := by
  rw [wrong_iff] at h
  have h4 : i = 0 ∨ i = 1 ∨ i = 2 ∨ i = 3 := by omega
  rcases h4 with rfl | rfl | rfl | rfl <;> simp only [Cf.at] <;> omega
theorem itoa_st {f : Cf} (h : wrong f < 0) {i : Nat} (hi : i < 4) : Lib.itoa (f.at i) = Lib.decDigits (f.at i).toNat := by
  have h2 := (valid_nat h hi).1
  obtain ⟨n, hn⟩ := Int.eq_ofNat_of_zero_le h2
  rw [hn, itoa_nat, Int.toNat_natCast]
/-- Settings, a space between each two. -/
def jn : List Str → Str
  | [] => []
  | [a] => a
  | a :: b :: l => a ++ 32 :: jn (b :: l)
theorem sp_no {a : Str} (h : (32 : UInt8) ∉ a) : sp a = [a] := by
  rw [sp_cut, cutc_no h]; rfl
theorem sp_app {a : Str} (h : (32 : UInt8) ∉ a) (r : Str) : sp (a ++ 32 :: r) = a :: sp r := by
  rw [sp_cut, cutc_app r h]; rfl
theorem sp_jn : ∀ {l : List Str}, l ≠ [] → (∀ a ∈ l, (32 : UInt8) ∉ a) → sp (jn l) = l
  | [], h, _ => absurd rfl h
  | [a], _, h => sp_no (h a (by simp))
  | a :: b :: l, _, h => by
    show sp (a ++ 32 :: jn (b :: l)) = _
    rw [sp_app (h a (by simp)), sp_jn (by simp) (fun x hx => h x (List.mem_cons_of_mem _ hx))]
theorem parts_jn {l : List Str} (h : ∀ a ∈ l, (32 : UInt8) ∉ a) (hne : ∀ a ∈ l, a ≠ []) : parts (jn l) = l := by
  unfold parts
  match l, h, hne with
  | [], _, _ => rfl
  | [a], h, hn =>
    show (if a = [] then [] else sp a) = [a]
    rw [if_neg (hn a (by simp))]; exact sp_no (h a (by simp))
  | a :: b :: l, h, hn =>
    rw [if_neg (by show ¬ a ++ 32 :: jn (b :: l) = []; simp)]
    exact sp_jn (by simp) h
theorem st_ne (f : Cf) (i : Nat) : st f i ≠ [] := by unfold st; simp
theorem txt_jn {f : Cf} (h : wrong f < 0) : txt f 4 = jn [st f 0, st f 1, st f 2, st f 3] := by
  unfold txt txt txt txt txt
  rw [itoa_st h (by decide), itoa_st h (by decide), itoa_st h (by decide), itoa_st h (by decide)]
  simp [jn, st]
theorem parts_txt {f : Cf} (h : wrong f < 0) : parts (txt f 4) = [st f 0, st f 1, st f 2, st f 3] := by
  rw [txt_jn h]
  refine parts_jn (fun a ha => ?_) (fun a ha => ?_)
  · simp only [List.mem_cons, List.not_mem_nil, or_false] at ha
    rcases ha with rfl | rfl | rfl | rfl <;> exact st32 f _
  · simp only [List.mem_cons, List.not_mem_nil, or_false] at ha
    rcases ha with rfl | rfl | rfl | rfl <;> exact st_ne f _
theorem setting_st {f : Cf} (h : wrong f < 0) {i : Nat} (hi : i < 4) : setting (st f i) = some (i, (f.at i).toNat) := setting_of hi (valid_nat h hi).2
theorem step_st {f : Cf} (h : wrong f < 0) {i : Nat} (hi : i < 4) (g : Cf) (hv : Hv) (hh : hv.at i = false) : step (g, hv) (st f i) = some (g.put i (f.at i), hv.put i) := by
  unfold step
  rw [setting_st h hi]
  show (if hv.at i = true then none else some (g.put i ((f.at i).toNat : Int), hv.put i)) = _
  rw [hh, if_neg (by decide), show (((f.at i).toNat : Nat) : Int) = f.at i by have := (valid_nat h hi).1; omega]
/-- Settings in any order, each field at most once. -/
def putL (f g : Cf) : List Nat → Cf
  | [] => g
  | i :: l => putL f (g.put i (f.at i)) l
def markL (hv : Hv) : List Nat → Hv
  | [] => hv
  | i :: l => markL (hv.put i) l
theorem mark_at {hv : Hv} {i j : Nat} (hi : i < 4) (hj : j < 4) (h : i ≠ j) (hh : hv.at j = false) : (hv.put i).at j = false := by
  have h4 : i = 0 ∨ i = 1 ∨ i = 2 ∨ i = 3 := by omega
  have h5 : j = 0 ∨ j = 1 ∨ j = 2 ∨ j = 3 := by omega
  rcases h4 with rfl | rfl | rfl | rfl <;> rcases h5 with rfl | rfl | rfl | rfl <;> first | exact absurd rfl h | exact hh
theorem rd_st {f : Cf} (h : wrong f < 0) : ∀ (l : List Nat) (g : Cf) (hv : Hv), (∀ i ∈ l, i < 4 ∧ hv.at i = false) → l.Nodup → rd (l.map (st f)) (g, hv) = some (putL f g l, markL hv l)
  | [], g, hv, _, _ => rfl
  | i :: l, g, hv, hl, hd => by
    have hi := hl i (by simp)
    show (step (g, hv) (st f i)).bind (rd (l.map (st f))) = _
    rw [step_st h hi.1 g hv hi.2]
    show rd (l.map (st f)) (g.put i (f.at i), hv.put i) = _
    rw [rd_st h l _ _ (fun j hj => ?_) (List.nodup_cons.1 hd).2]
    · rfl
    · have := hl j (List.mem_cons_of_mem _ hj)
      exact ⟨this.1, mark_at hi.1 this.1 (fun e => (List.nodup_cons.1 hd).1 (by rw [e]; exact hj)) this.2⟩
theorem rd_app : ∀ (l l' : List Str) (s : Cf × Hv), rd (l ++ l') s = (rd l s).bind (rd l')
  | [], l', s => rfl
  | p :: l, l', s => by
    show (step s p).bind (rd (l ++ l')) = ((step s p).bind (rd l)).bind (rd l')
    cases step s p with
    | none => rfl
    | some x => exact rd_app l l' x
theorem rd_none : ∀ {l : List Str} (s : Cf × Hv) {p : Str}, p ∈ l → setting p = none → rd l s = none
  | [], s, p, h, _ => by cases h
  | q :: l, s, p, h, hp => by
    show (step s q).bind (rd l) = none
    rcases List.mem_cons.1 h with rfl | h
    · rw [step_bad hp]; rfl
    · cases step s q with
      | none => rfl
      | some x => exact rd_none x h hp
theorem parse_bad {s p : Str} (h : p ∈ parts s) (hp : setting p = none) : parse s = (zero, 15) := by
  unfold parse read
  rw [rd_none _ h hp]; rfl
theorem read_txt {f : Cf} (h : wrong f < 0) : read (txt f 4) = some f := by
  unfold read
  rw [parts_txt h]
  have := rd_st h [0, 1, 2, 3] dflt hv0 (fun i hi => by
    simp only [List.mem_cons, List.not_mem_nil, or_false] at hi
    rcases hi with rfl | rfl | rfl | rfl <;> exact ⟨by decide, rfl⟩) (by decide)
  rw [show [st f 0, st f 1, st f 2, st f 3] = [0, 1, 2, 3].map (st f) from rfl, this]
  rfl
theorem parse_txt {f : Cf} (h : wrong f < 0) : parse (txt f 4) = (f, 0) := by
  unfold parse
  rw [read_txt h]
  show (if wrong f < 0 then (f, 0) else (zero, 2)) = (f, 0)
  rw [if_pos h]
end Go.Proofs.YtabihdhgonnihaaDoor

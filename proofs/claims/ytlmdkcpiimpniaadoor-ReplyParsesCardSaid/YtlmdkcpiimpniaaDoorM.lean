/- Rows of bytes that the call makes: a string, a number appended; read as a string. -/
import Derived.Test.YtlmdkcpiimpniaaDoorJ
import Derived.Lib.AppendStr
import Derived.Laws.IdiomStrings
namespace Go.Proofs.YtlmdkcpiimpniaaDoor
open Go.ChangeShapes Go.WideShapes Go.ChangeAt Go.RowKit
set_option linter.unusedVariables false
set_option linter.unusedSimpArgs false

def us (l : Str) : List Int := l.map (fun c => (c.toNat : Int))
theorem us_len (l : Str) : (us l).length = l.length := by simp [us]
theorem us_app (a b : Str) : us (a ++ b) = us a ++ us b := by simp [us]
theorem flat_us (l : Str) : flat (encK .u8) (us l) = Lib.byteCells l := by
  unfold flat us Lib.byteCells
  induction l with
  | nil => rfl
  | cons c l ih => simp only [List.map_cons, List.flatMap_cons, ih]; rfl
theorem info5 : (Tryd.prog.info? 5).map (fun i => (i.zero, i.size, i.bytes)) = some (some (.int .u8 0), 1, 1) := by kernel_rfl
abbrev OutB (w : World) (B : Nat) (v : Value) (l : Str) : Prop := OutR 1 (encK .u8) 5 w B v (us l)
theorem out_row {w : World} {B : Nat} {v : Value} {l : Str} (h : OutB w B v l) : w.ownsRow B 5 1 v l.length (Lib.byteCells l) := by
  obtain ⟨⟨h1, h2⟩, h3⟩ := h
  rw [flat_us, us_len] at h1 h2
  refine ⟨h1, ?_⟩
  rcases h2 with h2 | ⟨g, cap, cur, hv, _, h4⟩
  · exact Or.inl h2
  · exact Or.inr ⟨g, cap, cur, hv, h3 g (by rw [hv]; rfl), h4⟩
theorem row_out {w : World} {B : Nat} {v : Value} {l : Str} (h : w.ownsRow B 5 1 v l.length (Lib.byteCells l)) : OutB w B v l := by
  obtain ⟨h1, h2⟩ := h
  rcases h2 with ⟨hv, h2⟩ | ⟨g, cap, cur, hv, hB, h4⟩
  · exact ⟨⟨by rw [flat_us, us_len]; exact h1, Or.inl ⟨hv, by rw [us_len]; exact h2⟩⟩, fun g hg => by rw [hv] at hg; cases hg⟩
  · exact ⟨⟨by rw [flat_us, us_len]; exact h1, Or.inr ⟨g, cap, cur, by rw [us_len]; exact hv, Nat.zero_le _, by rw [flat_us, us_len]; exact h4⟩⟩, fun g' hg => by rw [hv] at hg; cases hg; exact hB⟩
theorem out_nil (w : World) (B : Nat) : OutB w B (.slice none 0 0) [] := ⟨⟨rfl, Or.inl ⟨rfl, rfl⟩⟩, fun g h => by cases h⟩
theorem strCells_eq (s : Str) : Lib.strCells ⟨s.toArray⟩ = Lib.byteCells s := by
  simp [Lib.strCells, Lib.byteCells]
theorem wpList_appStr {w : World} {ops : Array Oper} {rest : List Oper} {o : Oper} {a : Act} {Q : Exit → Act → World → Prop} (hgd : o.guard = none) (sl x : Operand)
    (ho : o.op = .call { callee := .builtin .append, args := #[sl, x], argTypes := #[31, 9] })
    {B : Nat} {v : Value} {l : Str} (hs : a.eval sl = v) (hO : OutB w B v l) (hB : B ≤ w.heap.size) (s : Str) (hx : a.eval x = .string ⟨s.toArray⟩) (hlen : l.length + s.length ≤ 100000000)
    (h : ∀ v' w', OutB w' B v' (l ++ s) → Below B w w' → wpList Tryd.prog ops Q rest (a.put o.dst v') w') :
    wpList Tryd.prog ops Q (o :: rest) a w := by
  obtain ⟨i0, hi, hz0, hz1, hz2⟩ := info_parts info5
  have hsz : (⟨s.toArray⟩ : ByteArray).size = s.length := by simp [ByteArray.size]
  refine Lib.wpList_append_own_string (w := w) hgd sl x 31 9 ho B 5 i0 Tryd.underlying31 Tryd.underlying9 hi hz0 hz1 hz2 v l.length (Lib.byteCells l) hs (out_row hO) ⟨s.toArray⟩ hx (by unfold maxLen; omega) (by omega) hB ?_
  intro v' w' h1 h2 _
  rw [hsz, strCells_eq] at h1
  refine h v' w' (row_out ?_) ((Below.refl B w).grown h2 hB (fun k hk => hO.blk k hk))
  rw [List.length_append]
  simpa [Lib.byteCells] using h1
/-- strconv.AppendInt at base 10. -/
theorem l_app {w w0 : World} (h : Env w0) {B : Nat} (hw : Below w0.heap.size w0 w) (h0B : w0.heap.size ≤ B) (hB : B ≤ w.heap.size) {v : Value} {l : Str} (hO : OutB w B v l) {i : Int} (h0 : -9223372036854775808 ≤ i) (h1 : i ≤ 9223372036854775807) (hlen : l.length ≤ 10000000) :
    Calls Tryd.prog 33 #[v, .int .i64 i, .int .i64 10] w fun e w' => ∃ v', e = .returned v' ∧ OutB w' B v' (l ++ Lib.itoa i) ∧ Below B w w' := by
  have ht : Lib.TabBelow Tryd.prog B w "internal/strconv.uint64pow10" .u64 Lib.pow10Tab := fun w' hb => Go.Joins.tab_stays g2 h.pow (hw.trans (hb.mono h0B)) (Nat.le_refl _)
  refine (Any.strconv_AppendInt_10 Tryd.laysM176 B l.length i h0 h1 v (Lib.byteCells l) w (out_row hO) hB (by omega) ht).mono fun e w' hh => ?_
  obtain ⟨v', he, hr, hb, _⟩ := hh
  have hr : w'.ownsRow B 5 1 v' (l.length + (Lib.itoa i).length) (Lib.byteCells l ++ Lib.byteCells (Lib.itoa i)) := hr
  refine ⟨v', he, row_out ?_, hb⟩
  rw [List.length_append]
  simpa [Lib.byteCells] using hr
/-- strconv.AppendUint at base 10. -/
theorem l_appu {w w0 : World} (h : Env w0) {B : Nat} (hw : Below w0.heap.size w0 w) (hB : B ≤ w.heap.size) {v : Value} {l : Str} (hO : OutB w B v l) {u : Nat} (hu : u < 18446744073709551616) (hlen : l.length ≤ 10000000) :
    Calls Tryd.prog 36 #[v, .int .u64 (u : Int), .int .i64 10] w fun e w' => ∃ v', e = .returned v' ∧ OutB w' B v' (l ++ Lib.decDigits u) ∧ Below B w w' := by
  have ht : Lib.TabIs Tryd.prog w "internal/strconv.uint64pow10" .u64 Lib.pow10Tab := Go.Joins.tab_stays g2 h.pow hw (Nat.le_refl _)
  have P := Lib.hid (Any.internal_strconv_AppendUint_10 Tryd.laysM288 B l.length u hu v (Lib.byteCells l) w (out_row hO) hB (by omega) ht)
  clear h hO ht
  go_enter Tryd.func36, Tryd.ntmps36
  go_wp2_with fail
  refine (P.out).mono ?_; rintro e w1 ⟨v1, rfl, hr, hb, _⟩
  have hr : w1.ownsRow B 5 1 v1 (l.length + (Lib.decDigits u).length) (Lib.byteCells l ++ Lib.byteCells (Lib.decDigits u)) := hr
  have R := Lib.hid hr; have BB := Lib.hid hb
  clear hr hb
  go_wp2_with fail
  go_ret
  refine ⟨v1, rfl, row_out ?_, BB.out⟩
  rw [List.length_append]
  simpa [Lib.byteCells] using R.out
/-- What the row reads as. -/
theorem out_string {w : World} {B : Nat} {a : Option Addr} {n cap : Nat} {l : Str} (h : OutB w B (.slice a n cap) l) (hne : l ≠ []) : (convert 31 9 (.slice a n cap)).run Tryd.prog w = .ok (.string ⟨l.toArray⟩) w := by
  have hsl := h.sl
  obtain ⟨a', cap', e, hS⟩ := hsl
  cases e
  have hne' : us l ≠ [] := fun e => hne (by simpa [us] using e)
  obtain ⟨b, off, rfl, _, hc⟩ := hS.at_ hne'
  rw [us_len]
  refine run_convert_bytes_back w 31 9 5 _ cap l Tryd.underlying31 Tryd.underlying5 Tryd.underlying9 (fun j hj => ?_)
  rw [addr_add]
  have h1 := hc j (by rw [us_len]; exact hj) 0 (by omega)
  simp only [Nat.mul_one, Nat.add_zero] at h1
  rw [h1]
  simp [encK, us]
end Go.Proofs.YtlmdkcpiimpniaaDoor
/- unsigned and signed of the program; strings.Split and Count at a space. -/
namespace Go.Proofs.YtlmdkcpiimpniaaDoor
open Go.ChangeShapes Go.WideShapes Go.ChangeAt Go.RowKit
set_option linter.unusedVariables false
set_option linter.unusedSimpArgs false

def SgV (o : Option Int) (e : Ending) : Prop := match o with
  | some x => e = .returned (.tuple #[.int .i64 x, .bool true])
  | none => ∃ y, e = .returned (.tuple #[.int .i64 y, .bool false])
def UnV (o : Option Nat) (e : Ending) : Prop := match o with
  | some x => e = .returned (.tuple #[.int .u64 (x : Int), .bool true])
  | none => ∃ y, e = .returned (.tuple #[.int .u64 y, .bool false])
theorem sgn_bad {s : Str} (h : ∀ v, Lib.parseIntB 64 s ≠ .ok v) : sgn s = none := by
  unfold sgn
  split
  · rename_i v hv; exact absurd hv (h v)
  · rfl
theorem sgn_ok {s : Str} {v : Int} (h : Lib.parseIntB 64 s = .ok v) : sgn s = if Lib.itoa v = s then some v else none := by
  unfold sgn; rw [h]
theorem uns_bad {s : Str} (h : ∀ v, Lib.parseUintB 64 s ≠ .ok v) : uns s = none := by
  unfold uns
  split
  · rename_i v hv; exact absurd hv (h v)
  · rfl
theorem uns_ok {s : Str} {v : Nat} (h : Lib.parseUintB 64 s = .ok v) : uns s = if Lib.decDigits v = s then some v else none := by
  unfold uns; rw [h]
set_option maxRecDepth 100000 in
set_option maxHeartbeats 4000000 in
theorem psigned {w : World} (h : Env w) {s : Str} (hs : s.length ≤ 1000000) :
    Calls Tryd.prog 68 #[.string ⟨s.toArray⟩] w fun e w' => SgV (sgn s) e ∧ Below w.heap.size w w' := by
  by_cases hp : ∃ v, Lib.parseIntB 64 s = .ok v
  · obtain ⟨v, hv⟩ := hp
    have P := Lib.hid (l_parse_ok h (s := s) (by omega) hv)
    have hb := Lib.parseIntB_bounds hv
    have hb0 : -9223372036854775808 ≤ v ∧ v ≤ 9223372036854775807 := by
      obtain ⟨h1, h2⟩ := hb
      have e63 : ((2 ^ (64 - 1) : Nat) : Int) = 9223372036854775808 := by decide
      rw [e63] at h1 h2
      omega
    have F : Hid (∀ w1, Below w.heap.size w w1 → Calls Tryd.prog 79 #[.int .i64 v, .int .i64 10] w1 fun e w' => e = .returned (.string ⟨(Lib.itoa v).toArray⟩) ∧ Below w1.heap.size w1 w') := Lib.hid (fun w1 h1 => l_fmt (h.below h1) hb0.1 hb0.2)
    rw [sgn_ok hv]
    by_cases hi : Lib.itoa v = s
    · rw [if_pos hi]
      generalize Lib.itoa v = q at *
      subst hi
      clear h hs hv hb hb0
      go_enter Tryd.func68, Tryd.ntmps68
      go_wp2_with fail
      refine (P.out).mono ?_; rintro e w1 ⟨rfl, hb1⟩
      have G := Lib.hid (F.out w1 hb1)
      have B := Lib.hid hb1; clear hb1 P F
      go_wp2_with fail
      refine (G.out).mono ?_; rintro e w2 ⟨rfl, hb2⟩
      have B2 := Lib.hid (B.out.trans (hb2.mono B.out.size)); clear hb2 G
      go_wp2_with fail
      go_ret2
      exact ⟨rfl, B2.out⟩
    · rw [if_neg hi]
      have hne := beq_str hi
      clear h hs hv hb hb0 hi
      go_enter Tryd.func68, Tryd.ntmps68
      go_wp2_with fail
      refine (P.out).mono ?_; rintro e w1 ⟨rfl, hb1⟩
      have G := Lib.hid (F.out w1 hb1)
      have B := Lib.hid hb1; clear hb1 P F
      go_wp2_with fail
      refine (G.out).mono ?_; rintro e w2 ⟨rfl, hb2⟩
      have B2 := Lib.hid (B.out.trans (hb2.mono B.out.size)); clear hb2 G
      go_wp2_with fail
      go_ret2
      exact ⟨⟨_, rfl⟩, B2.out⟩
  · have hp' : ∀ v, Lib.parseIntB 64 s ≠ .ok v := fun v hv => hp ⟨v, hv⟩
    have P := Lib.hid (l_parse_bad h (s := s) (by omega) hp')
    rw [sgn_bad hp']
    clear h hs hp hp'
    go_enter Tryd.func68, Tryd.ntmps68
    go_wp2_with fail
    refine (P.out).mono ?_; rintro e w1 ⟨x, p, rfl, hb1⟩
    have B := Lib.hid hb1; clear hb1 P
    go_wp2_with fail
    go_ret2
    exact ⟨⟨_, rfl⟩, B.out⟩
set_option maxRecDepth 100000 in
set_option maxHeartbeats 4000000 in
theorem punsigned {w : World} (h : Env w) {s : Str} (hs : s.length ≤ 1000000) :
    Calls Tryd.prog 80 #[.string ⟨s.toArray⟩] w fun e w' => UnV (uns s) e ∧ Below w.heap.size w w' := by
  by_cases hp : ∃ v, Lib.parseUintB 64 s = .ok v
  · obtain ⟨v, hv⟩ := hp
    have P := Lib.hid (l_parseu_ok h (s := s) (by omega) hv)
    have hb0 : v < 18446744073709551616 := by have := Lib.parseUintB_le hv; have e : (2 : Nat) ^ 64 = 18446744073709551616 := by decide
                                              omega
    have F : Hid (∀ w1, Below w.heap.size w w1 → Calls Tryd.prog 95 #[.int .u64 (v : Int), .int .i64 10] w1 fun e w' => e = .returned (.string ⟨(Lib.decDigits v).toArray⟩) ∧ Below w1.heap.size w1 w') := Lib.hid (fun w1 h1 => l_fmtu (h.below h1) hb0)
    rw [uns_ok hv]
    by_cases hi : Lib.decDigits v = s
    · rw [if_pos hi]
      generalize Lib.decDigits v = q at *
      subst hi
      clear h hs hv
      go_enter Tryd.func80, Tryd.ntmps80
      go_wp2_with fail
      refine (P.out).mono ?_; rintro e w1 ⟨rfl, hb1⟩
      have G := Lib.hid (F.out w1 hb1)
      have B := Lib.hid hb1; clear hb1 P F
      go_wp2_with fail
      refine (G.out).mono ?_; rintro e w2 ⟨rfl, hb2⟩
      have B2 := Lib.hid (B.out.trans (hb2.mono B.out.size)); clear hb2 G
      go_wp2_with fail
      go_ret2
      exact ⟨rfl, B2.out⟩
    · rw [if_neg hi]
      have hne := beq_str hi
      clear h hs hv hi
      go_enter Tryd.func80, Tryd.ntmps80
      go_wp2_with fail
      refine (P.out).mono ?_; rintro e w1 ⟨rfl, hb1⟩
      have G := Lib.hid (F.out w1 hb1)
      have B := Lib.hid hb1; clear hb1 P F
      go_wp2_with fail
      refine (G.out).mono ?_; rintro e w2 ⟨rfl, hb2⟩
      have B2 := Lib.hid (B.out.trans (hb2.mono B.out.size)); clear hb2 G
      go_wp2_with fail
      go_ret2
      exact ⟨⟨_, rfl⟩, B2.out⟩
  · have hp' : ∀ v, Lib.parseUintB 64 s ≠ .ok v := fun v hv => hp ⟨v, hv⟩
    have P := Lib.hid (l_parseu_bad h (s := s) (by omega) hp')
    rw [uns_bad hp']
    clear h hs hp hp'
    go_enter Tryd.func80, Tryd.ntmps80
    go_wp2_with fail
    refine (P.out).mono ?_; rintro e w1 ⟨x, p, rfl, hb1⟩
    have B := Lib.hid hb1; clear hb1 P
    go_wp2_with fail
    go_ret2
    exact ⟨⟨_, rfl⟩, B.out⟩
end Go.Proofs.YtlmdkcpiimpniaaDoor

/- Plain: numbers of eight bytes; what some bytes are read as. -/
import Derived.Test.YtabihdhgonnihaaDoorZl
import Derived.Test.YtabihdhgonnihaaDoorZd
import Derived.Laws.BitsAllLaws
namespace Go.Proofs.YtabihdhgonnihaaDoor
open Go.ChangeShapes Go.WideShapes Go.ChangeAt Go.RowKit
set_option linter.unusedVariables false
set_option linter.unusedSimpArgs false

theorem p256 {k m : Nat} (h : k ≤ m) : (256 : Int) ^ k ≤ 256 ^ m := by
  obtain ⟨j, rfl⟩ : ∃ j, m = k + j := ⟨m - k, by omega⟩
  rw [Int.pow_add]
  have h1 : ∀ n : Nat, (1 : Int) ≤ 256 ^ n := fun n => by
    induction n with
    | zero => simp
    | succ n ih => rw [Int.pow_succ]; omega
  have h2 := h1 k; have h3 := h1 j
  have := Int.mul_le_mul_of_nonneg_left h3 (show (0 : Int) ≤ 256 ^ k by omega)
  rwa [Int.mul_one] at this
def be (l : List Int) : Int := l.foldl (fun x y => x * 256 + y) 0
theorem be_step (l : List Int) (y : Int) : be (l ++ [y]) = be l * 256 + y := by simp [be]
def sg (x : Int) : Int := if x < 9223372036854775808 then x else x - 18446744073709551616
def IsB (l : List Int) : Prop := ∀ y ∈ l, 0 ≤ y ∧ y < 256
theorem IsB.sub {l l' : List Int} (h : IsB l) (hs : ∀ y ∈ l', y ∈ l) : IsB l' := fun y hy => h y (hs y hy)
theorem IsB.take {l : List Int} (h : IsB l) (k : Nat) : IsB (l.take k) := h.sub fun y hy => List.mem_of_mem_take hy
theorem IsB.drop {l : List Int} (h : IsB l) (k : Nat) : IsB (l.drop k) := h.sub fun y hy => List.mem_of_mem_drop hy
theorem be_lt : ∀ (n : Nat) (l : List Int), l.length = n → IsB l → 0 ≤ be l ∧ be l < 256 ^ n
  | 0, l, hl, _ => by
    have : l = [] := List.eq_nil_of_length_eq_zero hl
    subst this; simp [be]
  | n + 1, l, hl, h => by
    have hne : l ≠ [] := by intro e; rw [e] at hl; simp at hl
    have he := List.dropLast_concat_getLast hne
    have hb := h _ (List.getLast_mem hne)
    have ih := be_lt n l.dropLast (by simp [hl]) (h.sub fun y hy => List.dropLast_subset _ hy)
    rw [← he, be_step, Int.pow_succ]
    generalize be l.dropLast = X at *
    generalize l.getLast hne = Y at *
    generalize (256 : Int) ^ n = Z at *
    omega
/-- The number of the i-th eight bytes. -/
def grp (l : List Int) (i : Nat) : List Int := (l.drop (8 * i)).take 8
def getC (l : List Int) : Cf := ⟨sg (be (grp l 0)), sg (be (grp l 1)), sg (be (grp l 2)), sg (be (grp l 3))⟩
def get (l : List Int) : Cf × Int × Int := if l.length < 32 then (zero, 0, 15) else if wrong (getC l) < 0 then (getC l, 32, 0) else (zero, 0, 2)
theorem sg_in {l : List Int} (hl : l.length ≤ 8) (h : IsB l) : -9223372036854775808 ≤ sg (be l) ∧ sg (be l) ≤ 9223372036854775807 := by
  have h2 := be_lt _ l rfl h
  have h3 : (256 : Int) ^ l.length ≤ 256 ^ 8 := p256 hl
  unfold sg
  split <;> omega
theorem grp_len (l : List Int) (i : Nat) : (grp l i).length ≤ 8 := by simp [grp]; omega
theorem grp_b {l : List Int} (h : IsB l) (i : Nat) : IsB (grp l i) := (h.drop _).take _
theorem getC_ok {l : List Int} (h : IsB l) : (getC l).ok := by
  have h0 := sg_in (grp_len l 0) (grp_b h 0)
  have h1 := sg_in (grp_len l 1) (grp_b h 1)
  have h2 := sg_in (grp_len l 2) (grp_b h 2)
  have h3 := sg_in (grp_len l 3) (grp_b h 3)
  constructor <;> (unfold getC; simp only; omega)
theorem eight {l : List Int} (h : l.length = 8) : ∃ a b c d e f g i, l = [a, b, c, d, e, f, g, i] := by
  match l, h with
  | [a, b, c, d, e, f, g, i], _ => exact ⟨a, b, c, d, e, f, g, i, rfl⟩
theorem bys8 (x : Int) : bys x 8 = [x / 72057594037927936 % 256, x / 281474976710656 % 256, x / 1099511627776 % 256, x / 4294967296 % 256, x / 16777216 % 256, x / 65536 % 256, x / 256 % 256, x % 256] := by
  have : List.range 8 = [0, 1, 2, 3, 4, 5, 6, 7] := by decide
  unfold bys
  rw [this]
  simp [by8, pw8]
theorem isB_bys (x : Int) : IsB (bys x 8) := by
  rw [bys8]
  intro y hy
  simp only [List.mem_cons, List.not_mem_nil, or_false] at hy
  rcases hy with rfl | rfl | rfl | rfl | rfl | rfl | rfl | rfl <;> omega
theorem be_bys (x : Int) : be (bys x 8) = x % 18446744073709551616 := by
  rw [bys8]
  show (((((((0 * 256 + x / 72057594037927936 % 256) * 256 + x / 281474976710656 % 256) * 256 + x / 1099511627776 % 256) * 256 + x / 4294967296 % 256) * 256 + x / 16777216 % 256) * 256 + x / 65536 % 256) * 256 + x / 256 % 256) * 256 + x % 256 = _
  have h1 : (0 * 256 + x / 72057594037927936 % 256) * 256 + x / 281474976710656 % 256 = x / 281474976710656 % 65536 := by omega
  rw [h1]
  have h2 : x / 281474976710656 % 65536 * 256 + x / 1099511627776 % 256 = x / 1099511627776 % 16777216 := by omega
  rw [h2]
  have h3 : x / 1099511627776 % 16777216 * 256 + x / 4294967296 % 256 = x / 4294967296 % 4294967296 := by omega
  rw [h3]
  have h4 : x / 4294967296 % 4294967296 * 256 + x / 16777216 % 256 = x / 16777216 % 1099511627776 := by omega
  rw [h4]
  have h5 : x / 16777216 % 1099511627776 * 256 + x / 65536 % 256 = x / 65536 % 281474976710656 := by omega
  rw [h5]
  have h6 : x / 65536 % 281474976710656 * 256 + x / 256 % 256 = x / 256 % 72057594037927936 := by omega
  rw [h6]
  omega
theorem sg_bys {x : Int} (h0 : -9223372036854775808 ≤ x) (h1 : x ≤ 9223372036854775807) : sg (be (bys x 8)) = x := by
  rw [be_bys]; unfold sg; split <;> omega
theorem bys_sg {l : List Int} (hl : l.length = 8) (h : IsB l) : bys (sg (be l)) 8 = l := by
  obtain ⟨a, b, c, d, e, f, g, i, rfl⟩ := eight hl
  have ha := h a (by simp); have hb := h b (by simp); have hc := h c (by simp); have hd := h d (by simp); have he := h e (by simp); have hf := h f (by simp); have hg := h g (by simp); have hi := h i (by simp)
  clear h hl
  have hv : be [a, b, c, d, e, f, g, i] = (((((((0 * 256 + a) * 256 + b) * 256 + c) * 256 + d) * 256 + e) * 256 + f) * 256 + g) * 256 + i := rfl
  rw [hv, bys8]
  generalize hV : (((((((0 * 256 + a) * 256 + b) * 256 + c) * 256 + d) * 256 + e) * 256 + f) * 256 + g) * 256 + i = V
  have hs : sg V = V ∨ sg V = V - 18446744073709551616 := by unfold sg; split <;> simp
  generalize sg V = S at *
  clear hv
  have e7 : S % 256 = i := by omega
  have e6 : S / 256 % 256 = g := by omega
  have e5 : S / 65536 % 256 = f := by omega
  have e4 : S / 16777216 % 256 = e := by omega
  have e3 : S / 4294967296 % 256 = d := by omega
  have e2 : S / 1099511627776 % 256 = c := by omega
  have e1 : S / 281474976710656 % 256 = b := by omega
  have e0 : S / 72057594037927936 % 256 = a := by omega
  rw [e0, e1, e2, e3, e4, e5, e6, e7]
theorem putB4 (f : Cf) : putB f 4 = bys f.a 8 ++ bys f.b 8 ++ bys f.c 8 ++ bys f.d 8 := by simp [putB, Cf.at]
theorem isB_put (f : Cf) : IsB (putB f 4) := by
  rw [putB4]
  intro y hy
  simp only [List.mem_append] at hy
  rcases hy with ((h | h) | h) | h <;> exact isB_bys _ y h
theorem grp_app (f : Cf) (more : List Int) : grp (putB f 4 ++ more) 0 = bys f.a 8 ∧ grp (putB f 4 ++ more) 1 = bys f.b 8 ∧ grp (putB f 4 ++ more) 2 = bys f.c 8 ∧ grp (putB f 4 ++ more) 3 = bys f.d 8 := by
  have la := bys_len f.a 8; have lb := bys_len f.b 8; have lc := bys_len f.c 8; have ld := bys_len f.d 8
  rw [putB4]
  generalize bys f.a 8 = A at *
  generalize bys f.b 8 = B at *
  generalize bys f.c 8 = C at *
  generalize bys f.d 8 = D at *
  unfold grp
  simp only [List.append_assoc]
  refine ⟨?_, ?_, ?_, ?_⟩
  · simp [← la]
  · rw [show 8 * 1 = A.length by omega, List.drop_left, ← lb, List.take_left]
  · rw [← List.append_assoc A, show 8 * 2 = (A ++ B).length by simp; omega, List.drop_left, ← lc, List.take_left]
  · rw [← List.append_assoc A, ← List.append_assoc (A ++ B), show 8 * 3 = (A ++ B ++ C).length by simp; omega, List.drop_left, ← ld, List.take_left]
theorem getC_put {f : Cf} (h : f.ok) (more : List Int) : getC (putB f 4 ++ more) = f := by
  obtain ⟨e0, e1, e2, e3⟩ := grp_app f more
  unfold getC
  rw [e0, e1, e2, e3, sg_bys h.a0 h.a1, sg_bys h.b0 h.b1, sg_bys h.c0 h.c1, sg_bys h.d0 h.d1]
theorem get_put {f : Cf} (h : f.ok) (hw : wrong f < 0) (more : List Int) : get (putB f 4 ++ more) = (f, 32, 0) := by
  unfold get
  rw [getC_put h, if_neg (by rw [List.length_append, putB_len]; omega), if_pos hw]
theorem put_get {l : List Int} (hl : l.length = 32) (h : IsB l) : putB (getC l) 4 = l := by
  have g0 : (grp l 0).length = 8 := by simp [grp]; omega
  have g1 : (grp l 1).length = 8 := by simp [grp]; omega
  have g2 : (grp l 2).length = 8 := by simp [grp]; omega
  have g3 : (grp l 3).length = 8 := by simp [grp]; omega
  rw [putB4]
  unfold getC
  simp only
  rw [bys_sg g0 (grp_b h 0), bys_sg g1 (grp_b h 1), bys_sg g2 (grp_b h 2), bys_sg g3 (grp_b h 3)]
  unfold grp
  have hd : l.drop (8 * 3) = (l.drop (8 * 3)).take 8 := by rw [List.take_of_length_le (by simp; omega)]
  rw [← hd]
  have k2 : (l.drop (8 * 2)).take 8 ++ l.drop (8 * 3) = l.drop (8 * 2) := by
    conv => rhs; rw [← List.take_append_drop 8 (l.drop (8 * 2)), List.drop_drop]
  have k1 : (l.drop (8 * 1)).take 8 ++ l.drop (8 * 2) = l.drop (8 * 1) := by
    conv => rhs; rw [← List.take_append_drop 8 (l.drop (8 * 1)), List.drop_drop]
  have k0 : (l.drop (8 * 0)).take 8 ++ l.drop (8 * 1) = l := by simp
  rw [List.append_assoc, List.append_assoc, k2, k1, k0]
theorem get_short {l : List Int} (h : l.length < 32) : get l = (zero, 0, 15) := by unfold get; rw [if_pos h]
theorem get_ok {l : List Int} (h : IsB l) : (get l).1.ok := by
  unfold get
  split
  · exact zero_ok
  · split
    · exact getC_ok h
    · exact zero_ok
/-- The steps of both. -/
theorem pow_lt {k : Nat} (h : k ≤ 7) : (256 : Int) ^ k ≤ 72057594037927936 := by
  have := p256 h
  simpa using this
theorem u64_step {x y : Int} (hx : 0 ≤ x) (hx1 : x < 72057594037927936) (hy : 0 ≤ y) (hy1 : y < 256) : bits .or .u64 (x * 256) y = x * 256 + y := by
  obtain ⟨X, rfl⟩ := Int.eq_ofNat_of_zero_le hx
  obtain ⟨Y, rfl⟩ := Int.eq_ofNat_of_zero_le hy
  have := u64_or_nat (X * 256) Y (by omega) (by omega)
  rw [nat_join 8 (X * 256) Y (by omega) (by omega)] at this
  simpa using this
theorem wrap_i64 (n : Int) : IntKind.i64.wrap n = if n % 18446744073709551616 < 9223372036854775808 then n % 18446744073709551616 else n % 18446744073709551616 - 18446744073709551616 := by
  have e : IntKind.i64.wrap n = if 9223372036854775808 ≤ n % 18446744073709551616 then n % 18446744073709551616 - 18446744073709551616 else n % 18446744073709551616 := by simp [IntKind.wrap, IntKind.bits, IntKind.signed]
  rw [e]
  generalize n % 18446744073709551616 = m
  by_cases h : m < 9223372036854775808
  · rw [if_pos h, if_neg (by omega)]
  · rw [if_neg h, if_pos (by omega)]
theorem sg_wrap {x : Int} (hx : 0 ≤ x) (hx1 : x < 18446744073709551616) : IntKind.i64.wrap x = sg x := by
  rw [wrap_i64]; unfold sg
  rw [Int.emod_eq_of_lt hx hx1]
theorem i64_step {x y : Int} (hx : 0 ≤ x) (hx1 : x < 72057594037927936) (hy : 0 ≤ y) (hy1 : y < 256) : bits .or .i64 (sg (x * 256)) y = sg (x * 256 + y) := by
  obtain ⟨X, rfl⟩ := Int.eq_ofNat_of_zero_le hx
  obtain ⟨Y, rfl⟩ := Int.eq_ofNat_of_zero_le hy
  show IntKind.i64.wrap ((BitVec.ofInt 64 (sg ((X : Int) * 256)) ||| BitVec.ofInt 64 (Y : Int)).toNat : Int) = _
  have h1 : (BitVec.ofInt 64 (sg ((X : Int) * 256))).toNat = X * 256 := by
    have : BitVec.ofInt 64 (sg ((X : Int) * 256)) = BitVec.ofInt 64 ((X * 256 : Nat) : Int) := by
      apply BitVec.eq_of_toNat_eq
      rw [BitVec.toNat_ofInt, BitVec.toNat_ofInt]
      have h2 : sg ((X : Int) * 256) % 18446744073709551616 = ((X * 256 : Nat) : Int) % 18446744073709551616 := by unfold sg; split <;> omega
      exact _root_.congrArg Int.toNat h2
    rw [this, ofInt_u64 _ (by omega)]
  rw [BitVec.toNat_or, h1, ofInt_u64 Y (by omega), nat_join 8 (X * 256) Y (by omega) (by omega), sg_wrap (by omega) (by omega)]
  congr 1
end Go.Proofs.YtabihdhgonnihaaDoor

/- CodecFirst: the walk. -/
import Derived.Test.YthnoihdojinocaaZzb
namespace Go.Proofs.Ythnoihdojinocaa
open Go.ChangeShapes Go.WideShapes Go.ChangeAt Go.RowKit
set_option linter.unusedVariables false
set_option linter.unusedSimpArgs false

theorem chks_zero : ∀ {l : List Cm}, (∀ c ∈ l, chk c = 0) → chks l = 0
  | [], _ => rfl
  | c :: l, h => by
    unfold chks
    rw [if_pos (h c (by simp))]
    exact chks_zero (fun x hx => h x (List.mem_cons_of_mem _ hx))
theorem frm_in : ∀ {l : List Cm} {c : Cm}, c ∈ l → (frm c).length ≤ (frms l).length
  | x :: l, c, h => by
    rw [frms_cons, List.length_append]
    rcases List.mem_cons.1 h with e | e
    · subst e; omega
    · have := frm_in e; omega
theorem get_nil : get [] = none := rfl
set_option maxRecDepth 100000 in
set_option maxHeartbeats 1000000 in
theorem first_1 {a : Option Addr} {n c : Nat} {b : List Nat} {w : World} (hS : IsK .u8 w a n c (ns b)) (hb : By b) (hl : n ≤ 3000) (hk : (getAll b).2.2 = true) :
    Calls Try.prog 14 #[.slice a n c] w fun e w' => e = .returned (.bool true) ∧ Below w.heap.size w w' := by
    have hn := hS.u8; have hnc := hS.hle; have hmx := hS.hmax
    have h := hl
    unfold maxLen at hmx
    have e1 : decide ((3000 : Int) < (n : Int)) = false := by simp; omega
    have e2 : decide (3000 < n) = false := by simp; omega
    have P1 := Lib.hid ((pgetall hS hb (by omega)).mono (fun e w' h => ga_sl hb h))
    obtain ⟨g1, g2, g3, g4, g5⟩ := getAll_one b.length (Nat.le_refl _) hb
    generalize getAll b = g at *
    obtain ⟨l, k, ok⟩ := g
    dsimp only at g1 g2 g3 g4 g5 P1 hk
    subst hk
    have e0 := g4 rfl
    have e5 : ((k : Int) == (n : Int)) = true := by simp; omega
    have e6 : (k == n) = true := by simp; omega
    have hgn : get (b.drop k) = none := by rw [g4 rfl, List.drop_length]; exact get_nil
    have hkn : k ≤ n := by omega
    have ht := hS.tail hkn
    rw [show (ns b).drop k = ns (b.drop k) by simp [ns]] at ht
    have hs1 := run_from Try.underlying29 size1 (a := a) (len := n) (cap := c) (l := (k : Int)) (k := k) rfl hkn
    have hs2 := run_to Try.underlying29 size1 (a := a) (len := n) (cap := c) (h := (k : Int)) (k := k) rfl (by omega)
    have hSp := hS.part (l := 0) (r := k) (m := c) (by omega) hkn (by omega) (Nat.le_refl _)
    rw [List.drop_zero, Nat.sub_zero, Nat.sub_zero, show (ns b).take k = ns (frms l) by rw [g3]; simp [ns, List.map_take]] at hSp
    have hfl : (frms l).length ≤ 3000 := by rw [g3, List.length_take]; omega
    have hck : chks l = 0 := chks_zero (fun c hc => (g1 c hc).2)
    have PG := Lib.hid (fun w' (hb' : Below w.heap.size w w') => pget (ht.below hb') (hb.drop k))
    rw [hgn] at PG
    have e3 : decide ((n : Int) < (k : Int)) = false := by simp; omega
    have e4 : decide (n < k) = false := by simp; omega
    have e7 : decide ((k : Int) < 0) = false := by simp
    have SP := Lib.hid hSp
    have G1 := Lib.hid g1
    have FL := Lib.hid hfl
    have CK := Lib.hid hck
    generalize part a k c 1 = pk at *
    generalize part a 0 c 1 = p0 at *
    clear h hS hb hn hl g1 g2 g3 g4 g5 hgn ht hSp hfl hck e0
    unfold GaS at P1
    dsimp only at P1
    go_enter Try.func14, Try.ntmps14
    go_wp2_with fail
    refine (P1.out).mono ?_; rintro e w1 ⟨a1, n1, c1, zs1, rfl, hb1, hC1, hz1⟩
    have B1 := Lib.hid hb1
    have PP : Hid (Calls Try.prog 32 #[.slice a1 n1 c1] w1 (PaS w1 l)) := Lib.hid (by
      have hz2 : cs zs1 = l := hz1
      have hall : ∀ r ∈ zs1, r.c.ok ∧ chk r.c = 0 := fun r hr => G1.out r.c (by rw [← hz1]; exact List.mem_map.2 ⟨r, hr, rfl⟩)
      have h1 := pputall hC1 (fun r hr => by have h := chk_ok (hall r hr).2; obtain ⟨-, -, -, hd, hb⟩ := h; omega) (fun i => by
        have := flat_le2 (g := frm) (fs := cs zs1) i
        rw [hz2] at this ⊢
        have h3 := FL.out
        exact Nat.le_trans this (by show (frms l).length ≤ _; omega)) (fun r hr => by
        have := frm_in (l := l) (c := r.c) (by rw [← hz1]; exact List.mem_map.2 ⟨r, hr, rfl⟩)
        have := FL.out; omega)
      rw [hz2] at h1
      exact h1.mono (fun e w'' h => pa_sl h))
    unfold PaS fs0 at PP
    rw [CK.out, if_pos rfl] at PP
    clear hb1 hC1 hz1 P1
    go_wp2_with fail
    refine (PP.out).mono ?_; rintro e w2 ⟨a2, n2, c2, rfl, hS2, hb2, -⟩
    have B2 := Lib.hid (B1.out.trans (hb2.mono B1.out.size))
    have Q := Lib.hid (bytes_yes hS2 (SP.out.below B2.out))
    have S2 := Lib.hid hS2
    clear hb2 hS2 PP
    go_wp2_with fail
    refine (Q.out).mono ?_; rintro e w3 ⟨rfl, hb3⟩
    have B3 := Lib.hid (B2.out.trans (hb3.mono B2.out.size))
    have G := Lib.hid (PG.out w3 B3.out)
    unfold GetR getV nul at G
    dsimp only [List.length_nil] at G
    clear hb3 Q
    go_wp2_with fail
    refine (G.out).mono ?_; rintro e w4 ⟨ad, cd, ab, cb, rfl, -, hb4⟩
    have B4 := Lib.hid (B3.out.trans (hb4.mono B3.out.size))
    have A2 := Lib.hid (Below.alloc (Below.refl w4.heap.size w4) (Nat.le_refl _) (.cells #[.int .i64 0, .int .u64 0, .int .u64 0, .int .i64 0, .int .i64 0, .slice ad 0 cd, .slice ab 0 cb] 27))
    have B5 := Lib.hid (B4.out.trans (A2.out.mono B4.out.size))
    have W := Lib.hid (works_any (w4.alloc (.cells #[.int .i64 0, .int .u64 0, .int .u64 0, .int .i64 0, .int .i64 0, .slice ad 0 cd, .slice ab 0 cb] 27)))
    clear hb4 G
    simp only [cmV]
    go_wp2_with fail
    refine (W.out).mono ?_; rintro e w6 ⟨rfl, hb6⟩
    have B6 := Lib.hid (B5.out.trans (hb6.mono B5.out.size))
    clear hb6 W
    go_wp2_with fail
    go_ret
    exact ⟨rfl, B6.out⟩
set_option maxRecDepth 100000 in
set_option maxHeartbeats 1000000 in
theorem first_2 {a : Option Addr} {n c : Nat} {b : List Nat} {w : World} (hS : IsK .u8 w a n c (ns b)) (hb : By b) (hl : n ≤ 3000) (hk : (getAll b).2.2 = false) :
    Calls Try.prog 14 #[.slice a n c] w fun e w' => e = .returned (.bool true) ∧ Below w.heap.size w w' := by
    have hn := hS.u8; have hnc := hS.hle; have hmx := hS.hmax
    have h := hl
    unfold maxLen at hmx
    have e1 : decide ((3000 : Int) < (n : Int)) = false := by simp; omega
    have e2 : decide (3000 < n) = false := by simp; omega
    have P1 := Lib.hid ((pgetall hS hb (by omega)).mono (fun e w' h => ga_sl hb h))
    obtain ⟨g1, g2, g3, g4, g5⟩ := getAll_one b.length (Nat.le_refl _) hb
    generalize getAll b = g at *
    obtain ⟨l, k, ok⟩ := g
    dsimp only at g1 g2 g3 g4 g5 P1 hk
    subst hk
    have hlt := (g5 rfl).1
    have hgn := (g5 rfl).2
    have e5 : ((k : Int) == (n : Int)) = false := by simp; omega
    have e6 : (k == n) = false := by simp; omega
    have hkn : k ≤ n := by omega
    have ht := hS.tail hkn
    rw [show (ns b).drop k = ns (b.drop k) by simp [ns]] at ht
    have hs1 := run_from Try.underlying29 size1 (a := a) (len := n) (cap := c) (l := (k : Int)) (k := k) rfl hkn
    have hs2 := run_to Try.underlying29 size1 (a := a) (len := n) (cap := c) (h := (k : Int)) (k := k) rfl (by omega)
    have hSp := hS.part (l := 0) (r := k) (m := c) (by omega) hkn (by omega) (Nat.le_refl _)
    rw [List.drop_zero, Nat.sub_zero, Nat.sub_zero, show (ns b).take k = ns (frms l) by rw [g3]; simp [ns, List.map_take]] at hSp
    have hfl : (frms l).length ≤ 3000 := by rw [g3, List.length_take]; omega
    have hck : chks l = 0 := chks_zero (fun c hc => (g1 c hc).2)
    have PG := Lib.hid (fun w' (hb' : Below w.heap.size w w') => pget (ht.below hb') (hb.drop k))
    rw [hgn] at PG
    have e3 : decide ((n : Int) < (k : Int)) = false := by simp; omega
    have e4 : decide (n < k) = false := by simp; omega
    have e7 : decide ((k : Int) < 0) = false := by simp
    have SP := Lib.hid hSp
    have G1 := Lib.hid g1
    have FL := Lib.hid hfl
    have CK := Lib.hid hck
    generalize part a k c 1 = pk at *
    generalize part a 0 c 1 = p0 at *
    clear h hS hb hn hl g1 g2 g3 g4 g5 hgn ht hSp hfl hck hlt
    unfold GaS at P1
    dsimp only at P1
    go_enter Try.func14, Try.ntmps14
    go_wp2_with fail
    refine (P1.out).mono ?_; rintro e w1 ⟨a1, n1, c1, zs1, rfl, hb1, hC1, hz1⟩
    have B1 := Lib.hid hb1
    have PP : Hid (Calls Try.prog 32 #[.slice a1 n1 c1] w1 (PaS w1 l)) := Lib.hid (by
      have hz2 : cs zs1 = l := hz1
      have hall : ∀ r ∈ zs1, r.c.ok ∧ chk r.c = 0 := fun r hr => G1.out r.c (by rw [← hz1]; exact List.mem_map.2 ⟨r, hr, rfl⟩)
      have h1 := pputall hC1 (fun r hr => by have h := chk_ok (hall r hr).2; obtain ⟨-, -, -, hd, hb⟩ := h; omega) (fun i => by
        have := flat_le2 (g := frm) (fs := cs zs1) i
        rw [hz2] at this ⊢
        have h3 := FL.out
        exact Nat.le_trans this (by show (frms l).length ≤ _; omega)) (fun r hr => by
        have := frm_in (l := l) (c := r.c) (by rw [← hz1]; exact List.mem_map.2 ⟨r, hr, rfl⟩)
        have := FL.out; omega)
      rw [hz2] at h1
      exact h1.mono (fun e w'' h => pa_sl h))
    unfold PaS fs0 at PP
    rw [CK.out, if_pos rfl] at PP
    clear hb1 hC1 hz1 P1
    go_wp2_with fail
    refine (PP.out).mono ?_; rintro e w2 ⟨a2, n2, c2, rfl, hS2, hb2, -⟩
    have B2 := Lib.hid (B1.out.trans (hb2.mono B1.out.size))
    have Q := Lib.hid (bytes_yes hS2 (SP.out.below B2.out))
    have S2 := Lib.hid hS2
    clear hb2 hS2 PP
    go_wp2_with fail
    refine (Q.out).mono ?_; rintro e w3 ⟨rfl, hb3⟩
    have B3 := Lib.hid (B2.out.trans (hb3.mono B2.out.size))
    have G := Lib.hid (PG.out w3 B3.out)
    unfold GetR getV nul at G
    dsimp only [List.length_nil] at G
    clear hb3 Q
    go_wp2_with fail
    refine (G.out).mono ?_; rintro e w4 ⟨ad, cd, ab, cb, rfl, -, hb4⟩
    have B4 := Lib.hid (B3.out.trans (hb4.mono B3.out.size))
    have A2 := Lib.hid (Below.alloc (Below.refl w4.heap.size w4) (Nat.le_refl _) (.cells #[.int .i64 0, .int .u64 0, .int .u64 0, .int .i64 0, .int .i64 0, .slice ad 0 cd, .slice ab 0 cb] 27))
    have B5 := Lib.hid (B4.out.trans (A2.out.mono B4.out.size))
    have W := Lib.hid (works_any (w4.alloc (.cells #[.int .i64 0, .int .u64 0, .int .u64 0, .int .i64 0, .int .i64 0, .slice ad 0 cd, .slice ab 0 cb] 27)))
    clear hb4 G
    simp only [cmV]
    go_wp2_with fail
    refine (W.out).mono ?_; rintro e w6 ⟨rfl, hb6⟩
    have B6 := Lib.hid (B5.out.trans (hb6.mono B5.out.size))
    clear hb6 W
    go_wp2_with fail
    go_ret
    exact ⟨rfl, B6.out⟩
set_option maxRecDepth 100000 in
set_option maxHeartbeats 1000000 in
theorem first_law (a : Option Addr) (n c : Nat) (zs : List Int) (w : World) (h : IsInts .u8 w a n c zs) :
    Calls Try.prog 14 #[.slice a n c] w fun e w' => e = .returned (.bool true) ∧ Below w.heap.size w w' := by
  obtain ⟨b, hS, hb⟩ := ints_by h
  by_cases hl : 3000 < n
  · have W := Lib.hid (works_any w)
    have e1 : decide ((3000 : Int) < (n : Int)) = true := by simp; omega
    have e2 : decide (3000 < n) = true := by simp; omega
    clear h hS hb
    go_enter Try.func14, Try.ntmps14
    go_wp2_with fail
    refine (W.out).mono ?_; rintro e w1 ⟨rfl, hb⟩
    have B := Lib.hid hb
    clear hb
    go_wp2_with fail
    go_ret
    exact ⟨rfl, B.out⟩
  · cases hk : (getAll b).2.2 with
    | true => exact first_1 hS hb (by omega) hk
    | false => exact first_2 hS hb (by omega) hk
end Go.Proofs.Ythnoihdojinocaa

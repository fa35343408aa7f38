/- CodecJoins: the walk. -/
import Derived.Test.YthnoihdojinocaaZzc
import Derived.Test.YthnoihdojinocaaZt
namespace Go.Proofs.Ythnoihdojinocaa
open Go.ChangeShapes Go.WideShapes Go.ChangeAt Go.RowKit
set_option linter.unusedVariables false
set_option linter.unusedSimpArgs false

theorem slNews7 {w : World} {a : Addr} {len cap : Nat} {zs : List RV} (h : IsSl 7 enc7 w (some a) len cap zs) : ∀ j u, (flat enc7 zs)[j]? = some u → w.cell? (a.add j) = some u := by
  by_cases hz : zs = []
  · subst hz; intro j u h; simp [flat] at h
  · obtain ⟨b, off, e, _⟩ := h.at_ hz
    cases e
    exact h.news enc7_len
theorem own_empty7 (w : World) : OutR 7 enc7 27 (w.alloc (.cells #[] 27)) w.heap.size (.slice (some ⟨w.heap.size, 0, none⟩) 0 0) [] :=
  ⟨⟨rfl, Or.inr ⟨w.heap.size, 0, #[], rfl, Nat.zero_le _, block_new _ _, Nat.le_refl _, Nat.zero_le _, rfl, rfl⟩⟩, fun g hg => by cases hg; exact Nat.le_refl _⟩
theorem wpList_app7 {w : World} {ops : Array Oper} {rest : List Oper} {o : Oper} {a : Act} {Q : Exit → Act → World → Prop} (hgd : o.guard = none) (s x : Operand)
    (ho : o.op = .call { callee := .builtin .append, args := #[s, x], argTypes := #[49, 49] })
    {B : Nat} {v : Value} {zs ds : List RV} {sp : Option Addr} {m c : Nat} (hs : a.eval s = v) (hO : OutR 7 enc7 27 w B v zs) (hB : B ≤ w.heap.size) (hS : IsSl 7 enc7 w sp m c ds)
    (hx : a.eval x = .slice sp m c) (hlen : zs.length + m ≤ 1000000)
    (h : ∀ v' w', OutR 7 enc7 27 w' B v' (zs ++ ds) → Below B w w' → wpList Try.prog ops Q rest (a.put o.dst v') w') :
    wpList Try.prog ops Q (o :: rest) a w := by
  obtain ⟨i0, hi, hz0, hz1, hz2⟩ := info_parts info27
  have hal := hS.hlen
  refine wpList_append_slice _ hgd s x 49 ho 27 i0 (.agg #[.int .i64 0, .int .u64 0, .int .u64 0, .int .i64 0, .int .i64 0, .slice none 0 0, .slice none 0 0]) 7 88 Try.underlying49 hi hz0 hz1 hz2 rfl (by decide) v zs.length (flat enc7 zs) hs hO.row sp m c (flat enc7 ds) hx ?_ ?_ ?_ (flat_one enc7_one _) ?_ ?_ ?_
  · rw [flat_length enc7_len, hal]
  · intro hn; exact ⟨by have := hS.hle; have := hS.hnone hn; omega, hS.hnone hn⟩
  · intro a ha
    subst ha
    exact slNews7 hS
  · unfold maxLen; omega
  · omega
  · intro v' w' hro hg hn
    have G := hO.grow (ys := ds) (Below.refl _ _) hB (by rw [← hal]; exact hro) hg hn
    exact h v' w' G.1 G.2.2.1
/-- An operation whose guard says yes. -/
theorem wpList_unguard {P : Program} {w : World} {ops : Array Oper} {rest : List Oper} {o : Oper} {a : Act} {Q : Exit → Act → World → Prop} (hw : Region.wanted o (yielded ops a.tmps) = true)
    (h : wpList P ops Q ({ o with guard := none } :: rest) a w) : wpList P ops Q (o :: rest) a w := by
  unfold wpList at h ⊢
  rw [if_pos (by simp [Region.wanted])] at h
  rw [if_pos hw]
  exact h
def Small (zs : List RV) : Prop := ∀ r ∈ zs, r.c.d.length ≤ 100 ∧ r.c.b.length ≤ 100
theorem put_small {w : World} {a : Option Addr} {n cap : Nat} {zs : List RV} (h : Cms w a n cap zs) (hs : Small zs) (hn : zs.length ≤ 80) : Calls Try.prog 32 #[.slice a n cap] w (PaS w (cs zs)) := by
  have hfr : ∀ r ∈ zs, (frm r.c).length ≤ 5000 := fun r hr => frm_small (h.ok r hr) (hs r hr).1 (hs r hr).2
  have hfs : ∀ i, (frms ((cs zs).take i)).length ≤ 2000000 := fun i => by
    have h1 := frms_small (l := (cs zs).take i) (fun c hc => by
      obtain ⟨r, hr, rfl⟩ := List.mem_map.1 (List.mem_of_mem_take hc)
      exact hfr r hr)
    have h2 : ((cs zs).take i).length ≤ zs.length := by unfold cs; simp; omega
    omega
  exact (pputall h (fun r hr => by have := hs r hr; omega) hfs (fun r hr => by have := hfr r hr; omega)).mono (fun e w'' h => pa_sl h)
theorem frms_by : ∀ {l : List Cm}, (∀ c ∈ l, chk c = 0) → By (frms l)
  | [], _ => fun c hc => by simp [frms] at hc
  | c :: l, h => by
    rw [frms_cons]
    exact (frm_by (h c (by simp))).app (frms_by (fun x hx => h x (List.mem_cons_of_mem _ hx)))
theorem frms_len {zs : List RV} (hs : Small zs) (ho : ∀ r ∈ zs, r.c.ok) (hn : zs.length ≤ 80) : (frms (cs zs)).length ≤ 400000 := by
  have h1 := frms_small (l := cs zs) (fun c hc => by
    obtain ⟨r, hr, rfl⟩ := List.mem_map.1 hc
    exact frm_small (ho r hr) (hs r hr).1 (hs r hr).2)
  have h2 : (cs zs).length = zs.length := by simp [cs]
  omega
theorem cs_app (xs ys : List RV) : cs (xs ++ ys) = cs xs ++ cs ys := by simp [cs]
set_option maxRecDepth 100000 in
set_option maxHeartbeats 2000000 in
theorem joins_law (a : Option Addr) (n cap : Nat) (xs : List RV) (a' : Option Addr) (n' cap' : Nat) (ys : List RV) (w : World) (h : Cms w a n cap xs) (h' : Cms w a' n' cap' ys) :
    Calls Try.prog 13 #[.slice a n cap, .slice a' n' cap'] w fun e w' => e = .returned (.bool true) ∧ Below w.heap.size w w' := by
  have hn := h.sl.hlen; have hn' := h'.sl.hlen
  have hle := h.sl.hle; have hmx := h.sl.hmax; have hle' := h'.sl.hle; have hmx' := h'.sl.hmax
  unfold maxLen at hmx hmx'
  have H := Lib.hid h; have HN := Lib.hid hn; have H' := Lib.hid h'; have HN' := Lib.hid hn'
  have W := Lib.hid (works_any w)
  clear h hn h' hn'
  by_cases hl : 40 < n
  · have e1 : decide ((40 : Int) < (n : Int)) = true := by simp; omega
    have e2 : decide (40 < n) = true := by simp; omega
    go_enter Try.func13, Try.ntmps13
    go_wp2_with fail
    refine (W.out).mono ?_; rintro e w1 ⟨rfl, hb⟩
    have B := Lib.hid hb
    clear hb
    go_wp2_with fail
    go_ret
    exact ⟨rfl, B.out⟩
  have e1 : decide ((40 : Int) < (n : Int)) = false := by simp; omega
  have e2 : decide (40 < n) = false := by simp; omega
  by_cases hl' : 40 < n'
  · have e3 : decide ((40 : Int) < (n' : Int)) = true := by simp; omega
    have e4 : decide (40 < n') = true := by simp; omega
    go_enter Try.func13, Try.ntmps13
    go_wp2_with fail
    refine (W.out).mono ?_; rintro e w1 ⟨rfl, hb⟩
    have B := Lib.hid hb
    clear hb
    go_wp2_with fail
    go_ret
    exact ⟨rfl, B.out⟩
  have e3 : decide ((40 : Int) < (n' : Int)) = false := by simp; omega
  have e4 : decide (40 < n') = false := by simp; omega
  have hL : xs.length ≤ 40 := by have := HN.out; omega
  have hL' : ys.length ≤ 40 := by have := HN'.out; omega
  have LL := Lib.hid (And.intro hL hL')
  have A0 := Lib.hid (Below.alloc (Below.refl w.heap.size w) (Nat.le_refl _) (.cells #[] 27))
  have E0 := Lib.hid (own_empty7 w)
  have S0 := Lib.hid (H.out.sl.below A0.out)
  have hsz0 := A0.out.size
  clear hL hL' W hl hl'
  go_enter Try.func13, Try.ntmps13
  go_wp2_with (at_builtin; refine wpList_app7 rfl (.tmp 25) (.tmp 26) rfl rfl E0.out hsz0 S0.out rfl (by have := LL.out; have := HN.out; simp; omega) ?_)
  intro v1 w1 ho1 hb1
  have O1 : Hid (OutR 7 enc7 27 w1 w.heap.size v1 xs) := Lib.hid (by simpa using ho1)
  have B1 := Lib.hid (A0.out.trans hb1)
  have hsz1 := B1.out.size
  have S1 := Lib.hid (H'.out.sl.below B1.out)
  obtain ⟨p1, l1, q1, rfl⟩ : ∃ a l c, v1 = .slice a l c := by obtain ⟨a, c, e⟩ := own_shape O1.out.row; exact ⟨a, _, c, e⟩
  clear ho1 hb1
  go_wp2_with (at_builtin; refine wpList_app7 rfl (.tmp 27) (.tmp 28) rfl rfl O1.out hsz1 S1.out rfl (by have := LL.out; have := HN'.out; omega) ?_)
  intro v2 w2 ho2 hb2
  have B2 := Lib.hid (B1.out.trans hb2)
  obtain ⟨p2, q2, rfl⟩ := own_shape ho2.row
  have CA : Hid (Cms w2 p2 (xs ++ ys).length q2 (xs ++ ys)) := Lib.hid ⟨IsSl.of_own enc7_len ho2.row rfl, fun r hr => by
    rcases List.mem_append.1 hr with h | h
    · exact (H.out.ls r h).keep B2.out
    · exact (H'.out.ls r h).keep B2.out, fun r hr => by
    rcases List.mem_append.1 hr with h | h
    · exact H.out.ok r h
    · exact H'.out.ok r h⟩
  have hal : (xs ++ ys).length ≤ 80 := by have := LL.out; rw [List.length_append]; omega
  have HAL := Lib.hid hal
  obtain ⟨zs, hzs⟩ : ∃ zs, zs = xs ++ ys := ⟨_, rfl⟩
  have HZS := Lib.hid hzs
  rw [← hzs] at CA HAL hal ⊢
  generalize hnn : zs.length = nn at *
  have HNN := Lib.hid hnn
  clear ho2 hb2 hzs hnn E0 S0 A0 O1 S1
  go_wp2_with fail
  go_loopw [6] (fun v6 wr => LoRel w2 zs nn v6 wr) (fun v6 _ => nn - (intOf v6).toNat)
  case atStart => exact ⟨0, Nat.zero_le _, rfl, rfl, fun j _ hj => absurd hj (by omega)⟩
  case round =>
    obtain ⟨i, hin, rfl, rfl, hsm⟩ := hrel
    have SM := Lib.hid hsm
    clear hsm
    by_cases hlt : i < nn
    · have h1 : i < zs.length := by have := HNN.out; omega
      have hne : zs ≠ [] := by intro e; rw [e] at h1; simp at h1
      obtain ⟨b, off, rfl, -, -⟩ := CA.out.sl.at_ hne
      obtain ⟨-, -, -, -, -, x5, x6⟩ := cell7 CA.out.sl h1
      have W := Lib.hid (works_any w2)
      have NX : Hid ((zs[i].c.d.length ≤ 100 ∧ zs[i].c.b.length ≤ 100) → ∀ j (h : j < zs.length), j < i + 1 → zs[j].c.d.length ≤ 100 ∧ zs[j].c.b.length ≤ 100) := Lib.hid (fun hh j hj hji => by
        rcases Nat.lt_or_ge j i with h | h
        · exact SM.out j hj h
        · obtain rfl : j = i := by omega
          exact hh)
      generalize zs[i].c.d.length = dl at *
      generalize zs[i].c.b.length = bl at *
      generalize zs[i] = r at *
      obtain ⟨c, ad, cd, ab, cb⟩ := r
      simp only at x5 x6
      clear h1 hne
      by_cases hd : 100 < dl
      · have f1 : decide ((100 : Int) < (dl : Int)) = true := by simp; omega
        have f2 : decide (100 < dl) = true := by simp; omega
        go_wp2_with fail
        refine (W.out).mono ?_; rintro e w3 ⟨rfl, hb⟩
        have B := Lib.hid (B2.out.trans (hb.mono B2.out.size))
        clear hb
        go_wp2_with fail
        go_ret
        exact ⟨rfl, B.out⟩
      · have f1 : decide ((100 : Int) < (dl : Int)) = false := by simp; omega
        have f2 : decide (100 < dl) = false := by simp; omega
        by_cases hb : 100 < bl
        · have f3 : decide ((100 : Int) < (bl : Int)) = true := by simp; omega
          have f4 : decide (100 < bl) = true := by simp; omega
          go_wp2_with fail
          refine (W.out).mono ?_; rintro e w3 ⟨rfl, hb⟩
          have B := Lib.hid (B2.out.trans (hb.mono B2.out.size))
          clear hb
          go_wp2_with fail
          go_ret
          exact ⟨rfl, B.out⟩
        · have f3 : decide ((100 : Int) < (bl : Int)) = false := by simp; omega
          have f4 : decide (100 < bl) = false := by simp; omega
          have NX2 := Lib.hid (NX.out ⟨by omega, by omega⟩)
          go_wp2_with fail
          go_roundw
          case rel => exact ⟨i + 1, hlt, by go_num, rfl, NX2.out⟩
          case measure => simp [intOf]; omega
    · have hall : Small zs := fun r hr => by
        obtain ⟨j, hj, rfl⟩ := List.getElem_of_mem hr
        exact SM.out j hj (by have := HNN.out; omega)
      have hx : Small xs := fun r hr => hall r (by rw [HZS.out]; exact List.mem_append_left _ hr)
      have hy : Small ys := fun r hr => hall r (by rw [HZS.out]; exact List.mem_append_right _ hr)
      have P1 := Lib.hid (fun w' (hb : Below w2.heap.size w2 w') => put_small (H.out.below (B2.out.trans (hb.mono B2.out.size))) hx (by have := LL.out; omega))
      have P2 := Lib.hid (fun w' (hb : Below w2.heap.size w2 w') => put_small (H'.out.below (B2.out.trans (hb.mono B2.out.size))) hy (by have := LL.out; omega))
      have P3 := Lib.hid (fun w' (hb : Below w2.heap.size w2 w') => put_small (CA.out.below hb) hall (by have := HNN.out; have := HAL.out; omega))
      have hck : chks (cs zs) = if chks (cs xs) = 0 then chks (cs ys) else chks (cs xs) := by rw [HZS.out, cs_app, chks_app]
      have hfr : frms (cs zs) = frms (cs xs) ++ frms (cs ys) := by rw [HZS.out, cs_app, frms_app]
      have FR := Lib.hid hfr
      have FL := Lib.hid (frms_len hall CA.out.ok (by have := HNN.out; have := HAL.out; omega))
      unfold PaS fs0 at P1 P2 P3
      clear hall hx hy SM hfr
      by_cases hk1 : chks (cs xs) = 0
      · rw [if_pos hk1] at hck
        by_cases hk2 : chks (cs ys) = 0
        · rw [hk2] at hck
          rw [hck, if_pos rfl] at P3
          rw [hk1, if_pos rfl] at P1
          rw [hk2, if_pos rfl] at P2
          have GA := Lib.hid (getAll_frms (cs zs) (fun c hc => by
            obtain ⟨r, hr, rfl⟩ := List.mem_map.1 hc
            exact CA.out.ok r hr) hck (frms_by (chks_all hck)))
          have BY := Lib.hid (frms_by (chks_all hck))
          clear hk1 hk2 hck
          go_wp2_with fail
          refine (P1.out _ (Below.refl _ _)).mono ?_; rintro e w3 ⟨a3, n3, c3, rfl, hs3, hb3, -⟩
          have S3 := Lib.hid hs3; have B3 := Lib.hid hb3
          clear hs3 hb3
          go_wp2_with fail
          refine (P2.out _ B3.out).mono ?_; rintro e w4 ⟨a4, n4, c4, rfl, hs4, hb4, -⟩
          have S4 := Lib.hid hs4; have B4 := Lib.hid (B3.out.trans (hb4.mono B3.out.size)); have S3b := Lib.hid (S3.out.below hb4)
          clear hs4 hb4 S3
          go_wp2_with fail
          refine (P3.out _ B4.out).mono ?_; rintro e w5 ⟨a5, n5, c5, rfl, hs5, hb5, -⟩
          have B5 := Lib.hid (B4.out.trans (hb5.mono B4.out.size)); have S3c := Lib.hid (S3b.out.below hb5); have S4c := Lib.hid (S4.out.below hb5)
          have hn5 := hs5.u8
          have S5 := Lib.hid hs5
          have PG : Hid (Calls Try.prog 34 #[.slice a5 n5 c5] w5 (GaS w5 (cs zs, n5, true))) := Lib.hid (by
            have h1 := (pgetall hs5 BY.out (by have := FL.out; omega)).mono (fun e w' h => ga_sl BY.out h)
            rw [GA.out, ← hn5] at h1
            exact h1)
          unfold GaS at PG
          dsimp only at PG
          rw [if_pos rfl] at PG
          clear hs5 hb5 S3b S4 hn5 P1 P2 P3
          go_wp2_with fail
          refine (PG.out).mono ?_; rintro e w6 ⟨a6, n6, c6, zs6, rfl, hb6, hC6, hz6⟩
          have B6 := Lib.hid (B5.out.trans (hb6.mono B5.out.size))
          have C6 := Lib.hid hC6
          have Z6 := Lib.hid hz6
          have S3d : Hid (IsK .u8 w6 a3 n3 c3 (ns (frms (cs xs)))) := Lib.hid (S3c.out.below hb6); have S4d : Hid (IsK .u8 w6 a4 n4 c4 (ns (frms (cs ys)))) := Lib.hid (S4c.out.below hb6); have S5d : Hid (IsK .u8 w6 a5 n5 c5 (ns (frms (cs zs)))) := Lib.hid (S5.out.below hb6)
          have A6 := Lib.hid (Below.alloc (Below.refl w6.heap.size w6) (Nat.le_refl _) (.cells #[] 5))
          have E6 := Lib.hid (own_empty w6 5)
          have S3e := Lib.hid (S3d.out.below A6.out)
          obtain ⟨i5, hi, hz0, hz1, hz2⟩ := info_parts info5
          have hl3 : n3 ≤ 400000 := by have := S3d.out.u8; have h2 := FR.out; have h3 := FL.out; rw [h2, List.length_append] at h3; omega
          have hl4 : n4 ≤ 400000 := by have := S4d.out.u8; have h2 := FR.out; have h3 := FL.out; rw [h2, List.length_append] at h3; omega
          have hl5 : (frms (cs xs)).length ≤ 400000 := by have h2 := FR.out; have h3 := FL.out; rw [h2, List.length_append] at h3; omega
          have HL := Lib.hid (And.intro hl3 (And.intro hl4 hl5))
          clear hb6 hC6 hz6 PG S3c S4c hl3 hl4 hl5
          go_wp2_with (at_builtin; refine wpList_unguard (by rfl) (wpList_appS rfl (.tmp 94) (.tmp 95) 29 rfl 5 i5 .u8 1 Try.underlying29 hi hz0 hz1 hz2 (by decide) rfl E6.out A6.out.size S3e.out rfl (by have := HL.out.1; simp [ns]; omega) ?_))
          intro v7 w7 g1 g2 g3 g4
          have O7 : Hid (OutR 1 (encK .u8) 5 w7 w6.heap.size v7 (ns (frms (cs xs)))) := Lib.hid (by simpa [ns] using g1)
          have B7 := Lib.hid (A6.out.trans g3)
          have hB7 := B7.out.size
          have S4e := Lib.hid (S4d.out.below B7.out)
          obtain ⟨a7, l7, c7, rfl⟩ : ∃ a l c, v7 = .slice a l c := by obtain ⟨a, c, e⟩ := own_shape O7.out.row; exact ⟨a, _, c, e⟩
          clear g1 g2 g3 g4
          go_wp2_with (at_builtin; refine wpList_unguard (by rfl) (wpList_appS rfl (.tmp 96) (.tmp 97) 29 rfl 5 i5 .u8 1 Try.underlying29 hi hz0 hz1 hz2 (by decide) rfl O7.out hB7 S4e.out rfl (by have := HL.out.2.1; have := HL.out.2.2; rw [ns_len]; omega) ?_))
          intro v8 w8 g1 g2 g3 g4
          have O8 : Hid (OutR 1 (encK .u8) 5 w8 w6.heap.size v8 (ns (frms (cs zs)))) := Lib.hid (by rw [FR.out, ns_cat]; exact g1)
          have B8 := Lib.hid (B7.out.trans g3)
          have B8b := Lib.hid (B6.out.trans (B8.out.mono B6.out.size))
          obtain ⟨a8, c8, rfl, hS8⟩ := O8.out.sl
          have Q := Lib.hid (bytes_yes (S5d.out.below B8.out) hS8)
          generalize (ns (frms (cs zs))).length = l8 at *
          clear g1 g2 g3 g4 hS8
          go_wp2_with fail
          refine (Q.out).mono ?_; rintro e w9 ⟨rfl, hb9⟩
          have B9 := Lib.hid (B8b.out.trans (hb9.mono B8b.out.size))
          have B9b := Lib.hid (B8.out.trans (hb9.mono B8.out.size))
          have Y := Lib.hid (cmds_yes (C6.out.below B9b.out) (CA.out.below B9.out) Z6.out)
          clear hb9 Q
          go_wp2_with fail
          refine (Y.out).mono ?_; rintro e w10 ⟨rfl, hb10⟩
          have B10 := Lib.hid (B9.out.trans (hb10.mono B9.out.size))
          have W := Lib.hid (works_any w10)
          clear hb10 Y
          go_wp2_with fail
          refine (W.out).mono ?_; rintro e w11 ⟨rfl, hb11⟩
          have B11 := Lib.hid (B2.out.trans ((B10.out.trans (hb11.mono B10.out.size)).mono B2.out.size))
          clear hb11 W
          go_wp2_with fail
          go_ret
          exact ⟨rfl, B11.out⟩
        · rw [hck] at P3
          have f1 : (chks (cs ys) == 0) = false := by simpa using hk2
          have f2 : (chks (cs ys) != 0) = true := by simpa using hk2
          rw [hk1] at P1
          clear hk1 hk2 hck
          generalize chks (cs ys) = ck at *
          go_wp2_with fail
          refine (P1.out _ (Below.refl _ _)).mono ?_; rintro e w3 ⟨a3, n3, c3, rfl, -, hb3, -⟩
          have B3 := Lib.hid hb3
          clear hb3
          go_wp2_with fail
          refine (P2.out _ B3.out).mono ?_; rintro e w4 ⟨a4, n4, c4, rfl, -, hb4, -⟩
          have B4 := Lib.hid (B3.out.trans (hb4.mono B3.out.size))
          clear hb4
          go_wp2_with fail
          refine (P3.out _ B4.out).mono ?_; rintro e w5 ⟨a5, n5, c5, rfl, -, hb5, -⟩
          have B5 := Lib.hid (B4.out.trans (hb5.mono B4.out.size))
          have W := Lib.hid (works_any w5)
          clear hb5 P1 P2 P3
          go_wp2_with fail
          refine (W.out).mono ?_; rintro e w11 ⟨rfl, hb11⟩
          have B11 := Lib.hid (B2.out.trans ((B5.out.trans (hb11.mono B5.out.size)).mono B2.out.size))
          clear hb11 W
          go_wp2_with fail
          go_ret
          exact ⟨rfl, B11.out⟩
      · rw [if_neg hk1] at hck
        rw [hck] at P3
        have f1 : (chks (cs xs) == 0) = false := by simpa using hk1
        have f2 : (chks (cs xs) != 0) = true := by simpa using hk1
        clear hk1 hck
        generalize chks (cs xs) = ck at *
        generalize chks (cs ys) = ck2 at *
        go_wp2_with fail
        refine (P1.out _ (Below.refl _ _)).mono ?_; rintro e w3 ⟨a3, n3, c3, rfl, -, hb3, -⟩
        have B3 := Lib.hid hb3
        clear hb3
        go_wp2_with fail
        refine (P2.out _ B3.out).mono ?_; rintro e w4 ⟨a4, n4, c4, rfl, -, hb4, -⟩
        have B4 := Lib.hid (B3.out.trans (hb4.mono B3.out.size))
        clear hb4
        go_wp2_with fail
        refine (P3.out _ B4.out).mono ?_; rintro e w5 ⟨a5, n5, c5, rfl, -, hb5, -⟩
        have B5 := Lib.hid (B4.out.trans (hb5.mono B4.out.size))
        have W := Lib.hid (works_any w5)
        clear hb5 P1 P2 P3
        go_wp2_with fail
        refine (W.out).mono ?_; rintro e w11 ⟨rfl, hb11⟩
        have B11 := Lib.hid (B2.out.trans ((B5.out.trans (hb11.mono B5.out.size)).mono B2.out.size))
        clear hb11 W
        go_wp2_with fail
        go_ret
        exact ⟨rfl, B11.out⟩
end Go.Proofs.Ythnoihdojinocaa

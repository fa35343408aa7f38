/- Text of the document. -/
import Derived.Test.YtabihdhgonnihaaDoorZw
import Derived.Test.YtabihdhgonnihaaDoorV
namespace Go.Proofs.YtabihdhgonnihaaDoor
open Go.ChangeShapes Go.WideShapes Go.ChangeAt Go.RowKit
set_option linter.unusedVariables false
set_option linter.unusedSimpArgs false

theorem FiB.keep {w : World} {g k : Nat} {f : Cf} {wr w' : World} (h : FiB w g k f wr) (hb : Below wr.heap.size wr w') : FiB w g k f w' :=
  ⟨(hb.block g (lt_of_block h.f)).trans h.f, (hb.block k (lt_of_block h.r)).trans h.r, h.below.trans (hb.mono h.below.size)⟩
abbrev Any56 (W : World) (x : Int) (v : Str) : Prop := ∀ w', Below W.heap.size W w' → Calls Tryd.prog 56 #[.int .i64 x] w' fun e w'' => e = .returned (.string ⟨v.toArray⟩) ∧ Below W.heap.size W w''
theorem any56 (W : World) {x : Int} (h0 : 0 ≤ x) (h1 : x.toNat ≤ 9223372036854775807) : Any56 W x (Lib.decDigits x.toNat) := fun w' hb => by
  have := rdigits x.toNat h1 w'
  rw [show ((x.toNat : Nat) : Int) = x by omega] at this
  exact this.mono fun e w'' ⟨h2, h3⟩ => ⟨h2, hb.trans (h3.mono hb.size)⟩
theorem txt_next {f : Cf} (h : wrong f < 0) {i : Nat} (hi : i < 4) : txt f (i + 1) = txt f i ++ (if 0 < i then [32] else []) ++ nm i ++ [61] ++ Lib.decDigits (f.at i).toNat := by
  rw [← itoa_st h hi]; rfl
set_option maxRecDepth 100000 in
set_option maxHeartbeats 8000000 in
theorem rtext_bad (f : Cf) (hf : f.ok) (hk : ¬ wrong f < 0) (w : World) : Calls Tryd.prog 31 #[.agg #[.int .i64 f.a, .int .i64 f.b, .int .i64 f.c, .int .i64 f.d]] w fun e w' => e = .returned (.tuple #[.string ⟨#[]⟩, .int .i64 2]) ∧ Below w.heap.size w w' := by
  have N := Lib.hid (new25 w f)
  have P1 : Hid (Calls Tryd.prog 33 #[.agg #[.int .i64 f.a, .int .i64 f.b, .int .i64 f.c, .int .i64 f.d]] (w.alloc (.cells #[.int .i64 f.a, .int .i64 f.b, .int .i64 f.c, .int .i64 f.d] 25)) fun e w' => e = .returned (.int .i64 2) ∧ Below (w.alloc (.cells #[.int .i64 f.a, .int .i64 f.b, .int .i64 f.c, .int .i64 f.d] 25)).heap.size (w.alloc (.cells #[.int .i64 f.a, .int .i64 f.b, .int .i64 f.c, .int .i64 f.d] 25)) w') := Lib.hid (by
    have := rcheck f hf (w.alloc (.cells #[.int .i64 f.a, .int .i64 f.b, .int .i64 f.c, .int .i64 f.d] 25))
    unfold chk at this
    rwa [if_neg hk] at this)
  clear hk hf
  go_enter Tryd.func31, Tryd.ntmps31
  go_wp2_with fail
  refine (P1.out).mono ?_; rintro e w1 ⟨rfl, hb1⟩
  have B1 := Lib.hid (N.out.trans (hb1.mono N.out.size))
  clear hb1 P1
  go_wp2_with fail
  go_ret2
  exact ⟨rfl, B1.out⟩
set_option maxRecDepth 100000 in
set_option maxHeartbeats 16000000 in
theorem rtext_ok (f : Cf) (hf : f.ok) (hk : wrong f < 0) (w : World) : Calls Tryd.prog 31 #[.agg #[.int .i64 f.a, .int .i64 f.b, .int .i64 f.c, .int .i64 f.d]] w fun e w' => e = .returned (.tuple #[.string ⟨(txt f 4).toArray⟩, .int .i64 0]) ∧ Below w.heap.size w w' := by
  have N := Lib.hid (new25 w f)
  have X := Lib.hid (block_new w (.cells #[.int .i64 f.a, .int .i64 f.b, .int .i64 f.c, .int .i64 f.d] 25))
  have P1 : Hid (Calls Tryd.prog 33 #[.agg #[.int .i64 f.a, .int .i64 f.b, .int .i64 f.c, .int .i64 f.d]] (w.alloc (.cells #[.int .i64 f.a, .int .i64 f.b, .int .i64 f.c, .int .i64 f.d] 25)) fun e w' => e = .returned (.int .i64 0) ∧ Below (w.alloc (.cells #[.int .i64 f.a, .int .i64 f.b, .int .i64 f.c, .int .i64 f.d] 25)).heap.size (w.alloc (.cells #[.int .i64 f.a, .int .i64 f.b, .int .i64 f.c, .int .i64 f.d] 25)) w') := Lib.hid (by
    have := rcheck f hf (w.alloc (.cells #[.int .i64 f.a, .int .i64 f.b, .int .i64 f.c, .int .i64 f.d] 25))
    unfold chk at this
    rwa [if_pos hk] at this)
  have V := Lib.hid (fun i (hi : i < 4) => valid_nat hk hi)
  have TN := Lib.hid (fun i (hi : i < 4) => txt_next hk hi)
  have TL := Lib.hid (fun i => txt_len hf i)
  have P2 := Lib.hid (fun w' => rfields f w')
  have P3 := Lib.hid (fun w' => rrows w')
  clear hk hf
  go_enter Tryd.func31, Tryd.ntmps31
  go_wp2_with fail
  refine (P1.out).mono ?_; rintro e w1 ⟨rfl, hb1⟩
  have B1 := Lib.hid (N.out.trans (hb1.mono N.out.size))
  have hx := (hb1.block _ (lt_of_block X.out)).trans X.out
  obtain ⟨x0, x1, x2, x3⟩ : w1.cell? ⟨w.heap.size, 0, none⟩ = some (.int .i64 f.a) ∧ w1.cell? ⟨w.heap.size, 1, none⟩ = some (.int .i64 f.b) ∧ w1.cell? ⟨w.heap.size, 2, none⟩ = some (.int .i64 f.c) ∧ w1.cell? ⟨w.heap.size, 3, none⟩ = some (.int .i64 f.d) := ⟨cell_of hx 0, cell_of hx 1, cell_of hx 2, cell_of hx 3⟩
  have Q2 := Lib.hid (P2.out w1)
  clear hb1 P1 P2 N X hx
  go_wp2_with fail
  refine (Q2.out).mono ?_; rintro e w2 ⟨rfl, hw2⟩
  have X2 : Hid (w2.heap[w1.heap.size + 1]? = some (.cells #[.int .i64 f.a, .int .i64 f.b, .int .i64 f.c, .int .i64 f.d] 2 (0, 0))) := Lib.hid (by
    rw [hw2]
    have := block_new (w1.alloc (.cells #[.int .i64 f.a, .int .i64 f.b, .int .i64 f.c, .int .i64 f.d] 25)) (.cells #[.int .i64 f.a, .int .i64 f.b, .int .i64 f.c, .int .i64 f.d] 2)
    rwa [show (w1.alloc (.cells #[.int .i64 f.a, .int .i64 f.b, .int .i64 f.c, .int .i64 f.d] 25)).heap.size = w1.heap.size + 1 by simp] at this)
  have B2 : Hid (Below w.heap.size w w2) := Lib.hid (by rw [hw2]; exact (B1.out.alloc B1.out.size _).alloc (by have := B1.out.size; simp; omega) _)
  have Q3 := Lib.hid (P3.out w2)
  clear hw2 Q2 P3 x0 x1 x2 x3
  go_wp2_with fail
  refine (Q3.out).mono ?_; rintro e w3 ⟨rfl, hw3⟩
  have FB : Hid (FiB w (w1.heap.size + 1) w2.heap.size f w3) := Lib.hid (by
    rw [hw3]
    exact ⟨block_old X2.out _, block_new _ _, B2.out.alloc B2.out.size _⟩)
  clear hw3 Q3
  go_wp2_with fail
  generalize w1.heap.size + 1 = g at *
  generalize w2.heap.size = k at *
  go_loopw [6, 7] (fun v6 v7 wr => ∃ (i : Nat) (z : Int), i ≤ 4 ∧ v7 = .int .i64 z ∧ z = (i : Int) ∧ v6 = .string ⟨(txt f i).toArray⟩ ∧ FiB w g k f wr) (fun _ v7 _ => 4 - (intOf v7).toNat)
  case atStart => exact ⟨0, 0, by omega, rfl, rfl, rfl, FB.out⟩
  case round =>
    obtain ⟨i, z, hi4, rfl, hz, rfl, hb⟩ := hrel
    have GB := Lib.hid hb
    have h5 : i = 0 ∨ i = 1 ∨ i = 2 ∨ i = 3 ∨ i = 4 := by omega
    clear hi4 hb FB
    rcases h5 with rfl | rfl | rfl | rfl | rfl
    · obtain rfl : z = 0 := by omega
      clear hz
      have hv := V.out 0 (by omega)
      have hx0 : 0 ≤ f.a := hv.1
      have hx1 : f.a.toNat ≤ 9223372036854775807 := hv.2
      have D := Lib.hid (any56 wr hx0 hx1)
      have HT : Hid (txt f (0 + 1) = txt f 0 ++ [119, 105, 110, 100, 111, 119] ++ [61] ++ Lib.decDigits f.a.toNat) := Lib.hid (by rw [TN.out 0 (by omega)]; simp [nm, Cf.at])
      have hl := TL.out 0
      have hdl := dec_len19 hx1
      generalize Lib.decDigits f.a.toNat = dg at *
      generalize txt f 0 = T at *
      obtain ⟨q, hq⟩ : ∃ q : Str, q = [119, 105, 110, 100, 111, 119] := ⟨_, rfl⟩
      have hql : q.length ≤ 6 := by rw [hq]; decide
      have hs0 : T.length ≤ 200 := by omega
      have a1 := add_str (a := T) (b := q) (by omega)
      obtain ⟨s1, h1⟩ : ∃ s1, s1 = T ++ q := ⟨_, rfl⟩
      rw [← h1] at a1
      have hs1 : s1.length ≤ 206 := by rw [h1, List.length_append]; omega
      have a2 := add_str (a := s1) (b := [61]) (by simp; omega)
      obtain ⟨s2, h2⟩ : ∃ s2, s2 = s1 ++ [61] := ⟨_, rfl⟩
      rw [← h2] at a2
      have hs2 : s2.length ≤ 207 := by rw [h2, List.length_append]; simp; omega
      have a3 := add_str (a := s2) (b := dg) (by omega)
      have HS : Hid (txt f (0 + 1) = s2 ++ dg) := Lib.hid (by rw [HT.out, h2, h1, hq])
      have c1 : wr.cell? ⟨g, 0, none⟩ = some (.int .i64 f.a) := cell_of GB.out.f 0
      have c2 : wr.cell? ⟨k, 0, none⟩ = some (.string ⟨q.toArray⟩) := by rw [hq]; exact cell_of GB.out.r 0
      have l1 := lt_of_block GB.out.f
      have l2 := lt_of_block GB.out.r
      have KK : Hid (∀ w', Below wr.heap.size wr w' → w'.cell? ⟨g, 0, none⟩ = some (.int .i64 f.a) ∧ w'.cell? ⟨k, 0, none⟩ = some (.string ⟨q.toArray⟩)) := Lib.hid (fun w' hb => ⟨cell_of (GB.out.keep hb).f 0, by rw [hq]; exact cell_of (GB.out.keep hb).r 0⟩)
      have BR := Below.refl wr.heap.size wr
      clear hv hx0 hx1 hl hdl hq hql hs0 h1 hs1 h2 hs2 HT
      go_upto_region 10 with fail
      go_region_held3 (fun w' => w'.cell? ⟨g, 0, none⟩ = some (.int .i64 f.a) ∧ w'.cell? ⟨k, 0, none⟩ = some (.string ⟨q.toArray⟩))
        (first | exact ⟨c1, c2⟩ | exact KK.out _ (by first | assumption | exact Below.drewR (by assumption)))
        (first
          | (go_at_call 56; refine (D.out _ (by first | assumption | exact Below.drewR (by assumption))).mono ?_; rintro e w7 ⟨rfl, hb7⟩))
      all_goals
        go_wp2_with fail
        go_roundw
        case rel => exact ⟨0 + 1, _, by omega, rfl, by omega, by rw [HS.out], GB.out.keep (by first | assumption | exact Below.drewR (by assumption))⟩
        case measure => simp [intOf]
    · obtain rfl : z = 1 := by omega
      clear hz
      have hv := V.out 1 (by omega)
      have hx0 : 0 ≤ f.b := hv.1
      have hx1 : f.b.toNat ≤ 9223372036854775807 := hv.2
      have D := Lib.hid (any56 wr hx0 hx1)
      have HT : Hid (txt f (1 + 1) = txt f 1 ++ [32] ++ [101, 100, 103, 101, 115] ++ [61] ++ Lib.decDigits f.b.toNat) := Lib.hid (by rw [TN.out 1 (by omega)]; simp [nm, Cf.at])
      have hl := TL.out 1
      have hdl := dec_len19 hx1
      generalize Lib.decDigits f.b.toNat = dg at *
      generalize txt f 1 = T at *
      have a0 := add_str (a := T) (b := [32]) (by simp; omega)
      obtain ⟨s0, h0⟩ : ∃ s0, s0 = T ++ [32] := ⟨_, rfl⟩
      rw [← h0] at a0
      obtain ⟨q, hq⟩ : ∃ q : Str, q = [101, 100, 103, 101, 115] := ⟨_, rfl⟩
      have hql : q.length ≤ 6 := by rw [hq]; decide
      have hs0 : s0.length ≤ 200 := by rw [h0]; simp; omega
      have a1 := add_str (a := s0) (b := q) (by omega)
      obtain ⟨s1, h1⟩ : ∃ s1, s1 = s0 ++ q := ⟨_, rfl⟩
      rw [← h1] at a1
      have hs1 : s1.length ≤ 206 := by rw [h1, List.length_append]; omega
      have a2 := add_str (a := s1) (b := [61]) (by simp; omega)
      obtain ⟨s2, h2⟩ : ∃ s2, s2 = s1 ++ [61] := ⟨_, rfl⟩
      rw [← h2] at a2
      have hs2 : s2.length ≤ 207 := by rw [h2, List.length_append]; simp; omega
      have a3 := add_str (a := s2) (b := dg) (by omega)
      have HS : Hid (txt f (1 + 1) = s2 ++ dg) := Lib.hid (by rw [HT.out, h2, h1, hq, h0])
      have c1 : wr.cell? ⟨g, 1, none⟩ = some (.int .i64 f.b) := cell_of GB.out.f 1
      have c2 : wr.cell? ⟨k, 3, none⟩ = some (.string ⟨q.toArray⟩) := by rw [hq]; exact cell_of GB.out.r 3
      have l1 := lt_of_block GB.out.f
      have l2 := lt_of_block GB.out.r
      have KK : Hid (∀ w', Below wr.heap.size wr w' → w'.cell? ⟨g, 1, none⟩ = some (.int .i64 f.b) ∧ w'.cell? ⟨k, 3, none⟩ = some (.string ⟨q.toArray⟩)) := Lib.hid (fun w' hb => ⟨cell_of (GB.out.keep hb).f 1, by rw [hq]; exact cell_of (GB.out.keep hb).r 3⟩)
      have BR := Below.refl wr.heap.size wr
      clear hv hx0 hx1 hl hdl hq hql hs0 h1 hs1 h2 hs2 HT h0
      go_upto_region 10 with fail
      go_region_held3 (fun w' => w'.cell? ⟨g, 1, none⟩ = some (.int .i64 f.b) ∧ w'.cell? ⟨k, 3, none⟩ = some (.string ⟨q.toArray⟩))
        (first | exact ⟨c1, c2⟩ | exact KK.out _ (by first | assumption | exact Below.drewR (by assumption)))
        (first
          | (go_at_call 56; refine (D.out _ (by first | assumption | exact Below.drewR (by assumption))).mono ?_; rintro e w7 ⟨rfl, hb7⟩))
      all_goals
        go_wp2_with fail
        go_roundw
        case rel => exact ⟨1 + 1, _, by omega, rfl, by omega, by rw [HS.out], GB.out.keep (by first | assumption | exact Below.drewR (by assumption))⟩
        case measure => simp [intOf]
    · obtain rfl : z = 2 := by omega
      clear hz
      have hv := V.out 2 (by omega)
      have hx0 : 0 ≤ f.c := hv.1
      have hx1 : f.c.toNat ≤ 9223372036854775807 := hv.2
      have D := Lib.hid (any56 wr hx0 hx1)
      have HT : Hid (txt f (2 + 1) = txt f 2 ++ [32] ++ [118, 101, 114, 116, 115] ++ [61] ++ Lib.decDigits f.c.toNat) := Lib.hid (by rw [TN.out 2 (by omega)]; simp [nm, Cf.at])
      have hl := TL.out 2
      have hdl := dec_len19 hx1
      generalize Lib.decDigits f.c.toNat = dg at *
      generalize txt f 2 = T at *
      have a0 := add_str (a := T) (b := [32]) (by simp; omega)
      obtain ⟨s0, h0⟩ : ∃ s0, s0 = T ++ [32] := ⟨_, rfl⟩
      rw [← h0] at a0
      obtain ⟨q, hq⟩ : ∃ q : Str, q = [118, 101, 114, 116, 115] := ⟨_, rfl⟩
      have hql : q.length ≤ 6 := by rw [hq]; decide
      have hs0 : s0.length ≤ 200 := by rw [h0]; simp; omega
      have a1 := add_str (a := s0) (b := q) (by omega)
      obtain ⟨s1, h1⟩ : ∃ s1, s1 = s0 ++ q := ⟨_, rfl⟩
      rw [← h1] at a1
      have hs1 : s1.length ≤ 206 := by rw [h1, List.length_append]; omega
      have a2 := add_str (a := s1) (b := [61]) (by simp; omega)
      obtain ⟨s2, h2⟩ : ∃ s2, s2 = s1 ++ [61] := ⟨_, rfl⟩
      rw [← h2] at a2
      have hs2 : s2.length ≤ 207 := by rw [h2, List.length_append]; simp; omega
      have a3 := add_str (a := s2) (b := dg) (by omega)
      have HS : Hid (txt f (2 + 1) = s2 ++ dg) := Lib.hid (by rw [HT.out, h2, h1, hq, h0])
      have c1 : wr.cell? ⟨g, 2, none⟩ = some (.int .i64 f.c) := cell_of GB.out.f 2
      have c2 : wr.cell? ⟨k, 6, none⟩ = some (.string ⟨q.toArray⟩) := by rw [hq]; exact cell_of GB.out.r 6
      have l1 := lt_of_block GB.out.f
      have l2 := lt_of_block GB.out.r
      have KK : Hid (∀ w', Below wr.heap.size wr w' → w'.cell? ⟨g, 2, none⟩ = some (.int .i64 f.c) ∧ w'.cell? ⟨k, 6, none⟩ = some (.string ⟨q.toArray⟩)) := Lib.hid (fun w' hb => ⟨cell_of (GB.out.keep hb).f 2, by rw [hq]; exact cell_of (GB.out.keep hb).r 6⟩)
      have BR := Below.refl wr.heap.size wr
      clear hv hx0 hx1 hl hdl hq hql hs0 h1 hs1 h2 hs2 HT h0
      go_upto_region 10 with fail
      go_region_held3 (fun w' => w'.cell? ⟨g, 2, none⟩ = some (.int .i64 f.c) ∧ w'.cell? ⟨k, 6, none⟩ = some (.string ⟨q.toArray⟩))
        (first | exact ⟨c1, c2⟩ | exact KK.out _ (by first | assumption | exact Below.drewR (by assumption)))
        (first
          | (go_at_call 56; refine (D.out _ (by first | assumption | exact Below.drewR (by assumption))).mono ?_; rintro e w7 ⟨rfl, hb7⟩))
      all_goals
        go_wp2_with fail
        go_roundw
        case rel => exact ⟨2 + 1, _, by omega, rfl, by omega, by rw [HS.out], GB.out.keep (by first | assumption | exact Below.drewR (by assumption))⟩
        case measure => simp [intOf]
    · obtain rfl : z = 3 := by omega
      clear hz
      have hv := V.out 3 (by omega)
      have hx0 : 0 ≤ f.d := hv.1
      have hx1 : f.d.toNat ≤ 9223372036854775807 := hv.2
      have D := Lib.hid (any56 wr hx0 hx1)
      have HT : Hid (txt f (3 + 1) = txt f 3 ++ [32] ++ [100, 114, 97, 119, 115] ++ [61] ++ Lib.decDigits f.d.toNat) := Lib.hid (by rw [TN.out 3 (by omega)]; simp [nm, Cf.at])
      have hl := TL.out 3
      have hdl := dec_len19 hx1
      generalize Lib.decDigits f.d.toNat = dg at *
      generalize txt f 3 = T at *
      have a0 := add_str (a := T) (b := [32]) (by simp; omega)
      obtain ⟨s0, h0⟩ : ∃ s0, s0 = T ++ [32] := ⟨_, rfl⟩
      rw [← h0] at a0
      obtain ⟨q, hq⟩ : ∃ q : Str, q = [100, 114, 97, 119, 115] := ⟨_, rfl⟩
      have hql : q.length ≤ 6 := by rw [hq]; decide
      have hs0 : s0.length ≤ 200 := by rw [h0]; simp; omega
      have a1 := add_str (a := s0) (b := q) (by omega)
      obtain ⟨s1, h1⟩ : ∃ s1, s1 = s0 ++ q := ⟨_, rfl⟩
      rw [← h1] at a1
      have hs1 : s1.length ≤ 206 := by rw [h1, List.length_append]; omega
      have a2 := add_str (a := s1) (b := [61]) (by simp; omega)
      obtain ⟨s2, h2⟩ : ∃ s2, s2 = s1 ++ [61] := ⟨_, rfl⟩
      rw [← h2] at a2
      have hs2 : s2.length ≤ 207 := by rw [h2, List.length_append]; simp; omega
      have a3 := add_str (a := s2) (b := dg) (by omega)
      have HS : Hid (txt f (3 + 1) = s2 ++ dg) := Lib.hid (by rw [HT.out, h2, h1, hq, h0])
      have c1 : wr.cell? ⟨g, 3, none⟩ = some (.int .i64 f.d) := cell_of GB.out.f 3
      have c2 : wr.cell? ⟨k, 9, none⟩ = some (.string ⟨q.toArray⟩) := by rw [hq]; exact cell_of GB.out.r 9
      have l1 := lt_of_block GB.out.f
      have l2 := lt_of_block GB.out.r
      have KK : Hid (∀ w', Below wr.heap.size wr w' → w'.cell? ⟨g, 3, none⟩ = some (.int .i64 f.d) ∧ w'.cell? ⟨k, 9, none⟩ = some (.string ⟨q.toArray⟩)) := Lib.hid (fun w' hb => ⟨cell_of (GB.out.keep hb).f 3, by rw [hq]; exact cell_of (GB.out.keep hb).r 9⟩)
      have BR := Below.refl wr.heap.size wr
      clear hv hx0 hx1 hl hdl hq hql hs0 h1 hs1 h2 hs2 HT h0
      go_upto_region 10 with fail
      go_region_held3 (fun w' => w'.cell? ⟨g, 3, none⟩ = some (.int .i64 f.d) ∧ w'.cell? ⟨k, 9, none⟩ = some (.string ⟨q.toArray⟩))
        (first | exact ⟨c1, c2⟩ | exact KK.out _ (by first | assumption | exact Below.drewR (by assumption)))
        (first
          | (go_at_call 56; refine (D.out _ (by first | assumption | exact Below.drewR (by assumption))).mono ?_; rintro e w7 ⟨rfl, hb7⟩))
      all_goals
        go_wp2_with fail
        go_roundw
        case rel => exact ⟨3 + 1, _, by omega, rfl, by omega, by rw [HS.out], GB.out.keep (by first | assumption | exact Below.drewR (by assumption))⟩
        case measure => simp [intOf]
    · obtain rfl : z = 4 := by omega
      clear hz
      have BB := Lib.hid GB.out.below
      clear GB
      go_wp2_with fail
      go_ret2
      exact ⟨rfl, BB.out⟩
end Go.Proofs.YtabihdhgonnihaaDoor

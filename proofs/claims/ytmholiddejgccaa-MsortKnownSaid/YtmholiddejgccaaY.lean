/- The walk of the law MsortKnown. -/
import Derived.Test.YtmholiddejgccaaX
import Derived.Laws.MakeOwn
namespace Go.Proofs.Ytmholiddejgccaa
open Go.ChangeShapes Go.WideShapes Go.ChangeAt Go.RowKit

def srt4 : List Rc := [⟨7, 8, -1, 3⟩, ⟨3, 4, 2, 1⟩, ⟨1, 2, 5, 0⟩, ⟨5, 6, 5, 2⟩]
def nine : List Rc := [⟨9, 9, 2, 0⟩]
def mrg5 : List Rc := [⟨7, 8, -1, 3⟩, ⟨3, 4, 2, 1⟩, ⟨9, 9, 2, 0⟩, ⟨1, 2, 5, 0⟩, ⟨5, 6, 5, 2⟩]
theorem srt4_eq : arr (ltK 1) exs = srt4 := by rw [sortI, exs_prm]; decide
theorem mrg5_eq : mrg (ltK 1) srt4 nine = mrg5 := by
  rw [mrg_arr (swoK 1) (inv_srt (by decide)) (inv_srt (by decide)), sortI, prm_ins (swoK 1)]
  decide
theorem made_sl (w : World) (n : Nat) (hn : n ≤ 1000000) : IsSl 4 encR (w.alloc (.cells (madeCells #[Value.int .u64 0, .int .u64 0, .int .i64 0, .int .i64 0] (n * 4)) 24)) (some ⟨w.heap.size, 0, none⟩) n n (List.replicate n d0) := by
  refine ⟨by simp, Nat.le_refl _, by unfold maxLen; omega, fun h => (by cases h), fun _ => ⟨w.heap.size, 0, rfl, lt_of_block (block_new _ _), fun i hi j hj => ?_⟩⟩
  rw [cell_of (block_new _ _)]
  simp at hi
  rw [List.getElem_replicate]
  match j, hj with
  | 0, _ => simp [madeCells, encR, d0, show i < n by omega]
  | 1, _ => simp [madeCells, encR, d0, show i * 4 + 1 < n * 4 by omega, show (i * 4 + 1) % 4 = 1 by omega]
  | 2, _ => simp [madeCells, encR, d0, show i * 4 + 2 < n * 4 by omega, show (i * 4 + 2) % 4 = 2 by omega]
  | 3, _ => simp [madeCells, encR, d0, show i * 4 + 3 < n * 4 by omega, show (i * 4 + 3) % 4 = 3 by omega]
theorem make_r (n : Nat) (hn : n ≤ 1000000) : ∀ w, (Instr.makeSlice 31 (.int .i64 (n : Int)) (.int .i64 (n : Int))).run Try.prog w = .ok (.slice (some ⟨w.heap.size, 0, none⟩) n n) (w.alloc (.cells (madeCells #[Value.int .u64 0, .int .u64 0, .int .i64 0, .int .i64 0] (n * 4)) 24)) := fun w => by
  obtain ⟨i0, hi, hz0, hz1, hz2⟩ := info_parts info24
  have hr := run_make (P := Try.prog) w 31 24 i0 _ Try.underlying31 hi hz0 .i64 .i64 n n (by omega) (by omega) (by rw [hz2]; omega) (by omega)
  rw [hz1] at hr
  simpa [Value.cells] using hr
/-- Sort, its length alone. -/
theorem sort_len {w : World} {a : Option Addr} {la ca : Nat} {zs : List Rc} {k : Int} (hk : kn k) (h : IsSl 4 encR w a la ca zs) (hl : la ≤ 65536) : Calls Try.prog 16 #[.slice a la ca, .int .i64 k] w fun e w' => ∃ a' c', e = .returned (.tuple #[.slice a' la c', .int .i64 0]) ∧ la ≤ c' ∧ c' ≤ maxLen ∧ Below w.heap.size w w' := by
  have hal := h.hlen
  refine (psort_of hk h hl).mono ?_
  rintro e w' ⟨a', c', rfl, hs, -, hb⟩
  rw [arr_length] at hs ⊢
  rw [← hal] at hs ⊢
  exact ⟨a', c', rfl, hs.hle, hs.hmax, hb⟩
theorem quietl {P : Program} {f : FuncId} {args : Array Value} {w : World} {n : Nat} {v : Value} (h : Calls P f args (w.drewN n) fun e w' => e = .returned v ∧ w.drewN n = w') : Calls P f args (w.drewN n) fun e w'' => e = .returned v ∧ ∃ m, w'' = w.drewN m :=
  h.mono fun _ _ ⟨he, hm⟩ => ⟨he, n, hm.symm⟩
set_option maxRecDepth 100000 in
set_option maxHeartbeats 8000000 in
theorem known_law (w : World) : Calls Try.prog 11 #[] w fun e w' => e = .returned (.bool true) ∧ Below w.heap.size w w' := by
  have k1 : kn 1 := by unfold kn; decide
  have k3 : kn 3 := by unfold kn; decide
  have K1 := Lib.hid k1; have K3 := Lib.hid k3
  clear k1 k3
  have L1 := Lib.hid (fun w => pless_yes K3.out ⟨2, 1, 0, 0⟩ ⟨1, 2, 9, 9⟩ w)
  rw [show ltK 3 ⟨2, 1, 0, 0⟩ ⟨1, 2, 9, 9⟩ = false by decide] at L1
  have L2 := Lib.hid (fun w => pless_yes K3.out ⟨1, 2, 9, 9⟩ ⟨3, 1, 0, 0⟩ w)
  rw [show ltK 3 ⟨1, 2, 9, 9⟩ ⟨3, 1, 0, 0⟩ = true by decide] at L2
  have MN : Hid (∀ (w : World) (a b : Option Addr), Calls Try.prog 26 #[.slice a 65536 65536, .slice b 1 65537, .int .i64 3] w fun e w' => e = .returned (.tuple #[.slice none 0 0, .int .i64 16]) ∧ w = w') := Lib.hid (fun w a b => by
    have := pmerge_no (k := 3) (w := w) (aa := a) (ab := b) (la := 65536) (ca := 65536) (lb := 1) (cb := 65537) (by omega) (by decide) (by decide)
    rw [errK_long K3.out (by decide)] at this
    exact this)
  have m1 : ∀ w, (Instr.makeSlice 31 (.int .i64 65537) (.int .i64 65537)).run Try.prog w = .ok (.slice (some ⟨w.heap.size, 0, none⟩) 65537 65537) (w.alloc (.cells (madeCells #[Value.int .u64 0, .int .u64 0, .int .i64 0, .int .i64 0] (65537 * 4)) 24)) := make_r 65537 (by decide)
  obtain ⟨CI, hCI⟩ : ∃ C, C = madeCells #[Value.int .u64 0, .int .u64 0, .int .i64 0, .int .i64 0] (65537 * 4) := ⟨_, rfl⟩
  rw [← hCI] at m1
  have HCI := Lib.hid hCI
  clear hCI
  go_enter Try.func11, Try.ntmps11
  go_wp2_with fail
  refine (example_any _).mono ?_; rintro e w1 ⟨rfl, hs, hb⟩
  have S1 := Lib.hid hs; have B1 := Lib.hid hb
  clear hs hb
  go_wp2_with fail
  refine (sort_yes K1.out S1.out (by decide)).mono ?_; rintro e w2 ⟨v, rfl, ho, hb⟩
  rw [srt4_eq] at ho
  have B2 := Lib.hid (B1.out.trans (hb.mono B1.out.size))
  obtain ⟨a, c, hv⟩ : ∃ a c, v = .slice a 4 c := own_shape ho.row
  subst hv
  have P2 := IsSl.of_own encR_len ho.row rfl
  obtain ⟨b, off, rfl, hbw, _⟩ := P2.at_ (by decide)
  have P2h := Lib.hid P2
  have hcap : 4 ≤ c := P2.hle
  have hcm := P2.hmax
  unfold maxLen at hcm
  clear ho hb P2
  go_wp2_with fail
  refine (L1.out _).mono ?_; rintro e w3 ⟨rfl, hb⟩
  have P3 := Lib.hid (P2h.out.below hb); have B3 := Lib.hid (B2.out.trans (hb.mono B2.out.size))
  clear hb P2h
  go_wp2_with fail
  refine (L2.out _).mono ?_; rintro e w4 ⟨rfl, hb⟩
  have P4 := Lib.hid (P3.out.below hb); have B4 := Lib.hid (B3.out.trans (hb.mono B3.out.size))
  clear hb P3
  obtain ⟨x0, -, -, -⟩ := at4 P4.out (i := 0) (by decide) d0
  obtain ⟨x1, -, -, -⟩ := at4 P4.out (i := 1) (by decide) d0
  obtain ⟨x2, -, -, -⟩ := at4 P4.out (i := 2) (by decide) d0
  obtain ⟨x3, -, -, -⟩ := at4 P4.out (i := 3) (by decide) d0
  have y0 : w4.cell? ⟨b, off, none⟩ = some (.int .u64 7) := x0
  have y1 : w4.cell? ⟨b, off + 4, none⟩ = some (.int .u64 3) := x1
  have y2 : w4.cell? ⟨b, off + 8, none⟩ = some (.int .u64 1) := x2
  have y3 : w4.cell? ⟨b, off + 12, none⟩ = some (.int .u64 5) := x3
  clear x0 x1 x2 x3
  go_wp2_with fail
  have A1 := Lib.hid (Below.alloc (Below.refl w4.heap.size w4) (Nat.le_refl _) (.cells #[.int .u64 9, .int .u64 9, .int .i64 2, .int .i64 0] 24))
  have N1 : Hid (IsSl 4 encR (w4.alloc (.cells #[.int .u64 9, .int .u64 9, .int .i64 2, .int .i64 0] 24)) (some ⟨w4.heap.size, 0, none⟩) 1 1 nine) := Lib.hid (IsSl.of_block (zs := nine) (n := 1) encR_len (block_new _ _) rfl rfl (by unfold maxLen; omega))
  have hbw4 := lt_of_cell y0
  refine (pmerge_ok K1.out (P4.out.below A1.out) N1.out (by decide) (by decide) (by decide) (fun x hx => by cases hx; simp; omega) (fun x hx => by cases hx; simp)).mono ?_; rintro e w5 ⟨v5, rfl, ho, hb⟩
  rw [mrg5_eq] at ho
  have B5 := Lib.hid (B4.out.trans ((A1.out.trans (hb.mono A1.out.size)).mono B4.out.size))
  obtain ⟨a5, c5, hv⟩ : ∃ a c, v5 = .slice a 5 c := own_shape ho.row
  subst hv
  have P5 := IsSl.of_own encR_len ho.row rfl
  obtain ⟨b5, off5, rfl, _, _⟩ := P5.at_ (by decide)
  have hcap5 : 5 ≤ c5 := P5.hle
  have hcm5 := P5.hmax
  unfold maxLen at hcm5
  obtain ⟨x1, -, -, -⟩ := at4 P5 (i := 1) (by decide) d0
  obtain ⟨x2, -, -, -⟩ := at4 P5 (i := 2) (by decide) d0
  obtain ⟨x3, -, -, -⟩ := at4 P5 (i := 3) (by decide) d0
  have z1 : w5.cell? ⟨b5, off5 + 4, none⟩ = some (.int .u64 3) := x1
  have z2 : w5.cell? ⟨b5, off5 + 8, none⟩ = some (.int .u64 9) := x2
  have z3 : w5.cell? ⟨b5, off5 + 12, none⟩ = some (.int .u64 1) := x3
  clear x1 x2 x3 ho hb P5 A1 N1 y0 y1 y2 y3
  go_wp2_with fail
  refine (example_any _).mono ?_; rintro e w6 ⟨rfl, hs, hb⟩
  have S6 := Lib.hid hs; have B6 := Lib.hid (B5.out.trans (hb.mono B5.out.size))
  clear hs hb z1 z2 z3
  go_wp2_with fail
  refine (pmerge_bad (xs := exs.take 2) (ys := []) K1.out (S6.out.take (by decide)) (IsSl.nil _) (by decide) (by decide)).mono ?_; rintro e w7 ⟨rfl, hb⟩
  have B7 := Lib.hid (B6.out.trans (hb.mono B6.out.size))
  clear hb
  go_wp2_with fail
  refine (example_any _).mono ?_; rintro e w8 ⟨rfl, hs, hb⟩
  have B8 := Lib.hid (B7.out.trans (hb.mono B7.out.size))
  clear hs hb
  go_wp2_with fail
  refine (pmerge_no (k := 4) (by unfold kn; omega) (by decide) (by decide)).mono ?_; rintro e w9 ⟨rfl, rfl⟩
  rw [errK_key (by unfold kn; omega)]
  go_wp2_with fail
  have A1 := Lib.hid (Below.alloc (Below.refl w8.heap.size w8) (Nat.le_refl _) (.cells CI 24))
  have LG : Hid (IsSl 4 encR (w8.alloc (.cells CI 24)) (some ⟨w8.heap.size, 0, none⟩) 65537 65537 (List.replicate 65537 d0)) := Lib.hid (by rw [HCI.out]; exact made_sl w8 65537 (by decide))
  have B9 := Lib.hid (B8.out.trans (A1.out.mono B8.out.size))
  generalize hw10 : w8.alloc (.cells CI 24) = w10 at *
  generalize w8.heap.size = g at *
  clear hw10 A1 m1 HCI B8 B7 B6 B5 S6 B4 B3 B2 B1 P4 S1 L1 L2
  have LT : Hid (IsSl 4 encR w10 (some ⟨g, 4, none⟩) 65536 65536 ((List.replicate 65537 d0).drop 1)) := Lib.hid (by
    have := LG.out.drop (k := 1) (by decide)
    rw [if_neg (by decide)] at this
    exact this)
  refine (sort_len (k := 2) (by unfold kn; decide) LT.out (by decide)).mono ?_; rintro e w11 ⟨a11, c11, rfl, hc1, hc2, hb⟩
  unfold maxLen at hc2
  have B11 := Lib.hid (B9.out.trans (hb.mono B9.out.size))
  clear hb
  go_wp2_with fail
  refine (sort_no (k := 2) (la := 65537) (by omega) (by decide)).mono ?_; rintro e w12 ⟨rfl, rfl⟩
  rw [errK_long (by unfold kn; decide) (by decide)]
  go_wp2_with fail
  refine (perm_no (k := 0) (la := 65537) (by omega)).mono ?_; rintro e w12 ⟨rfl, hb⟩
  rw [errK_key (by unfold kn; omega)]
  have B12 := Lib.hid (B11.out.trans (hb.mono B11.out.size))
  clear hb
  go_wp2_with fail
  go_quiet ((go_at_call 26; exact quietl (MN.out _ _ _)))
  go_wp2_with fail
  refine (sorted_no (k := 3) (la := 65537) (by omega) (by decide)).mono ?_; rintro e w13 ⟨rfl, rfl⟩
  rw [errK_long K3.out (by decide)]
  go_wp2_with fail
  refine (inv_no (k := 3) (la := 65537) (by omega) (by decide)).mono ?_; rintro e w13 ⟨rfl, rfl⟩
  rw [errK_long K3.out (by decide)]
  go_wp2_with fail
  refine (works_any _).mono ?_; rintro e w14 ⟨rfl, hb⟩
  have B14 := Lib.hid ((below_drewN B12.out _).trans (hb.mono (below_drewN B12.out _).size))
  clear hb
  go_wp2_with fail
  go_ret
  exact ⟨rfl, B14.out⟩
end Go.Proofs.Ytmholiddejgccaa

/- The law ShuffleLong. -/
import Derived.Test.YtejleobpohpdpaaDoorU
namespace Go.Proofs.YtejleobpohpdpaaDoor
open Go.ChangeShapes Go.WideShapes Go.ChangeAt Go.RowKit

/-- An append of one number to a full slice: it grows. -/
theorem wpList_appF {P : Program} {wr : World} {ops : Array Oper} {rest : List Oper} {o : Oper} {a : Act} {Q : Exit → Act → World → Prop} (hgd : o.guard = none) (s x : Operand) (t : TypeId)
    (ho : o.op = .call { callee := .builtin .append, args := #[s, x], argTypes := #[t, t] })
    (e : TypeId) (i : TypeInfo) (k : IntKind) (bytes : Nat) (ht : P.underlying t = some (.slice e)) (hi : P.info? e = some i) (hz : i.zero = some (.int k 0))
    (hsize : i.size = 1) (hby : i.bytes = bytes) (hb8 : bytes ≤ 8)
    {sp : Option Addr} {n : Nat} {zs : List Int} (hs : a.eval s = .slice sp n n) (hS : IsK k wr sp n n zs) (y : Int)
    (hx : a.eval x = .slice (some ⟨wr.heap.size, 0, none⟩) 1 1) (hlen : n + 1 ≤ 1099511627776)
    (h : ∀ v' w', OutR 1 (encK k) e w' wr.heap.size v' (zs ++ [y]) → Below wr.heap.size wr w' → wpList P ops Q rest (a.put o.dst v') w') :
    wpList P ops Q (o :: rest) a (wr.alloc (.cells #[.int k y] e)) := by
  have hal := hS.hlen
  have hb0 : Below wr.heap.size wr (wr.alloc (.cells #[.int k y] e)) := Below.alloc (Below.refl _ _) (Nat.le_refl _) _
  have hS' := hS.below hb0
  refine wpList_append_grows _ hgd s x t ho e i (.int k 0) 1 bytes ht hi hz hsize hby rfl (by decide) sp n n (flat (encK k) zs) hs (fun hn => by have := hS.hnone hn; omega) (by rw [flat_length (encK_len k), hal]) (fun b hb => by subst hb; exact slNews (encK_len k) hS') ⟨wr.heap.size, 0, none⟩ 1 1 (encK k y) hx rfl ?_ (encK_one k y) (by omega) ?_ ?_ ?_
  · intro j u hj
    rw [addr_add, cell_of (block_new _ _), Nat.zero_add]
    simpa [encK] using hj
  · unfold maxLen; omega
  · have := Nat.mul_le_mul (Nat.le_refl (n + 1)) hb8; omega
  · intro v1 w1 hr1 hg1
    have hT : Touch (fun _ => False) wr w1 := (Touch.of_below hb0 _).grown hg1 (fun k hk _ => by cases hk)
    refine h v1 w1 ⟨?_, fun g hg => ?_⟩ (hT.below (Nat.le_refl _) (fun k hk hv => hv))
    · obtain ⟨h1, h2⟩ := hr1
      refine ⟨flat_length (encK_len k) _, ?_⟩
      rcases h2 with ⟨h2, h3⟩ | ⟨g, cap, cur, rfl, hb, h3, h4, h5, h6, h7⟩
      · omega
      · refine Or.inr ⟨g, cap, cur, by simp [hal], Nat.zero_le _, h3, by simp; omega, h5, h6, ?_⟩
        rw [List.length_append, List.length_singleton, ← hal, h7]
        simp [flat, encK]
    · rcases hr1.2 with ⟨h2, h3⟩ | ⟨g', cap, cur, rfl, hb, _⟩
      · omega
      · simp [Value.ownBlock] at hg
        have := hb0.size
        omega
theorem zeros_ints (n : Nat) (hn : n ≤ 1000000) (w : World) : IsInts .u64 (w.alloc (.cells (madeCells #[Value.int .u64 0] n) 30)) (some ⟨w.heap.size, 0, none⟩) n n (List.replicate n 0) :=
  ⟨(Blk.new w n (by unfold maxLen; omega)).sl (by simp), fun x hx => by rw [(List.mem_replicate.1 hx).2]; decide⟩
set_option maxRecDepth 100000 in
set_option maxHeartbeats 8000000 in
theorem long_law (w : World) (ht : Tab w) : Calls Tryd.prog 11 #[] w fun e w' => e = .returned (.bool true) ∧ Below w.heap.size w w' := by
  have HT := Lib.hid ht
  clear ht
  obtain ⟨N, hN⟩ : ∃ N, N = 16384 := ⟨_, rfl⟩
  obtain ⟨D, hD⟩ : ∃ D, D = drw N (nat (List.replicate 16383 0)) (N - 1) := ⟨_, rfl⟩
  obtain ⟨hp, hl⟩ := drw_ok N (nat (List.replicate 16383 0)) (N - 1) (by omega)
  rw [← hD] at hp hl
  have hno : okP (ns D ++ [16384]) = false := by
    cases hh : okP (ns D ++ [16384])
    · rfl
    · have := (okP_iff.1 hh).1
      rw [List.length_append, ns_len] at this
      simp at this; omega
  have D1 : Hid (∀ w a c, IsInts .u64 w a 16383 c (List.replicate 16383 0) → Calls Tryd.prog 15 #[.int .i64 16384, .slice a 16383 c] w fun e w' => ∃ g, e = .returned (.tuple #[.slice (some ⟨g, 0, none⟩) 16384 16384, .int .i64 0]) ∧ IsK .i64 w' (some ⟨g, 0, none⟩) 16384 16384 (ns D) ∧ Below w.heap.size w w') := Lib.hid (fun w a c h => by
    have := pdraw (n := N) (by omega) h (by omega)
    rw [← hD] at this
    have e0 : ((N : Nat) : Int) = 16384 := by omega
    rw [e0] at this
    refine this.mono ?_
    rintro e w' ⟨g, hg, he, hb, hbl⟩
    have hk := hb.sl (n := N) (by rw [ns_len, hl])
    rw [hN] at he hk
    exact ⟨g, he, hk, hbl⟩)
  have CK := Lib.hid (fun w a c (h : IsK .i64 w a 16384 c (ns D)) => pcheck h)
  rw [chk_yes (okP_ns hp (by omega))] at CK
  have RL := Lib.hid (fun w a c (h : IsK .i64 w a 16384 c (ns D)) => prank_long (okP_ns hp (by omega)) h (by decide))
  generalize hz : ns D = Z at *
  have hZl : Z.length = 16384 := by rw [← hz, ns_len, hl, hN]
  clear hz hp hl hD hN D N
  have CK2 := Lib.hid (fun w a n c (h : IsK .i64 w a n c (Z ++ [16384])) => pcheck h)
  rw [chk_no hno] at CK2
  have CI := Lib.hid (fun w a n c (h : IsK .i64 w a n c (Z ++ [16384])) => pinv_no hno h)
  have CC := Lib.hid (fun w a n c (h : IsK .i64 w a n c (Z ++ [16384])) => pcomp_no (xs := Z ++ [16384]) (ys := Z ++ [16384]) (fun hh => by rw [hno] at hh; cases hh.1) h h)
  have CD := Lib.hid (fun w a n c (h : IsK .i64 w a n c (Z ++ [16384])) => pdrs_no hno h)
  have CR := Lib.hid (fun w a n c (h : IsK .i64 w a n c (Z ++ [16384])) => prank_no hno h)
  have CY := Lib.hid (fun w a n c (h : IsK .i64 w a n c (Z ++ [16384])) => pcyc_no hno h)
  have E1 : Hid (∀ w a l c, Calls Tryd.prog 15 #[.int .i64 16385, .slice a l c] w fun e w' => e = .returned (.tuple #[.slice none 0 0, .int .i64 2]) ∧ w = w') := Lib.hid (fun w a l c => draw_err1 (n := 16385) (Or.inr (by decide)) (by decide) w)
  have E2 : Hid (∀ w a c, Calls Tryd.prog 15 #[.int .i64 16384, .slice a 16382 c] w fun e w' => e = .returned (.tuple #[.slice none 0 0, .int .i64 14]) ∧ w = w') := Lib.hid (fun w a c => draw_err2 (n := 16384) (by decide) (by decide) w)
  have ZL := Lib.hid hZl
  clear hno hZl
  obtain ⟨C1, hC1⟩ : ∃ C, C = madeCells #[Value.int .u64 0] 16383 := ⟨_, rfl⟩
  obtain ⟨C2, hC2⟩ : ∃ C, C = madeCells #[Value.int .u64 0] 16384 := ⟨_, rfl⟩
  obtain ⟨C3, hC3⟩ : ∃ C, C = madeCells #[Value.int .u64 0] 16382 := ⟨_, rfl⟩
  have m1 : ∀ w, (Instr.makeSlice 22 (.int .i64 16383) (.int .i64 16383)).run Tryd.prog w = .ok (.slice (some ⟨w.heap.size, 0, none⟩) 16383 16383) (w.alloc (.cells (madeCells #[Value.int .u64 0] 16383) 30)) := make_u 16383 (by decide)
  have m2 : ∀ w, (Instr.makeSlice 22 (.int .i64 16384) (.int .i64 16384)).run Tryd.prog w = .ok (.slice (some ⟨w.heap.size, 0, none⟩) 16384 16384) (w.alloc (.cells (madeCells #[Value.int .u64 0] 16384) 30)) := make_u 16384 (by decide)
  have m3 : ∀ w, (Instr.makeSlice 22 (.int .i64 16382) (.int .i64 16382)).run Tryd.prog w = .ok (.slice (some ⟨w.heap.size, 0, none⟩) 16382 16382) (w.alloc (.cells (madeCells #[Value.int .u64 0] 16382) 30)) := make_u 16382 (by decide)
  have Z1 := Lib.hid (fun w => zeros_ints 16383 (by decide) w)
  rw [← hC1] at m1 Z1
  rw [← hC2] at m2
  rw [← hC3] at m3
  clear hC1 hC2 hC3
  generalize List.replicate 16383 (0 : Int) = RZ at *
  obtain ⟨i0, hi, hz0, hz1, hz2⟩ := info_parts info3
  go_enter Tryd.func11, Tryd.ntmps11
  go_wp2_with fail
  have A1 := Lib.hid (Below.alloc (Below.refl w.heap.size w) (Nat.le_refl _) (.cells C1 30))
  refine (D1.out _ _ _ (Z1.out w)).mono ?_; rintro e w1 ⟨g, rfl, hs, hb⟩
  have Sp := Lib.hid hs
  have B := Lib.hid (A1.out.trans (hb.mono A1.out.size))
  clear hs hb A1
  go_wp2_with fail
  refine (CK.out _ _ _ Sp.out).mono ?_; rintro e w2 ⟨rfl, hb⟩
  have Sp_ := Lib.hid (Sp.out.below hb); clear Sp; have Sp := Sp_; clear Sp_
  have B_ := Lib.hid (B.out.trans (hb.mono B.out.size)); clear B; have B := B_; clear B_
  clear hb
  go_wp2_with (at_builtin; refine wpList_appF rfl (.tmp 37) (.tmp 38) 24 rfl 3 i0 .i64 8 Tryd.underlying24 hi hz0 hz1 hz2 (by decide) rfl Sp.out 16384 rfl (by decide) ?_)
  intro v3 w3 ho hb
  obtain ⟨aq, cq, rfl, hs⟩ := ho.sl
  have e1 : (Z ++ [16384]).length = 16385 := by rw [List.length_append, ZL.out]; rfl
  rw [e1] at hs ⊢
  have Sq := Lib.hid hs
  have hxq := hs.hle; have hyq := hs.hmax; unfold maxLen at hyq
  have Sp_ := Lib.hid (Sp.out.below hb); clear Sp; have Sp := Sp_; clear Sp_
  have B_ := Lib.hid (B.out.trans (hb.mono B.out.size)); clear B; have B := B_; clear B_
  clear hb hs ho e1
  go_wp2_with fail
  refine (CI.out _ _ _ _ Sq.out).mono ?_; rintro e w4 ⟨rfl, hb⟩
  have Sp_ := Lib.hid (Sp.out.below hb); clear Sp; have Sp := Sp_; clear Sp_
  have Sq_ := Lib.hid (Sq.out.below hb); clear Sq; have Sq := Sq_; clear Sq_
  have B_ := Lib.hid (B.out.trans (hb.mono B.out.size)); clear B; have B := B_; clear B_
  clear hb
  go_wp2_with fail
  refine (CC.out _ _ _ _ Sq.out).mono ?_; rintro e w5 ⟨rfl, hb⟩
  have Sp_ := Lib.hid (Sp.out.below hb); clear Sp; have Sp := Sp_; clear Sp_
  have Sq_ := Lib.hid (Sq.out.below hb); clear Sq; have Sq := Sq_; clear Sq_
  have B_ := Lib.hid (B.out.trans (hb.mono B.out.size)); clear B; have B := B_; clear B_
  clear hb
  go_wp2_with fail
  refine (CD.out _ _ _ _ Sq.out).mono ?_; rintro e w6 ⟨rfl, hb⟩
  have Sp_ := Lib.hid (Sp.out.below hb); clear Sp; have Sp := Sp_; clear Sp_
  have Sq_ := Lib.hid (Sq.out.below hb); clear Sq; have Sq := Sq_; clear Sq_
  have B_ := Lib.hid (B.out.trans (hb.mono B.out.size)); clear B; have B := B_; clear B_
  clear hb
  go_wp2_with fail
  refine (CR.out _ _ _ _ Sq.out).mono ?_; rintro e w7 ⟨rfl, hb⟩
  have Sp_ := Lib.hid (Sp.out.below hb); clear Sp; have Sp := Sp_; clear Sp_
  have Sq_ := Lib.hid (Sq.out.below hb); clear Sq; have Sq := Sq_; clear Sq_
  have B_ := Lib.hid (B.out.trans (hb.mono B.out.size)); clear B; have B := B_; clear B_
  clear hb
  go_wp2_with fail
  refine (CY.out _ _ _ _ Sq.out).mono ?_; rintro e w8 ⟨rfl, hb⟩
  have Sp_ := Lib.hid (Sp.out.below hb); clear Sp; have Sp := Sp_; clear Sp_
  have Sq_ := Lib.hid (Sq.out.below hb); clear Sq; have Sq := Sq_; clear Sq_
  have B_ := Lib.hid (B.out.trans (hb.mono B.out.size)); clear B; have B := B_; clear B_
  clear hb
  go_wp2_with fail
  refine (E1.out _ _ _ _).mono ?_; rintro e w9 ⟨rfl, rfl⟩
  have hb := Below.alloc (Below.refl w8.heap.size w8) (Nat.le_refl _) (.cells C2 30)
  have Sp_ := Lib.hid (Sp.out.below (hb)); clear Sp; have Sp := Sp_; clear Sp_
  have Sq_ := Lib.hid (Sq.out.below (hb)); clear Sq; have Sq := Sq_; clear Sq_
  have B_ := Lib.hid (B.out.trans (hb.mono B.out.size)); clear B; have B := B_; clear B_
  clear hb
  go_wp2_with fail
  refine (E2.out _ _ _).mono ?_; rintro e w10 ⟨rfl, rfl⟩
  have hb := Below.alloc (Below.refl (w8.alloc (.cells C2 30)).heap.size (w8.alloc (.cells C2 30))) (Nat.le_refl _) (.cells C3 30)
  have Sp_ := Lib.hid (Sp.out.below (hb)); clear Sp; have Sp := Sp_; clear Sp_
  have Sq_ := Lib.hid (Sq.out.below (hb)); clear Sq; have Sq := Sq_; clear Sq_
  have B_ := Lib.hid (B.out.trans (hb.mono B.out.size)); clear B; have B := B_; clear B_
  clear hb
  go_wp2_with fail
  refine (RL.out _ _ _ Sp.out).mono ?_; rintro e w11 ⟨rfl, hb⟩
  have Sp_ := Lib.hid (Sp.out.below hb); clear Sp; have Sp := Sp_; clear Sp_
  have Sq_ := Lib.hid (Sq.out.below hb); clear Sq; have Sq := Sq_; clear Sq_
  have B_ := Lib.hid (B.out.trans (hb.mono B.out.size)); clear B; have B := B_; clear B_
  clear hb
  go_wp2_with fail
  refine (CK2.out _ _ _ _ Sq.out).mono ?_; rintro e w12 ⟨rfl, hb⟩
  have B_ := Lib.hid (B.out.trans (hb.mono B.out.size)); clear B; have B := B_; clear B_
  clear hb
  go_wp2_with fail
  refine (works_any (HT.out.below B.out)).mono ?_; rintro e w13 ⟨rfl, hb⟩
  have B_ := Lib.hid (B.out.trans (hb.mono B.out.size)); clear B; have B := B_; clear B_
  clear hb
  go_wp2_with fail
  go_ret
  exact ⟨rfl, B.out⟩
end Go.Proofs.YtejleobpohpdpaaDoor

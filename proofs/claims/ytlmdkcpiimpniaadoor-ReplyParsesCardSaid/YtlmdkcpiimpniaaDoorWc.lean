/- A reply that came in, by value; ReplyChecks: the walk. -/
import Derived.Test.YtlmdkcpiimpniaaDoorWb
import Derived.Lib.SmallJoins
import Derived.ChangeSlices
import Derived.ChangeArms
namespace Go.Proofs.YtlmdkcpiimpniaaDoor
open Go.ChangeShapes Go.WideShapes Go.ChangeAt Go.RowKit
set_option linter.unusedVariables false
set_option linter.unusedSimpArgs false

theorem u64_of {x : Int} (h : (Lit.int .u64 x).wf = true) : ∃ n : Nat, x = (n : Int) ∧ n < 18446744073709551616 := by
  simp only [Lit.wf, Bool.and_eq_true, decide_eq_true_eq] at h
  rw [show IntKind.u64.min = 0 from rfl, show IntKind.u64.max = 18446744073709551615 from rfl] at h
  exact ⟨x.toNat, by omega, by omega⟩
theorem i64_of {x : Int} (h : (Lit.int .i64 x).wf = true) : -9223372036854775808 ≤ x ∧ x ≤ 9223372036854775807 := by
  simp only [Lit.wf, Bool.and_eq_true, decide_eq_true_eq] at h
  rw [show IntKind.i64.min = -9223372036854775808 from rfl, show IntKind.i64.max = 9223372036854775807 from rfl] at h
  exact h
theorem ints_u64 {w : World} {a : Option Addr} {n c : Nat} {zs : List Int} (h : IsInts .u64 w a n c zs) : ∃ b : List Nat, IsK .u64 w a n c (ns b) ∧ (∀ x ∈ b, x < 18446744073709551616) := by
  have hw : ∀ x ∈ zs, 0 ≤ x ∧ x < 18446744073709551616 := fun x hx => by
    have := h.wf x hx
    simp only [Lit.wf, Bool.and_eq_true, decide_eq_true_eq] at this
    rw [show IntKind.u64.min = 0 from rfl, show IntKind.u64.max = 18446744073709551615 from rfl] at this
    omega
  have hz : zs = ns (zs.map Int.toNat) := by
    unfold ns
    rw [List.map_map]
    conv => lhs; rw [← List.map_id zs]
    refine List.map_congr_left (fun x hx => ?_)
    have := hw x hx
    show x = ((x.toNat : Nat) : Int)
    omega
  refine ⟨zs.map Int.toNat, by rw [← hz]; exact h.sl, fun x hx => ?_⟩
  obtain ⟨y, hy, rfl⟩ := List.mem_map.1 hx
  have := hw y hy
  omega
theorem field_ints {H : Type} {enc : TypeId × Value → H} {W : World} {k : IntKind} {t e : TypeId} {fuel : Nat} {v : Value} {x : DataW H × List MemPlace} (ht : Tryd.prog.underlying t = some (.slice e)) (he : Tryd.prog.underlying e = some (.int k)) (hc : Tryd.prog.cellsOf e = 1)
    (h : DataW.trod enc Tryd.prog W 0 (fun _ => true) true fuel t [v] = some x) : ∃ a n c zs, v = .slice a n c ∧ IsInts k W a n c zs := by
  rcases open_ints ht he hc h with ⟨hcs, _⟩ | ⟨x, l, c, zs, hcs, _, hl, hm, hz, _, hcell, hwz⟩
  · simp at hcs
    exact ⟨none, 0, 0, [], hcs, IsInts.nil _ _⟩
  · simp at hcs
    exact ⟨_, _, _, _, hcs, IsInts.mk' hl hm (by simpa using hz) hcell hwz⟩
set_option maxRecDepth 100000 in
theorem openCmd {H : Type} {enc : TypeId × Value → H} {W : World} {base : Nat} {v : Value} {d : DataW H} {p : List MemPlace} (hv : Value.okWide Tryd.prog W .any base 27 v)
    (h : DataW.Trod enc Tryd.prog W 0 (fun _ => true) true 27 v d p) : ∃ (r : Rp) (a : Option Addr) (c : Nat) (a' : Option Addr) (c' : Nat), v = .agg (rpV r a c a' c') ∧ LsR W r a c a' c' ∧ RpIn r := by
  obtain ⟨cs, rfl, hsz⟩ := okWide_struct Tryd.underlying27 hv
  obtain ⟨fuel, hf⟩ := h
  obtain ⟨xs, n, _, _, _, hlen, hfl⟩ := DataW.trod_struct Tryd.underlying27 hf
  have h5 : cs.size = 5 := hsz.trans (by kernel_rfl)
  obtain ⟨c0, c1, c2, c3, c4, rfl⟩ : ∃ a b c d e, cs = #[a, b, c, d, e] := by
    obtain ⟨l⟩ := cs
    match l, h5 with
    | [a, b, c, d, e], _ => exact ⟨a, b, c, d, e, rfl⟩
  obtain ⟨y0, y1, y2, y3, y4, rfl⟩ : ∃ a b c d e, xs = [a, b, c, d, e] := by
    match xs, hlen with
    | [a, b, c, d, e], _ => exact ⟨a, b, c, d, e, rfl⟩
  have k22 : Tryd.prog.cellsOf 22 = 1 := by kernel_rfl
  have k24 : Tryd.prog.cellsOf 24 = 1 := by kernel_rfl
  have k4 : Tryd.prog.cellsOf 4 = 1 := by kernel_rfl
  have k25 : Tryd.prog.cellsOf 25 = 1 := by kernel_rfl
  have k23 : Tryd.prog.cellsOf 23 = 1 := by kernel_rfl
  have k28 : Tryd.prog.cellsOf 28 = 1 := by kernel_rfl
  have k2 : Tryd.prog.cellsOf 2 = 1 := by kernel_rfl
  have h0 : DataW.trod enc Tryd.prog W 0 (fun _ => true) true n 22 [c0] = some y0 := by simpa [Value.cells, k22] using hfl 0 _ rfl
  have h1 : DataW.trod enc Tryd.prog W 0 (fun _ => true) true n 24 [c1] = some y1 := by simpa [Value.cells, k24] using hfl 1 _ rfl
  have h2 : DataW.trod enc Tryd.prog W 0 (fun _ => true) true n 4 [c2] = some y2 := by simpa [Value.cells, k4] using hfl 2 _ rfl
  have h3 : DataW.trod enc Tryd.prog W 0 (fun _ => true) true n 25 [c3] = some y3 := by simpa [Value.cells, k25] using hfl 3 _ rfl
  have h4 : DataW.trod enc Tryd.prog W 0 (fun _ => true) true n 23 [c4] = some y4 := by simpa [Value.cells, k23] using hfl 4 _ rfl
  obtain ⟨n0, q0, _, w0⟩ := DataW.trod_int (k := .i64) (by kernel_rfl) h0
  obtain ⟨n1, q1, _, w1⟩ := DataW.trod_int (k := .i64) (by kernel_rfl) h1
  obtain ⟨n2, q2, _⟩ := DataW.trod_bool (by kernel_rfl) h2
  obtain ⟨a5, l5, p5, z5, rfl, i5⟩ := field_ints Tryd.underlying25 Tryd.underlying28 k28 h3
  obtain ⟨a6, l6, p6, z6, rfl, i6⟩ := field_ints Tryd.underlying23 Tryd.underlying2 k2 h4
  obtain ⟨b5, s5, u5⟩ := ints_u64 i5
  have hl5 : l5 = b5.length := by rw [s5.hlen, ns_len]
  have hl6 : l6 = z6.length := i6.sl.hlen
  simp at q0 q1 q2
  subst q0 q1 q2 hl5 hl6
  exact ⟨⟨n0, n1, n2, b5, z6⟩, a5, p5, a6, p6, rfl, ⟨s5, i6.sl⟩, ⟨fun x hx => by have := u5 x hx; omega, fun x hx => i64_of (i6.wf x hx)⟩⟩
/-- The cells of a reply's box. -/
def At5 (w : World) (b : Nat) (op er : Int) (y : Bool) (a : Option Addr) (l c : Nat) (a' : Option Addr) (l' c' : Nat) : Prop :=
  w.cell? ⟨b, 0, none⟩ = some (.int .i64 op) ∧ w.cell? ⟨b, 1, none⟩ = some (.int .i64 er) ∧ w.cell? ⟨b, 2, none⟩ = some (.bool y) ∧ w.cell? ⟨b, 3, none⟩ = some (.slice a l c) ∧ w.cell? ⟨b, 4, none⟩ = some (.slice a' l' c')
theorem at5_of {w : World} {b : Nat} {op er : Int} {y : Bool} {a : Option Addr} {l c : Nat} {a' : Option Addr} {l' c' : Nat} (h : w.heap[b]? = some (.cells #[.int .i64 op, .int .i64 er, .bool y, .slice a l c, .slice a' l' c'] 27 (0, 0))) : At5 w b op er y a l c a' l' c' :=
  ⟨cell_of h 0, cell_of h 1, cell_of h 2, cell_of h 3, cell_of h 4⟩
set_option maxRecDepth 100000 in
set_option maxHeartbeats 8000000 in
theorem checks_walk (r : Rp) (a : Option Addr) (c : Nat) (a' : Option Addr) (c' : Nat) (w : World) (hE : Env w) (hL : LsR w r a c a' c') (hI : RpIn r) :
    Calls Tryd.prog 4 #[.agg (rpV r a c a' c')] w fun e w' => e = .returned (.bool true) ∧ Below w.heap.size w w' := by
  have A1 := Lib.hid (Below.alloc (Below.refl w.heap.size w) (Nat.le_refl _) (.cells (rpV r a c a' c') 27))
  have X := Lib.hid (block_new w (.cells (rpV r a c a' c') 27))
  have PF := Lib.hid (pfew (w.alloc (.cells (rpV r a c a' c') 27)) r a a' c c')
  have PW := Lib.hid (fun W (hb : Below w.heap.size w W) => pworks (hE.below hb))
  by_cases hf : fewB r = true
  · obtain ⟨f1, f2⟩ := few_iff.1 hf
    rw [hf] at PF
    have PC := Lib.hid (fun W (hb : Below w.heap.size w W) => pcopied (hL.keep hb) (by omega) (by omega))
    have PK := Lib.hid (fun W (hb : Below w.heap.size w W) b d b' d' => pcheck (hE.below hb) r b d b' d' (by omega) (by omega))
    have PR := Lib.hid (fun W => rcheck (w := W) r a c a' c' (by omega) (by omega))
    clear hE hL hI hf f1 f2
    generalize chk r = K at *
    unfold CpR at PC
    unfold rpV at *
    obtain ⟨op, er, yes, ids, nums⟩ := r
    simp only at *
    generalize hli : ids.length = li at *
    generalize hln : nums.length = ln at *
    clear hli hln
    go_enter Tryd.func4, Tryd.ntmps4
    go_wp2_with fail
    refine (PF.out).mono ?_; rintro e w1 ⟨rfl, hb1⟩
    have BB := Lib.hid (A1.out.trans (hb1.mono A1.out.size))
    have X1 := Lib.hid ((hb1.block _ (lt_of_block X.out)).trans X.out)
    have HX : Hid (∀ w', Below w.heap.size w w' → Below w1.heap.size w1 w' → At5 w' w.heap.size op er yes a li c a' ln c') := Lib.hid (fun w' _ hb => at5_of ((hb.block _ (lt_of_block X1.out)).trans X1.out))
    obtain ⟨x0, x1, x2, x3, x4⟩ := HX.out w1 BB.out (Below.refl _ _)
    have BC := Lib.hid (Below.drew (Below.refl w1.heap.size w1))
    have BW := Lib.hid (Below.drew BB.out)
    clear hb1 PF
    go_wp2_with fail
    go_region_with (first
      | (go_at_call 21; refine (PC.out _ BW.out).mono ?_; rintro e w4 ⟨b2, d2, b3, d3, rfl, hl2, hb⟩; clear hl2; have BW4 := Lib.hid (BW.out.trans (hb.mono BW.out.size)); have BC4 := Lib.hid (BC.out.trans (hb.mono BC.out.size)); clear BW BC x0 x1 x2 x3 x4 hb; have BW := BW4; have BC := BC4; clear BW4 BC4; obtain ⟨x0, x1, x2, x3, x4⟩ := HX.out _ BW.out BC.out)
      | (go_at_call 14; refine (PK.out _ BW.out _ _ _ _).mono ?_; rintro e w5 ⟨rfl, hb⟩; have BW4 := Lib.hid (BW.out.trans (hb.mono BW.out.size)); have BC4 := Lib.hid (BC.out.trans (hb.mono BC.out.size)); clear BW BC x0 x1 x2 x3 x4 hb; have BW := BW4; have BC := BC4; clear BW4 BC4; obtain ⟨x0, x1, x2, x3, x4⟩ := HX.out _ BW.out BC.out)
      | (go_at_call 22; refine (PR.out _).mono ?_; rintro e w6 ⟨rfl, hb⟩; have BW4 := Lib.hid (BW.out.trans (hb.mono BW.out.size)); have BC4 := Lib.hid (BC.out.trans (hb.mono BC.out.size)); clear BW BC x0 x1 x2 x3 x4 hb; have BW := BW4; have BC := BC4; clear BW4 BC4; obtain ⟨x0, x1, x2, x3, x4⟩ := HX.out _ BW.out BC.out)
      | (go_at_call 19; refine (PW.out _ BW.out).mono ?_; rintro e w7 ⟨rfl, hb⟩; have BW4 := Lib.hid (BW.out.trans (hb.mono BW.out.size)); have BC4 := Lib.hid (BC.out.trans (hb.mono BC.out.size)); clear BW BC x0 x1 x2 x3 x4 hb; have BW := BW4; have BC := BC4; clear BW4 BC4; obtain ⟨x0, x1, x2, x3, x4⟩ := HX.out _ BW.out BC.out))
    all_goals
      go_wp2_with fail
      go_ret
      exact ⟨rfl, BW.out⟩
  · rw [Bool.eq_false_iff.2 hf] at PF
    clear hE hL hI hf
    unfold rpV at *
    obtain ⟨op, er, yes, ids, nums⟩ := r
    simp only at *
    generalize ids.length = li at *
    generalize nums.length = ln at *
    go_enter Tryd.func4, Tryd.ntmps4
    go_wp2_with fail
    refine (PF.out).mono ?_; rintro e w1 ⟨rfl, hb1⟩
    have BB := Lib.hid (A1.out.trans (hb1.mono A1.out.size))
    clear hb1 PF
    go_wp2_with fail
    refine (PW.out _ BB.out).mono ?_; rintro e w2 ⟨rfl, hb2⟩
    have B2 := Lib.hid (BB.out.trans (hb2.mono BB.out.size))
    clear hb2 PW
    go_wp2_with fail
    go_ret
    exact ⟨rfl, B2.out⟩
end Go.Proofs.YtlmdkcpiimpniaaDoor

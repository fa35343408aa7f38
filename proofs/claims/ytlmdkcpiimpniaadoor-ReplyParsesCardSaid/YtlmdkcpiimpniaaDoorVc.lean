/- The word of a kind looked up: the closure of read, slices.IndexFunc. -/
import Derived.Test.YtlmdkcpiimpniaaDoorSd
namespace Go.Proofs.YtlmdkcpiimpniaaDoor
open Go.ChangeShapes Go.WideShapes Go.ChangeAt Go.RowKit
set_option linter.unusedVariables false
set_option linter.unusedSimpArgs false

theorem ent67 : ∀ (args : Array Value) (w : World), (callFunc 67 args).run Tryd.prog w = .ok (.enter 67 args) w := enters_of Tryd.func67 (by kernel_rfl) rfl
theorem below_dn {B : Nat} {a w : World} (h : Below B a w) (n : Nat) : Below B a (w.drewN n) := h.trans ⟨rfl, rfl, rfl, Nat.le_refl _, fun _ _ => rfl⟩
set_option maxRecDepth 100000 in
set_option maxHeartbeats 4000000 in
theorem pmatch {w : World} {p g n cap : Nat} {S W0 : Str} {i1 i2 i3 : Int} (hn : 0 < n) (h1 : w.cell? ⟨p, 0, none⟩ = some (.slice (some ⟨g, 0, none⟩) n cap)) (h2 : w.cell? ⟨g, 0, none⟩ = some (.string ⟨W0.toArray⟩)) :
    Calls Tryd.prog 67 #[.agg #[.string ⟨S.toArray⟩, .int .i64 i1, .int .i64 i2, .int .i64 i3], .pointer (some ⟨p, 0, none⟩)] w fun e w' => e = .returned (.bool (decide (S = W0))) ∧ Below w.heap.size w w' := by
  have hA : Hid (Below w.heap.size w (w.alloc (.cells #[.string ⟨S.toArray⟩, .int .i64 i1, .int .i64 i2, .int .i64 i3] 57))) := Lib.hid (Below.alloc (Below.refl _ _) (Nat.le_refl _) _)
  have X := block_new w (.cells #[.string ⟨S.toArray⟩, .int .i64 i1, .int .i64 i2, .int .i64 i3] 57)
  have x0 : (w.alloc (.cells #[.string ⟨S.toArray⟩, .int .i64 i1, .int .i64 i2, .int .i64 i3] 57)).cell? ⟨w.heap.size, 0, none⟩ = some (.string ⟨S.toArray⟩) := cell_of X 0
  have hp := lt_of_cell h1
  have hg := lt_of_cell h2
  have hb : (S == W0) = decide (S = W0) := by rw [Bool.eq_iff_iff]; simp
  generalize decide (S = W0) = bb at *
  have HB := Lib.hid hb
  clear X
  go_enter Tryd.func67, Tryd.ntmps67
  go_wp2_with fail
  go_quiet (fail)
  go_wp2_with fail
  go_ret
  exact ⟨rfl, below_dn hA.out _⟩
/-- The index of a word among the kinds, or -1. -/
def idxW (W0 : Str) : Int := match findW W0 with
  | some k => (k : Int)
  | none => -1
theorem idxW_hit {W0 : Str} {i : Nat} (hi : i < 16) (h : kwS i = W0) : idxW W0 = (i : Int) := by
  unfold idxW
  have hf := findW_kw ⟨i, hi⟩
  simp only at hf
  rw [← h, hf]
theorem idxW_miss {W0 : Str} (h : ∀ j, j < 16 → kwS j ≠ W0) : idxW W0 = -1 := by
  unfold idxW
  cases hf : findW W0 with
  | none => rfl
  | some k => obtain ⟨h1, h2⟩ := findW_some hf; exact absurd h2 (h k h1)
def IxRel (w : World) (W0 : Str) (v8 : Value) (wr : World) : Prop := ∃ i : Nat, i ≤ 16 ∧ v8 = .int .i64 (i : Int) ∧ (∀ j, j < i → kwS j ≠ W0) ∧ Below w.heap.size w wr
set_option maxRecDepth 100000 in
set_option maxHeartbeats 4000000 in
theorem pindex {w : World} (h : Env w) {p g n cap : Nat} {W0 : Str} (hn : 0 < n) (h1 : w.cell? ⟨p, 0, none⟩ = some (.slice (some ⟨g, 0, none⟩) n cap)) (h2 : w.cell? ⟨g, 0, none⟩ = some (.string ⟨W0.toArray⟩)) :
    Calls Tryd.prog 66 #[.slice (some ⟨0, 0, none⟩) 16 16, .func (.func 67) #[] #[.pointer (some ⟨p, 0, none⟩)]] w fun e w' => e = .returned (.int .i64 (idxW W0)) ∧ Below w.heap.size w w' := by
  have hp := lt_of_cell h1
  have hg := lt_of_cell h2
  have PM : Hid (∀ w' S i1 i2 i3, Below w.heap.size w w' → Calls Tryd.prog 67 #[.agg #[.string ⟨S.toArray⟩, .int .i64 i1, .int .i64 i2, .int .i64 i3], .pointer (some ⟨p, 0, none⟩)] w' fun e w2 => e = .returned (.bool (decide (S = W0))) ∧ Below w'.heap.size w' w2) := Lib.hid (fun w' S i1 i2 i3 hb => pmatch hn (by rw [(bcell hb).1 p 0 hp]; exact h1) (by rw [(bcell hb).1 g 0 hg]; exact h2))
  have KC := Lib.hid (fun w' (hb : Below w.heap.size w w') k (hk : k < 16) => (h.below hb).kind hk)
  have ec := ent67
  clear h h1 h2 hp hg hn
  go_enter Tryd.func66, Tryd.ntmps66
  go_wp2_with fail
  go_loopw [8] (fun v8 wr => IxRel w W0 v8 wr) (fun v8 _ => 16 - (intOf v8).toNat)
  case atStart => exact ⟨0, Nat.zero_le _, rfl, fun j hj => absurd hj (Nat.not_lt_zero _), Below.refl _ _⟩
  case round =>
    obtain ⟨i, hi, rfl, hno, hb⟩ := hrel
    have B := Lib.hid hb
    have HNO := Lib.hid hno
    clear hb hno
    by_cases hlt : i < 16
    · obtain ⟨y0, y1, y2, y3⟩ := KC.out wr B.out i hlt
      have z0 := lt_of_cell y0
      have P := Lib.hid (PM.out wr (kwS i) (ki i : Nat) (kn i : Nat) (ke i : Nat) B.out)
      have HK := Lib.hid (fun (e : kwS i = W0) => idxW_hit hlt e)
      obtain ⟨S, hS⟩ : ∃ S, S = kwS i := ⟨_, rfl⟩
      rw [← hS] at P HK y0
      have HS := Lib.hid hS
      clear hS
      generalize ki i = I at *
      generalize kn i = M at *
      generalize ke i = E at *
      by_cases hq : S = W0
      · rw [decide_eq_true hq] at P
        have R := Lib.hid (HK.out hq)
        clear HK hq
        go_wp2_with fail
        refine (P.out).mono ?_; rintro e w1 ⟨rfl, hb1⟩
        have B1 := Lib.hid (B.out.trans (hb1.mono B.out.size))
        clear hb1
        go_wp2_with fail
        go_ret
        exact ⟨ret_int (by rw [R.out]), B1.out⟩
      · rw [decide_eq_false hq] at P
        have NQ := Lib.hid hq
        clear HK hq
        go_wp2_with fail
        refine (P.out).mono ?_; rintro e w1 ⟨rfl, hb1⟩
        have B1 := Lib.hid (B.out.trans (hb1.mono B.out.size))
        clear hb1
        go_wp2_with fail
        go_roundw
        case rel =>
          refine ⟨i + 1, hlt, by go_num, fun j hj => ?_, B1.out⟩
          rcases Nat.lt_succ_iff_lt_or_eq.1 hj with h | h
          · exact HNO.out j h
          · rw [h, ← HS.out]; exact NQ.out
        case measure => simp [intOf]; omega
    · obtain rfl : i = 16 := by omega
      have R := Lib.hid (idxW_miss HNO.out)
      go_wp2_with fail
      go_ret
      exact ⟨ret_int (by rw [R.out]), B.out⟩
end Go.Proofs.YtlmdkcpiimpniaaDoor
/- entries of the program. -/
namespace Go.Proofs.YtlmdkcpiimpniaaDoor
open Go.ChangeShapes Go.WideShapes Go.ChangeAt Go.RowKit
set_option linter.unusedVariables false
set_option linter.unusedSimpArgs false

def boxR (k : Nat) (y : Bool) (v3 v4 : Value) : Obj := .cells #[.int .i64 (k : Int), .int .i64 0, .bool y, v3, v4] 27
/-- The reply's box, in a loop over the words. -/
structure EnB (w1 : World) (G b : Nat) (k : Nat) (y : Bool) (v3 v4 : Value) (ids : List Nat) (nums : List Int) (wr : World) : Prop where
  box : wr.heap[b]? = some (boxR k y v3 v4)
  o3 : OutR 1 (encK .u64) 28 wr G v3 (ns ids)
  o4 : OutR 1 (encK .i64) 2 wr G v4 nums
  dis : ∀ g, v3.ownBlock = some g → v4.ownBlock = some g → False
  touch : Touch (fun j => j = b) w1 wr
theorem out_set {sz : Nat} {enc : Int → List Value} {e : TypeId} {w : World} {B b : Nat} {v : Value} {zs : List Int} (h : OutR sz enc e w B v zs) (hb : b < B) (o : Nat) (x : Value) : OutR sz enc e (w.setCell ⟨b, o, none⟩ x) B v zs :=
  ⟨ownsRow_touch h.row ((Touch.refl (fun j => j = b) w).setCell (fun _ => rfl) x) (fun k hk e => by have := h.blk k hk; omega), h.blk⟩
theorem out_touch {sz : Nat} {enc : Int → List Value} {e : TypeId} {w w' : World} {S : Nat → Prop} {B : Nat} {v : Value} {zs : List Int} (h : OutR sz enc e w B v zs) (ht : Touch S w w') (hs : ∀ k, v.ownBlock = some k → ¬ S k) : OutR sz enc e w' B v zs :=
  ⟨ownsRow_touch h.row ht hs, h.blk⟩
theorem EnB.idStep {w1 wr w' : World} {G b k : Nat} {y : Bool} {v3 v4 v3' : Value} {ids : List Nat} {nums : List Int} {x : Nat} (h : EnB w1 G b k y v3 v4 ids nums wr) (hw1 : w1.heap.size = G) (hbG : b < G) (hG : G ≤ wr.heap.size)
    (h1 : OutR 1 (encK .u64) 28 w' G v3' (ns ids ++ [(x : Int)])) (h2 : Touch (fun j => v3.ownBlock = some j) wr w') (h4 : ∀ g, v3'.ownBlock = some g → v3.ownBlock = some g ∨ wr.heap.size ≤ g) :
    EnB w1 G b k y v3' v4 (ids ++ [x]) nums (w'.setCell ⟨b, 3, none⟩ v3') := by
  have hbox : w'.heap[b]? = some (boxR k y v3 v4) := h2.keep h.box (fun e => by have := h.o3.blk b e; omega)
  refine ⟨set_of hbox 3 v3', ?_, out_set (out_touch h.o4 h2 (fun g hg e => h.dis g e hg)) hbG 3 _, fun g hg hg' => ?_, ?_⟩
  · rw [ns_cat]; exact out_set h1 hbG 3 _
  · rcases h4 g hg with e | e
    · exact h.dis g e hg'
    · have := own_lt h.o4.row hg'; omega
  · exact (h.touch.trans' h2 (fun i hi e => absurd (h.o3.blk i e) (by omega))).setCell (fun _ => rfl) _
theorem EnB.numStep {w1 wr w' : World} {G b k : Nat} {y : Bool} {v3 v4 v4' : Value} {ids : List Nat} {nums : List Int} {x : Int} (h : EnB w1 G b k y v3 v4 ids nums wr) (hw1 : w1.heap.size = G) (hbG : b < G) (hG : G ≤ wr.heap.size)
    (h1 : OutR 1 (encK .i64) 2 w' G v4' (nums ++ [x])) (h2 : Touch (fun j => v4.ownBlock = some j) wr w') (h4 : ∀ g, v4'.ownBlock = some g → v4.ownBlock = some g ∨ wr.heap.size ≤ g) :
    EnB w1 G b k y v3 v4' ids (nums ++ [x]) (w'.setCell ⟨b, 4, none⟩ v4') := by
  have hbox : w'.heap[b]? = some (boxR k y v3 v4) := h2.keep h.box (fun e => by have := h.o4.blk b e; omega)
  refine ⟨set_of hbox 4 v4', out_set (out_touch h.o3 h2 (fun g hg e => h.dis g hg e)) hbG 4 _, out_set h1 hbG 4 _, fun g hg hg' => ?_, ?_⟩
  · rcases h4 g hg' with e | e
    · exact h.dis g hg e
    · have := own_lt h.o3.row hg; omega
  · exact (h.touch.trans' h2 (fun i hi e => absurd (h.o4.blk i e) (by omega))).setCell (fun _ => rfl) _
theorem EnB.below {w1 wr w' : World} {G b k : Nat} {y : Bool} {v3 v4 : Value} {ids : List Nat} {nums : List Int} (h : EnB w1 G b k y v3 v4 ids nums wr) (hb : Below wr.heap.size wr w') : EnB w1 G b k y v3 v4 ids nums w' :=
  ⟨(hb.block _ (lt_of_block h.box)).trans h.box, h.o3.below hb, h.o4.below hb, h.dis, h.touch.trans (Touch.of_below hb _)⟩
/-- What entries leaves: the box, and whether the words were read. -/
def EnP (w : World) (b k : Nat) (y : Bool) (R : Option (List Nat × List Int)) (e : Ending) (w' : World) : Prop :=
  ∃ ok v3 v4 ids nums, e = .returned (.bool ok) ∧ w'.heap[b]? = some (boxR k y v3 v4) ∧ Touch (fun j => j = b) w w' ∧ OutR 1 (encK .u64) 28 w' w.heap.size v3 (ns ids) ∧ OutR 1 (encK .i64) 2 w' w.heap.size v4 nums ∧ (R = some (ids, nums) → ok = true) ∧ (R = none → ok = false) ∧ (∀ q, R = some q → q = (ids, nums))
def EnRel (w1 : World) (G b k n : Nat) (y : Bool) (R : Option (List Nat × List Int)) (ws : List Str) (v36 : Value) (wr : World) : Prop :=
  ∃ i v3 v4 ids nums, i ≤ n ∧ v36 = .int .i64 ((i : Nat) : Int) ∧ EnB w1 G b k y v3 v4 ids nums wr ∧ ids.length ≤ i ∧ nums.length ≤ i ∧ R = rdW k i (ws.drop i) (ids, nums)
theorem rdW_cons {k i : Nat} {w : Str} {ws : List Str} {p : List Nat} {q : List Int} : rdW k i (w :: ws) (p, q) = if i % (ki k + kn k) < ki k then (uns w).bind fun x => rdW k (i + 1) ws (p ++ [x], q) else (sgn w).bind fun x => rdW k (i + 1) ws (p, q ++ [x]) := rfl
theorem wordsD {ws : List Str} {i : Nat} (h : i < ws.length) : ws.drop i = ws.getD i [] :: ws.drop (i + 1) := by
  rw [List.drop_eq_getElem_cons h]; simp [h]
theorem sl_str {w : World} {a : Option Addr} {n c : Nat} {ws : List Str} (h : IsSl 1 encS w a n c ws) {i : Nat} (hi : i < ws.length) : ∃ b off, a = some ⟨b, off, none⟩ ∧ w.cell? ⟨b, off + i, none⟩ = some (.string ⟨(ws.getD i []).toArray⟩) := by
  obtain ⟨b, off, rfl, _, hc⟩ := h.at_ (fun e => by rw [e] at hi; cases hi)
  refine ⟨b, off, rfl, ?_⟩
  have h1 := hc i hi 0 (by omega)
  simp only [Nat.mul_one, Nat.add_zero] at h1
  rw [h1]
  simp [encS, hi]
set_option maxRecDepth 100000 in
set_option maxHeartbeats 8000000 in
theorem pents {w0 w : World} (hE : Env w0) (hw : Below w0.heap.size w0 w) {b k : Nat} {y : Bool} (hb0 : w0.heap.size ≤ b) (hk : k < 16) (hbox : w.heap[b]? = some (boxR k y (.slice none 0 0) (.slice none 0 0)))
    {wb off n c : Nat} {ws : List Str} (hS : IsSl 1 encS w0 (some ⟨wb, off, none⟩) n c ws) (hn : n ≤ 1000000) (hws : ∀ s ∈ ws, s.length ≤ 1000000) :
    Calls Tryd.prog 69 #[.pointer (some ⟨b, 0, none⟩), .slice (some ⟨wb, off, none⟩) n c] w (EnP w b k y (ents k ws)) := by
  obtain ⟨i28, a28, a28z, a28s, a28b⟩ := info_parts info28
  obtain ⟨i2, a2, a2z, a2s, a2b⟩ := info_parts info2
  have hnl := hS.hlen
  have HK := Lib.hid (hE.below hw)
  obtain ⟨y0, y1, y2, y3⟩ := HK.out.kind hk
  have x0 : w.cell? ⟨b, 0, none⟩ = some (.int .i64 (k : Int)) := cell_of hbox 0
  have hbl := lt_of_block hbox
  have HBX := Lib.hid hbox
  have HW := Lib.hid hw
  have HEE := Lib.hid hE
  obtain ⟨n1, n2, -, -, -⟩ := kinds_num hk
  have HR0 : Hid (ki k + kn k = 0 → ents k ws = if ws = [] then some ([], []) else none) := Lib.hid (fun h => by unfold ents; rw [if_pos h])
  have HR1 : Hid (ki k + kn k ≠ 0 → ents k ws = if n % (ki k + kn k) ≠ 0 then none else rdW k 0 ws ([], [])) := Lib.hid (fun h => by unfold ents; rw [if_neg h, hnl])
  have CONS : Hid (∀ i w ws (p : List Nat) (q : List Int), rdW k i (w :: ws) (p, q) = if i % (ki k + kn k) < ki k then (uns w).bind fun x => rdW k (i + 1) ws (p ++ [x], q) else (sgn w).bind fun x => rdW k (i + 1) ws (p, q ++ [x])) := Lib.hid (fun i w ws p q => rfl)
  have NILR : Hid (∀ i p, rdW k i [] p = some p) := Lib.hid (fun i p => rfl)
  generalize ents k ws = R at *
  clear hE hw hbox
  by_cases hs : ki k + kn k = 0
  · have hr := Lib.hid (HR0.out hs)
    obtain ⟨hki, hkn⟩ : ki k = 0 ∧ kn k = 0 := by omega
    have HNW : Hid (n = 0 ↔ ws = []) := Lib.hid (by rw [hnl]; exact List.length_eq_zero_iff)
    rw [hki] at y1
    rw [hkn] at y2
    have W1 := Lib.hid (fun (o : Obj) => Below.alloc (Below.refl w.heap.size w) (Nat.le_refl _) o)
    clear HR0 HR1 CONS NILR hs hki hkn hnl
    generalize kwS k = S at *
    generalize ke k = E at *
    by_cases hw0 : n = 0
    · have hr2 : Hid (R = some ([], [])) := Lib.hid (by rw [hr.out, if_pos (HNW.out.1 hw0)])
      clear hr HNW
      subst hw0
      go_enter Tryd.func69, Tryd.ntmps69
      go_wp2_with fail
      go_ret
      refine ⟨true, _, _, [], [], rfl, (W1.out _).block _ hbl |>.trans HBX.out, Touch.of_below (W1.out _) _, ⟨⟨rfl, Or.inl ⟨rfl, rfl⟩⟩, fun g h => (by cases h)⟩, ⟨⟨rfl, Or.inl ⟨rfl, rfl⟩⟩, fun g h => (by cases h)⟩, fun _ => rfl, fun h => ?_, fun q h => ?_⟩
      · rw [hr2.out] at h; cases h
      · rw [hr2.out] at h; cases h; rfl
    · have hr2 : Hid (R = none) := Lib.hid (by rw [hr.out, if_neg (fun e => hw0 (HNW.out.2 e))])
      have e0 : ((n : Int) == 0) = false := by simp; omega
      have e00 : (n == 0) = false := by simp; omega
      clear hr HNW
      go_enter Tryd.func69, Tryd.ntmps69
      go_wp2_with fail
      go_ret
      refine ⟨false, _, _, [], [], rfl, (W1.out _).block _ hbl |>.trans HBX.out, Touch.of_below (W1.out _) _, ⟨⟨rfl, Or.inl ⟨rfl, rfl⟩⟩, fun g h => (by cases h)⟩, ⟨⟨rfl, Or.inl ⟨rfl, rfl⟩⟩, fun g h => (by cases h)⟩, fun h => ?_, fun h => rfl, fun q h => ?_⟩
      · rw [hr2.out] at h; cases h
      · rw [hr2.out] at h; cases h
  · have hr := Lib.hid (HR1.out hs)
    obtain ⟨s, hsd⟩ : ∃ s, s = ki k + kn k := ⟨_, rfl⟩
    rw [← hsd] at hr CONS hs
    have HS2 := Lib.hid hS
    have HWS := Lib.hid hws
    have HNL := Lib.hid hnl
    have e1 : ((ki k : Nat) : Int) + ((kn k : Nat) : Int) = (s : Int) := by omega
    have e2 : ((s : Int) == 0) = false := by simp; omega
    have hs7 : s ≤ 7 := by omega
    have hs0 : 0 < s := by omega
    have e3 : (s == 0) = false := by simp; omega
    have em : (n : Int) % (s : Int) = ((n % s : Nat) : Int) := by omega
    have hmn : n % s ≤ n := Nat.mod_le _ _
    obtain ⟨m, hm⟩ : ∃ m, m = n % s := ⟨_, rfl⟩
    rw [← hm] at em hr hmn
    clear HR0 HR1 hsd hm hws hnl hS
    generalize kwS k = S at *
    generalize ke k = E at *
    generalize ki k = I at *
    generalize kn k = M at *
    have W1 := Lib.hid (Below.alloc (Below.refl w.heap.size w) (Nat.le_refl _) (.cells #[.string ⟨S.toArray⟩, .int .i64 (I : Int), .int .i64 (M : Int), .int .i64 (E : Int)] 57))
    have HKB := Lib.hid (block_new w (.cells #[.string ⟨S.toArray⟩, .int .i64 (I : Int), .int .i64 (M : Int), .int .i64 (E : Int)] 57))
    have HSZ : (w.alloc (.cells #[.string ⟨S.toArray⟩, .int .i64 (I : Int), .int .i64 (M : Int), .int .i64 (E : Int)] 57)).heap.size = w.heap.size + 1 := by simp
    have HBX1 := Lib.hid ((W1.out.block _ hbl).trans HBX.out)
    by_cases hm0 : m = 0
    · subst hm0
      rw [if_neg (by simp)] at hr
      go_enter Tryd.func69, Tryd.ntmps69
      go_wp2_with fail
      go_loopw [36] (fun v36 wr => EnRel (w.alloc (.cells #[.string ⟨S.toArray⟩, .int .i64 (I : Int), .int .i64 (M : Int), .int .i64 (E : Int)] 57)) (w.heap.size + 1) b k n y R ws v36 wr) (fun v36 _ => n - (intOf v36).toNat)
      case atStart =>
        exact ⟨0, _, _, [], [], Nat.zero_le _, rfl, ⟨HBX1.out, ⟨⟨rfl, Or.inl ⟨rfl, rfl⟩⟩, fun g h => (by cases h)⟩, ⟨⟨rfl, Or.inl ⟨rfl, rfl⟩⟩, fun g h => (by cases h)⟩, fun g h => (by cases h), Touch.refl _ _⟩, Nat.le_refl _, Nat.le_refl _, hr.out⟩
      case round =>
        obtain ⟨i, v3, v4, ids, nums, hi, rfl, hB, l1, l2, hR⟩ := hrel
        clear hr em
        have EB := Lib.hid hB
        have HRR := Lib.hid hR
        have gs : w.heap.size + 1 ≤ wr.heap.size := by have := hB.touch.size; rw [HSZ] at this; exact this
        have TW := Lib.hid ((Touch.of_below (W1.out) (fun j => j = b)).trans hB.touch)
        have BW := Lib.hid (HW.out.trans (TW.out.below HW.out.size (fun j hj e => by omega)))
        have z1 : wr.cell? ⟨w.heap.size, 1, none⟩ = some (.int .i64 (I : Int)) := cell_of (hB.touch.keep HKB.out (by omega)) 1
        have x3 : wr.cell? ⟨b, 3, none⟩ = some v3 := cell_of hB.box 3
        have x4 : wr.cell? ⟨b, 4, none⟩ = some v4 := cell_of hB.box 4
        have u3 : wr.frozen? ⟨b, 3, none⟩ = false := free_of hB.box 3
        have u4 : wr.frozen? ⟨b, 4, none⟩ = false := free_of hB.box 4
        have EV := Lib.hid (HEE.out.below BW.out)
        by_cases hlt : i < n
        · have hlt2 := hlt
          rw [HNL.out] at hlt2
          obtain ⟨wb', off', hab, hwc⟩ := sl_str HS2.out hlt2
          cases hab
          have xw : wr.cell? ⟨wb, off + i, none⟩ = some (.string ⟨(ws.getD i []).toArray⟩) := by rw [(bcell BW.out).1 wb _ (lt_of_cell hwc)]; exact hwc
          have hwl := lt_of_cell xw
          have hwl2 : (ws.getD i []).length ≤ 1000000 := HWS.out _ (by rw [List.getD_eq_getElem?_getD, List.getElem?_eq_getElem hlt2]; exact List.getElem_mem hlt2)
          have PU := Lib.hid (fun m => (punsigned (EV.out.below (below_dn (Below.refl _ _) m)) hwl2).mono (fun e w' (h : UnV _ e ∧ Below (wr.drewN m).heap.size (wr.drewN m) w') => And.intro h.1 (show Below wr.heap.size wr w' from (below_dn (Below.refl _ _) m).trans h.2)))
          have PS := Lib.hid (fun m => (psigned (EV.out.below (below_dn (Below.refl _ _) m)) hwl2).mono (fun e w' (h : SgV _ e ∧ Below (wr.drewN m).heap.size (wr.drewN m) w') => And.intro h.1 (show Below wr.heap.size wr w' from (below_dn (Below.refl _ _) m).trans h.2)))
          rw [wordsD hlt2, CONS.out] at hR
          generalize ws.getD i [] = W0 at *
          have er : (i : Int) % (s : Int) = ((i % s : Nat) : Int) := by simp
          have hq7 : i % s ≤ 7 := by have := Nat.mod_lt i hs0; omega
          generalize i % s = q at *
          have hgl := lt_of_block hB.box
          have hRI := Lib.hid hR
          obtain ⟨a3, c3, rfl⟩ := own_shape hB.o3.row
          obtain ⟨a4, c4, rfl⟩ := own_shape hB.o4.row
          have hl3 : (ns ids).length + 1 ≤ 1099511627776 := by rw [ns_len]; omega
          have hl4 : nums.length + 1 ≤ 1099511627776 := by omega
          have O3 := Lib.hid hB.o3
          have O4 := Lib.hid hB.o4
          generalize hn3 : (ns ids).length = n3 at *
          generalize hn4 : nums.length = n4 at *
          have HN4 := Lib.hid hn4
          clear hR hB hwc hn3 hn4
          have et : Int.tmod (i : Int) (s : Int) = (q : Int) := by rw [Int.tmod_eq_emod_of_nonneg (by omega)]; exact er
          by_cases hq : q < I
          · have HR2 := Lib.hid (hRI.out.trans (if_pos hq))
            clear PS hRI
            have d1 : decide ((q : Int) < (I : Int)) = true := by simp; omega
            have d2 : decide (q < I) = true := by simpa using hq
            cases hun : uns W0 with
            | none =>
              rw [hun] at PU HR2
              have hRn : Hid (R = none) := Lib.hid HR2.out
              clear HR2 hun
              go_wp2_with fail
              go_quiet (fail)
              go_wp2_with fail
              refine (PU.out _).mono ?_; rintro e w1 ⟨⟨yy, rfl⟩, hb1⟩
              have ED := Lib.hid (EB.out.below hb1)
              have TT := Lib.hid (TW.out.trans (Touch.of_below hb1 _))
              clear hb1
              go_wp2_with fail
              go_ret
              refine ⟨false, _, _, ids, nums, rfl, ED.out.box, TT.out, ⟨ED.out.o3.row, fun g h => Nat.le_trans (Nat.le_succ _) (ED.out.o3.blk g h)⟩, ⟨ED.out.o4.row, fun g h => Nat.le_trans (Nat.le_succ _) (ED.out.o4.blk g h)⟩, fun h => ?_, fun h => rfl, fun q h => ?_⟩
              · rw [hRn.out] at h; cases h
              · rw [hRn.out] at h; cases h
            | some x =>
              rw [hun] at PU HR2
              have hRn : Hid (R = rdW k (i + 1) (ws.drop (i + 1)) (ids ++ [x], nums)) := Lib.hid HR2.out
              clear HR2 hun
              go_wp2_with fail
              go_quiet (fail)
              go_wp2_with fail
              refine (PU.out _).mono ?_; rintro e w1 ⟨rfl, hb1⟩
              have ED := Lib.hid (EB.out.below hb1)
              have O3 := Lib.hid (O3.out.below hb1)
              have O4 := Lib.hid (O4.out.below hb1)
              have gs1 : w.heap.size + 1 ≤ w1.heap.size := Nat.le_trans gs hb1.size
              have v3 : w1.cell? ⟨b, 3, none⟩ = some (.slice a3 n3 c3) := cell_of ED.out.box 3
              have v4 : w1.cell? ⟨b, 4, none⟩ = some (.slice a4 n4 c4) := cell_of ED.out.box 4
              clear hb1 x3 x4 u3 u4 z1 xw hwl
              go_wp2_with (at_builtin; refine wpList_app rfl (.tmp 58) (.tmp 60) 25 rfl 28 i28 .u64 8 Tryd.underlying25 a28 a28z a28s a28b (by decide) rfl O3.out gs1 (x : Int) rfl (by rw [ns_len]; omega) ?_)
              intro v5 w5 k1 k2 k3 k4
              have EN := Lib.hid (ED.out.idStep (x := x) HSZ (Nat.lt_succ_of_lt hbl) gs1 k1 k2 k4)
              have x5 : w5.cell? ⟨b, 3, none⟩ = some (.slice a3 n3 c3) := cell_of (k2.keep ED.out.box (fun e => by have := O3.out.blk b e; omega)) 3
              have u5 : w5.frozen? ⟨b, 3, none⟩ = false := free_of (k2.keep ED.out.box (fun e => by have := O3.out.blk b e; omega)) 3
              obtain ⟨a5, c5, rfl⟩ := own_shape k1.row
              have hl5 := lt_of_cell x5
              clear k1 k2 k3 k4
              generalize (ns ids ++ [(x : Int)]).length = n5 at *
              go_wp2_with fail
              go_roundw
              case rel => exact ⟨i + 1, _, _, _, _, hlt, by go_num, EN.out, by simp; omega, by have := HN4.out; omega, hRn.out⟩
              case measure => simp [intOf]; omega
          · have HR2 := Lib.hid (hRI.out.trans (if_neg hq))
            clear PU hRI
            have d1 : decide ((q : Int) < (I : Int)) = false := by simp; omega
            have d2 : decide (q < I) = false := by simp; omega
            cases hun : sgn W0 with
            | none =>
              rw [hun] at PS HR2
              have hRn : Hid (R = none) := Lib.hid HR2.out
              clear HR2 hun
              go_wp2_with fail
              go_quiet (fail)
              go_wp2_with fail
              refine (PS.out _).mono ?_; rintro e w1 ⟨⟨yy, rfl⟩, hb1⟩
              have ED := Lib.hid (EB.out.below hb1)
              have TT := Lib.hid (TW.out.trans (Touch.of_below hb1 _))
              clear hb1
              go_wp2_with fail
              go_ret
              refine ⟨false, _, _, ids, nums, rfl, ED.out.box, TT.out, ⟨ED.out.o3.row, fun g h => Nat.le_trans (Nat.le_succ _) (ED.out.o3.blk g h)⟩, ⟨ED.out.o4.row, fun g h => Nat.le_trans (Nat.le_succ _) (ED.out.o4.blk g h)⟩, fun h => ?_, fun h => rfl, fun q h => ?_⟩
              · rw [hRn.out] at h; cases h
              · rw [hRn.out] at h; cases h
            | some x =>
              rw [hun] at PS HR2
              have hRn : Hid (R = rdW k (i + 1) (ws.drop (i + 1)) (ids, nums ++ [x])) := Lib.hid HR2.out
              clear HR2 hun
              go_wp2_with fail
              go_quiet (fail)
              go_wp2_with fail
              refine (PS.out _).mono ?_; rintro e w1 ⟨rfl, hb1⟩
              have ED := Lib.hid (EB.out.below hb1)
              have O3 := Lib.hid (O3.out.below hb1)
              have O4 := Lib.hid (O4.out.below hb1)
              have gs1 : w.heap.size + 1 ≤ w1.heap.size := Nat.le_trans gs hb1.size
              have v3 : w1.cell? ⟨b, 3, none⟩ = some (.slice a3 n3 c3) := cell_of ED.out.box 3
              have v4 : w1.cell? ⟨b, 4, none⟩ = some (.slice a4 n4 c4) := cell_of ED.out.box 4
              clear hb1 x3 x4 u3 u4 z1 xw hwl
              go_wp2_with (at_builtin; refine wpList_app rfl (.tmp 75) (.tmp 77) 23 rfl 2 i2 .i64 8 Tryd.underlying23 a2 a2z a2s a2b (by decide) rfl O4.out gs1 x rfl (by have := HN4.out; omega) ?_)
              intro v5 w5 k1 k2 k3 k4
              have EN := Lib.hid (ED.out.numStep (x := x) HSZ (Nat.lt_succ_of_lt hbl) gs1 k1 k2 k4)
              have x5 : w5.cell? ⟨b, 4, none⟩ = some (.slice a4 n4 c4) := cell_of (k2.keep ED.out.box (fun e => by have := O4.out.blk b e; omega)) 4
              have u5 : w5.frozen? ⟨b, 4, none⟩ = false := free_of (k2.keep ED.out.box (fun e => by have := O4.out.blk b e; omega)) 4
              obtain ⟨a5, c5, rfl⟩ := own_shape k1.row
              have hl5 := lt_of_cell x5
              clear k1 k2 k3 k4
              generalize (nums ++ [x]).length = n5 at *
              go_wp2_with fail
              go_roundw
              case rel => exact ⟨i + 1, _, _, _, _, hlt, by go_num, EN.out, by omega, by have := HN4.out; simp; omega, hRn.out⟩
              case measure => simp [intOf]; omega
        · obtain rfl : i = n := by omega
          rw [HNL.out, List.drop_length, NILR.out] at hR
          have hRn := Lib.hid hR
          clear hR hB
          go_wp2_with fail
          go_ret
          refine ⟨true, _, _, ids, nums, rfl, EB.out.box, TW.out, ⟨EB.out.o3.row, fun g h => Nat.le_trans (Nat.le_succ _) (EB.out.o3.blk g h)⟩, ⟨EB.out.o4.row, fun g h => Nat.le_trans (Nat.le_succ _) (EB.out.o4.blk g h)⟩, fun h => rfl, fun h => ?_, fun q h => ?_⟩
          · rw [hRn.out] at h; cases h
          · rw [hRn.out] at h; cases h; rfl
    · have hr2 : Hid (R = none) := Lib.hid (by rw [hr.out, if_pos hm0])
      have e4 : ((m : Int) != 0) = true := by simp; omega
      have e5 : (m != 0) = true := by simp; omega
      clear hr
      go_enter Tryd.func69, Tryd.ntmps69
      go_wp2_with fail
      go_ret
      refine ⟨false, _, _, [], [], rfl, HBX1.out, Touch.of_below W1.out _, ⟨⟨rfl, Or.inl ⟨rfl, rfl⟩⟩, fun g h => (by cases h)⟩, ⟨⟨rfl, Or.inl ⟨rfl, rfl⟩⟩, fun g h => (by cases h)⟩, fun h => ?_, fun h => rfl, fun q h => ?_⟩
      · rw [hr2.out] at h; cases h
      · rw [hr2.out] at h; cases h
end Go.Proofs.YtlmdkcpiimpniaaDoor
/- read of the program. -/
namespace Go.Proofs.YtlmdkcpiimpniaaDoor
open Go.ChangeShapes Go.WideShapes Go.ChangeAt Go.RowKit
set_option linter.unusedVariables false
set_option linter.unusedSimpArgs false

theorem set5 {w : World} {x : Nat} {cs : Array Value} {t : TypeId} (h : w.heap[x]? = some (.cells cs t (0, 0))) (hs : cs.size = 5) (v0 v1 v2 v3 v4 : Value) :
    (((((w.setCell ⟨x, 0, none⟩ v0).setCell ⟨x, 1, none⟩ v1).setCell ⟨x, 2, none⟩ v2).setCell ⟨x, 3, none⟩ v3).setCell ⟨x, 4, none⟩ v4).heap[x]? = some (.cells #[v0, v1, v2, v3, v4] t (0, 0)) := by
  have hcs : ∃ a b c d e, cs = #[a, b, c, d, e] := by
    obtain ⟨l⟩ := cs
    match l, hs with
    | [a, b, c, d, e], _ => exact ⟨a, b, c, d, e, rfl⟩
  obtain ⟨a, b, c, d, e, rfl⟩ := hcs
  have h1 := set_of (set_of (set_of (set_of (set_of h 0 v0) 1 v1) 2 v2) 3 v3) 4 v4
  simpa using h1
theorem below5 {w w0 : World} {B x : Nat} (h : Below B w0 w) (hx : B ≤ x) (v0 v1 v2 v3 v4 : Value) :
    Below B w0 (((((w.setCell ⟨x, 0, none⟩ v0).setCell ⟨x, 1, none⟩ v1).setCell ⟨x, 2, none⟩ v2).setCell ⟨x, 3, none⟩ v3).setCell ⟨x, 4, none⟩ v4) :=
  ((((h.setCell hx _).setCell hx _).setCell hx _).setCell hx _).setCell hx _
theorem out5 {w : World} {sz : Nat} {enc : Int → List Value} {t : TypeId} {B x : Nat} {v : Value} {zs : List Int} (h : OutR sz enc t w B v zs) (hx : x < B) (v0 v1 v2 v3 v4 : Value) :
    OutR sz enc t (((((w.setCell ⟨x, 0, none⟩ v0).setCell ⟨x, 1, none⟩ v1).setCell ⟨x, 2, none⟩ v2).setCell ⟨x, 3, none⟩ v3).setCell ⟨x, 4, none⟩ v4) B v zs :=
  out_set (out_set (out_set (out_set (out_set h hx 0 _) hx 1 _) hx 2 _) hx 3 _) hx 4 _
/-- What read returns. -/
def RdS (w : World) (R : Option Rp) (e : Ending) (w' : World) : Prop :=
  ∃ (o er : Int) (y : Bool) (a3 : Option Addr) (n3 c3 : Nat) (a4 : Option Addr) (n4 c4 : Nat) (ok : Bool), e = .returned (.tuple #[.agg #[.int .i64 o, .int .i64 er, .bool y, .slice a3 n3 c3, .slice a4 n4 c4], .bool ok]) ∧ Below w.heap.size w w' ∧ (R = none → ok = false) ∧
    ∀ r, R = some r → ok = true ∧ o = r.op ∧ er = r.er ∧ y = r.yes ∧ OutR 1 (encK .u64) 28 w' w.heap.size (.slice a3 n3 c3) (ns r.ids) ∧ OutR 1 (encK .i64) 2 w' w.heap.size (.slice a4 n4 c4) r.nums
theorem rds_bad {w w' : World} {R : Option Rp} {o er : Int} {y : Bool} {a3 : Option Addr} {n3 c3 : Nat} {a4 : Option Addr} {n4 c4 : Nat} (hR : R = none) (hb : Below w.heap.size w w') :
    RdS w R (.returned (.tuple #[.agg #[.int .i64 o, .int .i64 er, .bool y, .slice a3 n3 c3, .slice a4 n4 c4], .bool false])) w' :=
  ⟨o, er, y, a3, n3, c3, a4, n4, c4, false, rfl, hb, fun _ => rfl, fun r h => by rw [hR] at h; cases h⟩
set_option maxRecDepth 100000 in
set_option maxHeartbeats 8000000 in
theorem pread_no {w : World} (hE : Env w) {wb n c : Nat} {W0 : Str} (hn0 : 0 < n) (hn : n ≤ 1000000) (h0 : w.cell? ⟨wb, 0, none⟩ = some (.string ⟨W0.toArray⟩)) (R : Option Rp) (hR : R = none) (hb : findW W0 = none ∨ n < 2) :
    Calls Tryd.prog 39 #[.slice (some ⟨wb, 0, none⟩) n c] w (RdS w R) := by
  have A1 := Lib.hid (Below.alloc (Below.refl w.heap.size w) (Nat.le_refl _) (.cells #[.slice (some ⟨wb, 0, none⟩) n c] 30))
  have A2 := Lib.hid (A1.out.alloc (by simp) (.cells #[.int .i64 0, .int .i64 0, .bool false, .slice none 0 0, .slice none 0 0] 27))
  have X1 := Lib.hid (block_old (block_new w (.cells #[.slice (some ⟨wb, 0, none⟩) n c] 30)) (.cells #[.int .i64 0, .int .i64 0, .bool false, .slice none 0 0, .slice none 0 0] 27))
  have X2 : Hid (((w.alloc (.cells #[.slice (some ⟨wb, 0, none⟩) n c] 30)).alloc (.cells #[.int .i64 0, .int .i64 0, .bool false, .slice none 0 0, .slice none 0 0] 27)).heap[w.heap.size + 1]? = some (.cells #[.int .i64 0, .int .i64 0, .bool false, .slice none 0 0, .slice none 0 0] 27 (0, 0))) := Lib.hid (by
    have := block_new (w.alloc (.cells #[.slice (some ⟨wb, 0, none⟩) n c] 30)) (.cells #[.int .i64 0, .int .i64 0, .bool false, .slice none 0 0, .slice none 0 0] 27)
    rwa [show (w.alloc (.cells #[.slice (some ⟨wb, 0, none⟩) n c] 30)).heap.size = w.heap.size + 1 by simp] at this)
  have PI := Lib.hid (pindex (hE.below A2.out) hn0 (cell_of X1.out 0) (((bcell A2.out).1 wb 0 (lt_of_cell h0)).trans h0))
  have hmf : ∀ (fn : Fn) (first cap : Array Value) (w : World), (Instr.makeFunc fn first cap).run Tryd.prog w = .ok (.func fn first cap) w := fun _ _ _ _ => rfl
  have hsz : ((w.alloc (.cells #[.slice (some ⟨wb, 0, none⟩) n c] 30)).alloc (.cells #[.int .i64 0, .int .i64 0, .bool false, .slice none 0 0, .slice none 0 0] 27)).heap.size = w.heap.size + 2 := by simp
  have HI : Hid (findW W0 = none → idxW W0 = -1) := Lib.hid (fun h => by unfold idxW; rw [h])
  have HI2 : Hid (findW W0 ≠ none → 0 ≤ idxW W0 ∧ idxW W0 < 16) := Lib.hid (fun h => by
    unfold idxW
    cases hf : findW W0 with
    | none => exact absurd hf h
    | some k => have := (findW_some hf).1; simp only; omega)
  have hcase : (decide (idxW W0 < 0) = true) ∨ (decide (idxW W0 < 0) = false ∧ n < 2) := by
    by_cases hf : findW W0 = none
    · left; rw [HI.out hf]; rfl
    · right
      have := HI2.out hf
      exact ⟨by simp; omega, hb.resolve_left hf⟩
  clear HI HI2 hb
  generalize idxW W0 = ix at *
  have HR := Lib.hid hR
  clear hR hE h0
  rcases hcase with hc | ⟨hc, hn2⟩
  all_goals
    go_enter Tryd.func39, Tryd.ntmps39
    go_wp2_with fail
    refine (PI.out).mono ?_; rintro e w1 ⟨rfl, hb1⟩
    have B1 := Lib.hid (A2.out.trans (hb1.mono A2.out.size))
    have hx1 := (hb1.block _ (lt_of_block X1.out)).trans X1.out
    have hx2 := (hb1.block _ (lt_of_block X2.out)).trans X2.out
    have HX2 := Lib.hid hx2
    have hs1 : w.heap.size + 2 ≤ w1.heap.size := by have := hb1.size; rw [hsz] at this; exact this
    have x0 : w1.cell? ⟨w.heap.size, 0, none⟩ = some (.slice (some ⟨wb, 0, none⟩) n c) := cell_of hx1 0
    have y0 : w1.cell? ⟨w.heap.size + 1, 0, none⟩ = some (.int .i64 0) := cell_of hx2 0
    have y1 : w1.cell? ⟨w.heap.size + 1, 1, none⟩ = some (.int .i64 0) := cell_of hx2 1
    have y2 : w1.cell? ⟨w.heap.size + 1, 2, none⟩ = some (.bool false) := cell_of hx2 2
    have y3 : w1.cell? ⟨w.heap.size + 1, 3, none⟩ = some (.slice none 0 0) := cell_of hx2 3
    have y4 : w1.cell? ⟨w.heap.size + 1, 4, none⟩ = some (.slice none 0 0) := cell_of hx2 4
    have qf : ∀ i, w1.frozen? ⟨w.heap.size + 1, i, none⟩ = false := fun i => free_of hx2 i
    clear PI hb1 hx1 hx2 hsz X1 X2
    go_wp2_with fail
    have h7 := set5 HX2.out rfl (.int .i64 0) (.int .i64 0) (.bool false) (.slice none 0 0) (.slice none 0 0)
    have B7 := Lib.hid (below5 (x := w.heap.size + 1) B1.out (by omega) (.int .i64 0) (.int .i64 0) (.bool false) (.slice none 0 0) (.slice none 0 0))
    clear y0 y1 y2 y3 y4 qf x0
    generalize ((((w1.setCell ⟨w.heap.size + 1, 0, none⟩ (.int .i64 0)).setCell ⟨w.heap.size + 1, 1, none⟩ (.int .i64 0)).setCell ⟨w.heap.size + 1, 2, none⟩ (.bool false)).setCell ⟨w.heap.size + 1, 3, none⟩ (.slice none 0 0)).setCell ⟨w.heap.size + 1, 4, none⟩ (.slice none 0 0) = W6 at *
    have y0 : W6.cell? ⟨w.heap.size + 1, 0, none⟩ = some (.int .i64 0) := cell_of h7 0
    have y1 : W6.cell? ⟨w.heap.size + 1, 1, none⟩ = some (.int .i64 0) := cell_of h7 1
    have y2 : W6.cell? ⟨w.heap.size + 1, 2, none⟩ = some (.bool false) := cell_of h7 2
    have y3 : W6.cell? ⟨w.heap.size + 1, 3, none⟩ = some (.slice none 0 0) := cell_of h7 3
    have y4 : W6.cell? ⟨w.heap.size + 1, 4, none⟩ = some (.slice none 0 0) := cell_of h7 4
    exact bodyPost_ret (v := .tuple #[.agg #[.int .i64 0, .int .i64 0, .bool false, .slice none 0 0, .slice none 0 0], .bool false]) (by simp [results, Tryd.results39, go_sem, y0, y1, y2, y3, y4]) rfl (rds_bad HR.out B7.out)
end Go.Proofs.YtlmdkcpiimpniaaDoor

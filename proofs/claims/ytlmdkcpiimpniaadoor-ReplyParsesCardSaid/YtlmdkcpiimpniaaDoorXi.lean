/- Parse of the document. -/
import Derived.Test.YtlmdkcpiimpniaaDoorXh
import Derived.Test.YtlmdkcpiimpniaaDoorWe
import Derived.StillTailTactics
import Derived.IntWalk
namespace Go.Proofs.YtlmdkcpiimpniaaDoor
open Go.ChangeShapes Go.WideShapes Go.ChangeAt Go.RowKit
set_option linter.unusedVariables false
set_option linter.unusedSimpArgs false

theorem sl_words {w : World} {g off n c : Nat} {ws : List Str} (h : IsSl 1 encS w (some ⟨g, off, none⟩) n c ws) {i : Nat} (hi : i < n) : w.cell? ⟨g, off + i, none⟩ = some (.string ⟨(ws.getD i []).toArray⟩) := by
  obtain ⟨_, _, e, h1⟩ := sl_str h (i := i) (by rw [← h.hlen]; exact hi)
  cases e
  exact h1
def boxP (k er : Int) (y : Bool) (v3 v4 : Value) : Obj := .cells #[.int .i64 k, .int .i64 er, .bool y, v3, v4] 27
def OpRel (w1 : World) (b : Nat) (W : Str) (v6 : Value) (wr : World) : Prop :=
  ∃ k : Nat, k ≤ 16 ∧ v6 = .int .i64 (k : Int) ∧ wr.heap[b]? = some (.cells #[.int .i64 (opv W k), .int .i64 0, .bool false, .slice none 0 0, .slice none 0 0] 27 (0, 0)) ∧ Below w1.heap.size w1 wr
theorem opv_yes {W : Str} {k : Nat} (h : kwS k = W) : opv W (k + 1) = (k : Int) := if_pos h
theorem opv_not {W : Str} {k : Nat} (h : ¬ kwS k = W) : opv W (k + 1) = opv W k := if_neg h
theorem line_any {w : World} {q : Rp} {a a' : Option Addr} {c c' : Nat} (h : LsR w q a c a' c') (hI : RpIn q) (h1 : q.ids.length ≤ 1000000) (h2 : q.nums.length ≤ 1000000) :
    Calls Tryd.prog 24 #[.agg #[.int .i64 q.op, .int .i64 q.er, .bool q.yes, .slice a q.ids.length c, .slice a' q.nums.length c']] w fun e w' => e = .returned (.tuple #[.string ⟨(lineZ q).toArray⟩, .int .i64 (chk q)]) ∧ Below w.heap.size w w' := rline h hI h1 h2
/-- An append of one number, which lies in a cell of a later world, to a row of the call's own, as a step of a region that draws. -/
theorem step_app {P : Program} {wr wx : World} {ops : Array Oper} {o : Oper} {a : Act} {K : Act → World → Prop} {Q : Exit → Act → World → Prop} {E : Prop} (hgd : o.guard = none) (s x : Operand) (t : TypeId)
    (ho : o.op = .call { callee := .builtin .append, args := #[s, x], argTypes := #[t, t] })
    (e : TypeId) (i : TypeInfo) (k : IntKind) (bytes : Nat) (ht : P.underlying t = some (.slice e)) (hi : P.info? e = some i) (hz : i.zero = some (.int k 0))
    (hsize : i.size = 1) (hby : i.bytes = bytes) (hb8 : bytes ≤ 8)
    {B : Nat} {v : Value} {zs : List Int} (hs : a.eval s = v) (hO : OutR 1 (encK k) e wr B v zs) (hB : B ≤ wr.heap.size) (hbx : Below wr.heap.size wr wx) (y : Int) {H : Nat} (hc : wx.cell? ⟨H, 0, none⟩ = some (.int k y))
    (hx : a.eval x = .slice (some ⟨H, 0, none⟩) 1 1) (hlen : zs.length + 1 ≤ 1099511627776)
    (h : ∀ v' w', OutR 1 (encK k) e w' B v' (zs ++ [y]) → Touch (fun b => v.ownBlock = some b) wr w' → Below B wr w' → (∀ g, v'.ownBlock = some g → v.ownBlock = some g ∨ wr.heap.size ≤ g) → K (a.put o.dst v') w') :
    if Region.wanted o (yielded ops a.tmps) = true then Oper.wp P o a wx K Q else E := by
  have hw : Region.wanted o (yielded ops a.tmps) = true := by simp [Region.wanted, hgd]
  rw [if_pos hw]
  obtain ⟨v1, w1, hr, hr1, hg1, hn1⟩ := run_append_slice (P := P) wx t o.type e i (.int k 0) 1 bytes ht hi hz hsize hby rfl (by decide) v zs.length (flat (encK k) zs) (hO.below hbx).row (some ⟨H, 0, none⟩) 1 1 (encK k y) rfl (fun h => by cases h) (fun a ha => by
    cases ha
    intro j u hj
    cases j with
    | zero => simp [encK] at hj; rw [addr_add, ← hj]; exact hc
    | succ j => simp [encK] at hj) (encK_one k y) (by unfold maxLen; omega) (by have := Nat.mul_le_mul (Nat.le_refl (zs.length + 1)) hb8; omega)
  obtain ⟨h1, h2, h3, h4⟩ := hO.grow (ys := [y]) hbx hB (by simpa [flat] using hr1) hg1 hn1
  unfold Oper.wp execOp
  simp only [ho, resolve, invoke, builtin, Sem.run_bind, Sem.run_pure, Result.andThen_ok, List.map_toArray, List.map_cons, List.map_nil, hs, hx, hr]
  exact h v1 w1 h1 h2 h3 h4
theorem app_new (wr : World) (o : Obj) : Below wr.heap.size wr (wr.alloc o).drew := (Below.alloc (Below.refl _ _) (Nat.le_refl _) o).drew
theorem app_cell (wr : World) (v : Value) (t : TypeId) : (wr.alloc (.cells #[v] t)).drew.cell? ⟨wr.heap.size, 0, none⟩ = some v := cell_of (block_drew (block_new wr (.cells #[v] t))) 0
theorem w64_wrap (n : Int) : RowKit.wrap64 n = w64 n := by unfold w64 RowKit.wrap64; rfl
theorem i64_w64 (n : Int) : IntKind.i64.wrap n = w64 n := (IntWalk.i64_left n).trans (w64_wrap n)
theorem ix_minus (l : Str) (W : World) : (Instr.index 9 (.string ⟨(45 :: l).toArray⟩) (.int .i64 0)).run Tryd.prog W = .ok (.int .u8 45) W := by
  have h := run_ix (45 :: l) (i := 0) (by simp) W
  simpa using h
theorem lsG_id {I M i p : Nat} {ws : List Str} {ids : List Nat} {nums : List Int} (hp : p < ws.length) (h : i % (I + M) < I) : lsG I M i (ws.drop p) (ids, nums) = lsG I M (i + 1) (ws.drop (p + 1)) (ids ++ [val 0 (ws.getD p [])], nums) := by rw [wordsD hp, lsG_cons, if_pos h]
theorem lsG_num {I M i p : Nat} {ws : List Str} {ids : List Nat} {nums : List Int} (hp : p < ws.length) (h : ¬ i % (I + M) < I) : lsG I M i (ws.drop p) (ids, nums) = lsG I M (i + 1) (ws.drop (p + 1)) (ids, nums ++ [sval (ws.getD p [])]) := by rw [wordsD hp, lsG_cons, if_neg h]
theorem lsG_end {I M i p : Nat} {ws : List Str} {q : List Nat × List Int} (hp : ws.length ≤ p) : lsG I M i (ws.drop p) q = q := by rw [List.drop_of_length_le hp]; rfl
theorem mod_at {a S j : Nat} (h : a % S = 0) (hj : j < S) : (a + j) % S = j := by rw [Nat.add_mod, h, Nat.zero_add, Nat.mod_mod, Nat.mod_eq_of_lt hj]
theorem mod_round {a S : Nat} (h : a % S = 0) : (a + S) % S = 0 := by rw [Nat.add_mod_right]; exact h
/-- The loop over the words, at its head. -/
def PoRel (wS : World) (b K : Nat) (y : Bool) (I M at0 n : Nat) (RES : List Nat × List Int) (ws : List Str) (v7 : Value) (wr : World) : Prop :=
  ∃ p i v3 v4 ids nums, p = at0 + i ∧ p ≤ n ∧ v7 = .int .i64 ((p : Nat) : Int) ∧ EnB wS wS.heap.size b K y v3 v4 ids nums wr ∧ RES = lsG I M i (ws.drop p) (ids, nums) ∧ (i % (I + M) = 0 ∨ p = n) ∧ ids.length ≤ i ∧ nums.length ≤ i
/-- The loop over the unsigned numbers of a round. -/
def PiRel (wS : World) (b K : Nat) (y : Bool) (I M p0 i0 n : Nat) (RES : List Nat × List Int) (ws : List Str) (v7 v10 : Value) (wr : World) : Prop :=
  ∃ p j v3 v4 ids nums, p = p0 + j ∧ j ≤ I ∧ p ≤ n ∧ v7 = .int .i64 ((p : Nat) : Int) ∧ v10 = .int .i64 ((j : Nat) : Int) ∧ EnB wS wS.heap.size b K y v3 v4 ids nums wr ∧ RES = lsG I M (i0 + j) (ws.drop p) (ids, nums) ∧ ids.length ≤ i0 + j ∧ nums.length ≤ i0 + j
/-- The loop over the signed numbers of a round. -/
def PnRel (wS : World) (b K : Nat) (y : Bool) (I M p1 i1 n : Nat) (RES : List Nat × List Int) (ws : List Str) (v7 v11 : Value) (wr : World) : Prop :=
  ∃ p j v3 v4 ids nums, p = p1 + j ∧ j ≤ M ∧ p ≤ n ∧ v7 = .int .i64 ((p : Nat) : Int) ∧ v11 = .int .i64 ((j : Nat) : Int) ∧ EnB wS wS.heap.size b K y v3 v4 ids nums wr ∧ RES = lsG I M (i1 + j) (ws.drop p) (ids, nums) ∧ ids.length ≤ i1 + j ∧ nums.length ≤ i1 + j
/-- What stands in the box behind the words. -/
def PbRel (w1 : World) (K : Nat) (ER : Int) (YB : Bool) (IDS : List Nat) (NUMS : List Int) (wx : World) : Prop :=
  ∃ a3 c3 a4 c4, wx.heap[w1.heap.size]? = some (.cells #[.int .i64 (K : Int), .int .i64 ER, .bool YB, .slice a3 IDS.length c3, .slice a4 NUMS.length c4] 27 (0, 0)) ∧ OutR 1 (encK .u64) 28 wx w1.heap.size (.slice a3 IDS.length c3) (ns IDS) ∧ OutR 1 (encK .i64) 2 wx w1.heap.size (.slice a4 NUMS.length c4) NUMS ∧ Below w1.heap.size w1 wx
theorem pb_nil {w1 wx : World} {K : Nat} {ER : Int} {YB : Bool} {IDS : List Nat} {NUMS : List Int} (h1 : IDS = []) (h2 : NUMS = []) (hb : wx.heap[w1.heap.size]? = some (.cells #[.int .i64 (K : Int), .int .i64 ER, .bool YB, .slice none 0 0, .slice none 0 0] 27 (0, 0))) (hB : Below w1.heap.size w1 wx) : PbRel w1 K ER YB IDS NUMS wx := by
  subst h1 h2
  exact ⟨none, 0, none, 0, hb, ⟨⟨rfl, Or.inl ⟨rfl, rfl⟩⟩, fun g h => by cases h⟩, ⟨⟨rfl, Or.inl ⟨rfl, rfl⟩⟩, fun g h => by cases h⟩, hB⟩
theorem pb_end {w1 wS wr : World} {K : Nat} {y : Bool} {v3 v4 : Value} {ids : List Nat} {nums : List Int} {IDS : List Nat} {NUMS : List Int} (h : EnB wS wS.heap.size w1.heap.size K y v3 v4 ids nums wr) (hB : Below w1.heap.size w1 wS) (he : (ids, nums) = (IDS, NUMS)) : PbRel w1 K 0 y IDS NUMS wr := by
  cases he
  obtain ⟨a3, c3, rfl⟩ := own_shape h.o3.row
  obtain ⟨a4, c4, rfl⟩ := own_shape h.o4.row
  refine ⟨a3, c3, a4, c4, ?_, ?_, ⟨h.o4.row, fun g hg => Nat.le_trans hB.size (h.o4.blk g hg)⟩, ?_⟩
  · have := h.box
    unfold boxR at this
    rwa [ns_len] at this
  · have : OutR 1 (encK .u64) 28 wr w1.heap.size _ _ := ⟨h.o3.row, fun g hg => Nat.le_trans hB.size (h.o3.blk g hg)⟩
    rwa [ns_len] at this
  · exact hB.trans (h.touch.below hB.size (fun k hk e => by omega))
theorem pas_ok2 {w w' : World} {R : Option Rp} {k er : Int} {y : Bool} {ids : List Nat} {nums : List Int} {n3 n4 : Nat} (h : R = some ⟨k, er, y, ids, nums⟩) (e3 : ids.length = n3) (e4 : nums.length = n4) {a3 : Option Addr} {c3 : Nat} {a4 : Option Addr} {c4 : Nat} {B : Nat} (h3 : OutR 1 (encK .u64) 28 w' B (.slice a3 n3 c3) (ns ids)) (h4 : OutR 1 (encK .i64) 2 w' B (.slice a4 n4 c4) nums) (hb : Below w.heap.size w w') :
    PaS w R (.returned (.tuple #[.agg #[.int .i64 k, .int .i64 er, .bool y, .slice a3 n3 c3, .slice a4 n4 c4], .int .i64 0])) w' := by
  subst e3 e4
  exact pas_ok (r := ⟨k, er, y, ids, nums⟩) h h3 h4 hb
theorem ls_out {V : World} {q : Rp} {a3 : Option Addr} {n3 c3 : Nat} {a4 : Option Addr} {n4 c4 : Nat} {B B' : Nat} (e3 : q.ids.length = n3) (e4 : q.nums.length = n4) (h3 : OutR 1 (encK .u64) 28 V B (.slice a3 n3 c3) (ns q.ids)) (h4 : OutR 1 (encK .i64) 2 V B' (.slice a4 n4 c4) q.nums) : LsR V q a3 c3 a4 c4 := by
  subst e3 e4
  refine ⟨?_, ?_⟩
  · exact IsSl.of_own (encK_len _) (by have := h3.row; rwa [ns_len] at this) (ns_len _)
  · exact IsSl.of_own (encK_len _) h4.row rfl
theorem nil_ids (w : World) (B : Nat) : OutR 1 (encK .u64) 28 w B (.slice none 0 0) (ns []) := ⟨⟨rfl, Or.inl ⟨rfl, rfl⟩⟩, fun g h => by cases h⟩
theorem nil_nums (w : World) (B : Nat) : OutR 1 (encK .i64) 2 w B (.slice none 0 0) [] := ⟨⟨rfl, Or.inl ⟨rfl, rfl⟩⟩, fun g h => by cases h⟩
theorem pick_yes {s : Str} {q : Rp} (h1 : chk q = 0) (h2 : lineS q = s) : pick s q = some q := if_pos ⟨h1, h2⟩
theorem pick_not {s : Str} {q : Rp} (h : ¬ (chk q = 0 ∧ lineS q = s)) : pick s q = none := if_neg h
theorem round_end {at0 i j j3 p p2 p3 I M n : Nat} (hpi : p = at0 + i) (hp2 : p2 = p + j) (hp3 : p3 = p2 + j3) (him : i % (I + M) = 0 ∨ p = n) (hlt : p < n) (hx : j = I ∨ p2 = n) (hy : j3 = M ∨ p3 = n) (hpn2 : p2 ≤ n) (hpn3 : p3 ≤ n) (hS : 0 < I + M) :
    ((i + j + j3) % (I + M) = 0 ∨ p3 = n) ∧ p < p3 := by
  rcases hy with hy | hy
  · rcases hx with hx | hx
    · rcases him with him | him
      · subst hx hy
        refine ⟨Or.inl ?_, by omega⟩
        rw [Nat.add_assoc]
        exact mod_round him
      · omega
    · exact ⟨Or.inr (by omega), by omega⟩
  · exact ⟨Or.inr hy, by omega⟩
theorem not_minus {W : Str} (hm : ¬ ∃ l, W = 45 :: l) : ∀ (hw : 0 < W.length), W[0] ≠ 45 := by
  match W, hm with
  | [], _ => intro hw; cases hw
  | c :: l, hm => intro hw e; exact hm ⟨l, congrArg (· :: l) e⟩
theorem sval_minus {l : Str} : sval (45 :: l) = w64 (-(w64 (val 0 l))) := by
  show (if (45 : UInt8) = 45 then w64 (-(w64 (val 0 l))) else w64 (val 0 (45 :: l))) = _
  rw [if_pos rfl]
theorem sval_plus {W : Str} (h : ∀ (hw : 0 < W.length), W[0] ≠ 45) : sval W = w64 (val 0 W) := by
  match W, h with
  | [], _ => rfl
  | c :: l, h =>
    have hc : c ≠ 45 := h (by simp)
    show (if c = 45 then w64 (-(w64 (val 0 l))) else w64 (val 0 (c :: l))) = _
    rw [if_neg hc]
def RoAt (w w1 : World) (c : Array Value) (a : Nat) (v7 : Value) (wx : World) : Prop := v7 = .int .i64 (a : Int) ∧ wx.heap[w1.heap.size]? = some (.cells c 27 (0, 0)) ∧ wx.heap[w.heap.size]? = some (.cells #[.int .i64 0, .int .i64 0, .bool false, .slice none 0 0, .slice none 0 0] 27 (0, 0)) ∧ Below w.heap.size w wx
end Go.Proofs.YtlmdkcpiimpniaaDoor

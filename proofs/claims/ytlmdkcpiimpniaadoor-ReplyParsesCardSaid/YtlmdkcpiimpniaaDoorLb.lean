/- A row of bytes that the call owns, behind []byte of a string too (such a row bears a mark behind its last cell): appends of strings and of bytes; read as a string. -/
import Derived.Test.YtlmdkcpiimpniaaDoorZa
import Derived.ArgAppend
import Derived.Lib.ItoaLen
namespace Go.Proofs.YtlmdkcpiimpniaaDoor
open Go.ChangeShapes Go.WideShapes Go.ChangeAt Go.RowKit
set_option linter.unusedVariables false
set_option linter.unusedSimpArgs false

theorem heap_setCells {g : Nat} {t : TypeId} {fz : Nat × Nat} : ∀ (vs : List Value) (n : Nat) (cur : Array Value) (w : World), w.heap[g]? = some (.cells cur t fz) → n + vs.length ≤ cur.size →
    ∃ cur', (w.setCells g n vs).heap[g]? = some (.cells cur' t fz) ∧ cur'.size = cur.size ∧ cur'.toList.take (n + vs.length) = cur.toList.take n ++ vs
  | [], n, cur, w, h, _ => ⟨cur, h, rfl, by simp⟩
  | v :: vs, n, cur, w, h, hl => by
    have hl' : n + (vs.length + 1) ≤ cur.size := hl
    obtain ⟨cur', h1, h2, h3⟩ := heap_setCells vs (n + 1) (cur.setIfInBounds n v) (w.setCell ⟨g, n, none⟩ v) (set_of h n v) (by simp; omega)
    refine ⟨cur', h1, by rw [h2]; simp, ?_⟩
    have e : n + (v :: vs).length = n + 1 + vs.length := by rw [List.length_cons]; omega
    rw [e, h3, Array.toList_setIfInBounds, List.take_succ_eq_append_getElem (by simp; omega), List.getElem_set_self, List.take_set_of_le (Nat.le_refl _)]
    simp
theorem below_setCells {B g : Nat} (hB : B ≤ g) : ∀ (vs : List Value) (n : Nat) (w w0 : World), Below B w0 w → Below B w0 (w.setCells g n vs)
  | [], _, _, _, h => h
  | v :: vs, n, w, w0, h => below_setCells hB vs (n + 1) (w.setCell ⟨g, n, none⟩ v) w0 (h.setCell hB v)
/-- The bytes l, in a row of the call's own (or none yet). -/
def OutM (w : World) (B : Nat) (v : Value) (l : Str) : Prop :=
  (v = .slice none 0 0 ∧ l = []) ∨ ∃ g cap cur fz, v = .slice (some ⟨g, 0, none⟩) l.length cap ∧ B ≤ g ∧ w.heap[g]? = some (.cells cur 5 fz) ∧ (fz = (0, 0) ∨ cur.size ≤ fz.1) ∧ l.length ≤ cap ∧ cap ≤ maxLen ∧ cur.size = cap ∧ cur.toList.take l.length = Lib.byteCells l
theorem OutM.shape {w : World} {B : Nat} {v : Value} {l : Str} (h : OutM w B v l) : ∃ a n c, v = .slice a n c := by
  rcases h with ⟨rfl, _⟩ | ⟨g, cap, cur, fz, rfl, _⟩
  · exact ⟨_, _, _, rfl⟩
  · exact ⟨_, _, _, rfl⟩
theorem OutM.below {w w' : World} {B : Nat} {v : Value} {l : Str} (h : OutM w B v l) (hb : Below w.heap.size w w') : OutM w' B v l := by
  rcases h with h | ⟨g, cap, cur, fz, h1, h2, h3, h4⟩
  · exact Or.inl h
  · exact Or.inr ⟨g, cap, cur, fz, h1, h2, (hb.block g (lt_of_block h3)).trans h3, h4⟩
theorem bytes_len (l : Str) : (Lib.byteCells l).length = l.length := by simp [Lib.byteCells]
theorem bytes_app (a b : Str) : Lib.byteCells (a ++ b) = Lib.byteCells a ++ Lib.byteCells b := by simp [Lib.byteCells]
theorem bytes_one (l : Str) : ∀ u ∈ Lib.byteCells l, u.oneCell' = true := fun u hu => by
  simp only [Lib.byteCells, List.mem_map] at hu; obtain ⟨b, _, rfl⟩ := hu; rfl
theorem fz_free {w : World} {g : Nat} {cur : Array Value} {t : TypeId} {fz : Nat × Nat} (h : w.heap[g]? = some (.cells cur t fz)) (hf : fz = (0, 0) ∨ cur.size ≤ fz.1) {j : Nat} (hj : j < cur.size) : w.frozen? ⟨g, j, none⟩ = false := by
  obtain ⟨lo, hi⟩ := fz
  simp only [World.frozen?, h, Bool.and_eq_false_iff, decide_eq_false_iff_not]
  rcases hf with hf | hf
  · cases hf; right; omega
  · left; simp only at hf; omega
theorem OutM.holds {w : World} {g n cap : Nat} {cur : Array Value} {fz : Nat × Nat} {l : Str} (h : w.heap[g]? = some (.cells cur 5 fz)) (ht : cur.toList.take l.length = Lib.byteCells l) : ∀ j u, (Lib.byteCells l)[j]? = some u → w.cell? ((⟨g, 0, none⟩ : Addr).add j) = some u := fun j u hu => by
  rw [addr_add, cell_of h, Nat.zero_add]
  rw [← ht, List.getElem?_take] at hu
  split at hu
  · simpa using hu
  · cases hu
/-- A string's bytes are appended. -/
theorem run_mStr {w : World} (ty : TypeId) {B : Nat} {v : Value} {l : Str} (h : OutM w B v l) (hB : B ≤ w.heap.size) (s : Str) (hlen : l.length + s.length ≤ 100000000) :
    ∃ v' w', (Builtin.append_ #[31, 9] ty #[v, .string ⟨s.toArray⟩]).run Tryd.prog w = .ok v' w' ∧ OutM w' B v' (l ++ s) ∧ Below B w w' := by
  obtain ⟨i0, hi, hz0, hz1, hz2⟩ := info_parts info5
  have hsz : (⟨s.toArray⟩ : ByteArray).size = s.length := by simp [ByteArray.size]
  rcases h with ⟨rfl, rfl⟩ | ⟨g, cap, cur, fz, rfl, hBg, hg, hfz, hnc, hcm, hcs, htake⟩
  · obtain ⟨v', w', h1, h2, h3, _⟩ := Lib.run_append_own_string (P := Tryd.prog) w B 31 9 ty 5 i0 Tryd.underlying31 Tryd.underlying9 hi hz0 hz1 hz2 (.slice none 0 0) 0 [] (World.ownsRow_nil w B 5 1) ⟨s.toArray⟩ (by unfold maxLen; omega) (by omega) hB
    rw [hsz, strCells_eq, Nat.zero_add, List.nil_append] at h2
    refine ⟨v', w', h1, ?_, (Below.refl B w).grown h3 hB (fun k hk => by cases hk)⟩
    rw [List.nil_append]
    rcases h2.2 with ⟨h4, h5⟩ | ⟨g, cap, cur, hv, hbg, hg, k1, k2, k3, k4⟩
    · exact Or.inl ⟨h4, List.eq_nil_of_length_eq_zero h5⟩
    · exact Or.inr ⟨g, cap, cur, (0, 0), hv, hbg, hg, Or.inl rfl, k1, k2, by simpa using k3, by simpa using k4⟩
  · by_cases hroom : l.length + s.length ≤ cap
    · have hf := Lib.run_firstCells_string (P := Tryd.prog) w 1 ⟨s.toArray⟩
      rw [hsz, strCells_eq] at hf
      have hst := run_storeCells_cells (P := Tryd.prog) g l.length (Lib.byteCells s) 0 w (fun j hj => by
        rw [bytes_len] at hj
        rw [Nat.add_zero, cell_of hg]
        simp [show l.length + j < cur.size by omega]) (fun j hj => by
        rw [bytes_len] at hj
        rw [Nat.add_zero]
        exact fz_free hg hfz (by omega)) (bytes_one s)
      rw [Nat.add_zero] at hst
      have hr : (Builtin.append_ #[31, 9] ty #[.slice (some ⟨g, 0, none⟩) l.length cap, .string ⟨s.toArray⟩]).run Tryd.prog w = .ok (.slice (some ⟨g, 0, none⟩) (l.length + s.length) cap) (w.setCells g l.length (Lib.byteCells s)) := by
        simp [Builtin.append_, run_underlying Tryd.underlying31, run_underlying Tryd.underlying9, sizeOf, typeInfo, hi, hz1, Builtin.lenOf, hsz, hroom, hf, Addr.add_lit, hst]
      obtain ⟨cur', k1, k2, k3⟩ := heap_setCells (Lib.byteCells s) l.length cur w hg (by rw [bytes_len]; omega)
      rw [bytes_len] at k3
      refine ⟨_, _, hr, Or.inr ⟨g, cap, cur', fz, by rw [List.length_append], hBg, k1, by rw [k2]; exact hfz, by rw [List.length_append]; exact hroom, hcm, by rw [k2]; exact hcs, ?_⟩, below_setCells hBg _ _ _ _ (Below.refl _ _)⟩
      rw [List.length_append, k3, htake, bytes_app]
    · have hr := Lib.run_append_grow_string (P := Tryd.prog) w 31 9 ty 5 i0 (.int .u8 0) Tryd.underlying31 Tryd.underlying9 hi hz0 ⟨g, 0, none⟩ l.length cap (Lib.byteCells l) (by rw [hz1, bytes_len, Nat.mul_one]) (OutM.holds hg htake (n := 0) (cap := 0)) ⟨s.toArray⟩ (by rw [hsz]; omega) (by rw [hsz]; omega) (by rw [hz2]; exact growslice_fits (by rw [hsz]; omega) (by rw [hsz]; omega))
      rw [hsz, strCells_eq] at hr
      have hge := grownCap_ge w (l.length + s.length) cap 5
      have hcm2 : grownCap w (l.length + s.length) cap 5 ≤ maxLen := grownCap_le_maxLen w (l.length + s.length) cap 5 (by unfold maxLen; omega)
      refine ⟨_, _, hr, Or.inr ⟨w.heap.size, _, _, (0, 0), by rw [List.length_append], hB, heap_alloc_new w.drew _, Or.inl rfl, by rw [List.length_append]; exact hge, hcm2, ?_, ?_⟩, (Below.drew (Below.refl B w)).alloc hB _⟩
      · have hz1 : (Value.int IntKind.u8 0).cells.size = 1 := rfl
        simp only [Array.size_append, List.size_toArray, size_zeroCells, hz1, bytes_len]
        omega
      · simp only [Array.toList_append, List.append_assoc]
        rw [← List.append_assoc, ← bytes_app, ← bytes_len (l ++ s)]
        exact List.take_left
/-- Bytes that lie in memory are appended. -/
theorem run_mBytes {w : World} (ty : TypeId) {B : Nat} {v : Value} {l : Str} (h : OutM w B v l) (hB : B ≤ w.heap.size) (s : Str) {a : Addr} {c : Nat} (hn : ∀ j u, (Lib.byteCells s)[j]? = some u → w.cell? (a.add j) = some u) (hlen : l.length + s.length ≤ 100000000) :
    ∃ v' w', (Builtin.append_ #[31, 31] ty #[v, .slice (some a) s.length c]).run Tryd.prog w = .ok v' w' ∧ OutM w' B v' (l ++ s) ∧ Below B w w' := by
  obtain ⟨i0, hi, hz0, hz1, hz2⟩ := info_parts info5
  rcases h with ⟨rfl, rfl⟩ | ⟨g, cap, cur, fz, rfl, hBg, hg, hfz, hnc, hcm, hcs, htake⟩
  · obtain ⟨v', w', h1, h2, h3, _⟩ := run_append_own (P := Tryd.prog) w B 31 ty 5 i0 (.int .u8 0) 1 1 Tryd.underlying31 hi hz0 hz1 hz2 rfl (by decide) (.slice none 0 0) 0 [] (World.ownsRow_nil w B 5 1) a s.length c (Lib.byteCells s) (by rw [bytes_len, Nat.mul_one]) hn (bytes_one s) (by unfold maxLen; omega) (by omega) hB
    rw [Nat.zero_add, List.nil_append] at h2
    refine ⟨v', w', h1, ?_, (Below.refl B w).grown h3 hB (fun k hk => by cases hk)⟩
    rw [List.nil_append]
    rcases h2.2 with ⟨h4, h5⟩ | ⟨g, cap, cur, hv, hbg, hg, k1, k2, k3, k4⟩
    · exact Or.inl ⟨h4, List.eq_nil_of_length_eq_zero h5⟩
    · exact Or.inr ⟨g, cap, cur, (0, 0), hv, hbg, hg, Or.inl rfl, k1, k2, by simpa using k3, by simpa using k4⟩
  · by_cases hroom : l.length + s.length ≤ cap
    · have hr := run_append_room_cells (P := Tryd.prog) w 31 ty 5 i0 Tryd.underlying31 hi g 0 l.length cap a s.length c (Lib.byteCells s) (by rw [hz1, bytes_len, Nat.mul_one]) hn (bytes_one s) hroom (fun j hj => by
        rw [bytes_len] at hj
        rw [hz1, Nat.mul_one, Nat.zero_add, cell_of hg]
        simp [show l.length + j < cur.size by omega]) (fun j hj => by
        rw [bytes_len] at hj
        rw [hz1, Nat.mul_one, Nat.zero_add]
        exact fz_free hg hfz (by omega))
      rw [hz1, Nat.mul_one, Nat.zero_add] at hr
      obtain ⟨cur', k1, k2, k3⟩ := heap_setCells (Lib.byteCells s) l.length cur w hg (by rw [bytes_len]; omega)
      rw [bytes_len] at k3
      refine ⟨_, _, hr, Or.inr ⟨g, cap, cur', fz, by rw [List.length_append], hBg, k1, by rw [k2]; exact hfz, by rw [List.length_append]; exact hroom, hcm, by rw [k2]; exact hcs, ?_⟩, below_setCells hBg _ _ _ _ (Below.refl _ _)⟩
      rw [List.length_append, k3, htake, bytes_app]
    · have hr := run_append_grow (P := Tryd.prog) w 31 ty 5 i0 (.int .u8 0) Tryd.underlying31 hi hz0 ⟨g, 0, none⟩ l.length cap (Lib.byteCells l) (by rw [hz1, bytes_len, Nat.mul_one]) (OutM.holds hg htake (n := 0) (cap := 0)) a s.length c (Lib.byteCells s) (by rw [hz1, bytes_len, Nat.mul_one]) hn (by omega) (by omega) (by rw [hz2]; exact growslice_fits (by omega) (by omega))
      have hge := grownCap_ge w (l.length + s.length) cap 5
      have hcm2 : grownCap w (l.length + s.length) cap 5 ≤ maxLen := grownCap_le_maxLen w (l.length + s.length) cap 5 (by unfold maxLen; omega)
      refine ⟨_, _, hr, Or.inr ⟨w.heap.size, _, _, (0, 0), by rw [List.length_append], hB, heap_alloc_new w.drew _, Or.inl rfl, by rw [List.length_append]; exact hge, hcm2, ?_, ?_⟩, (Below.drew (Below.refl B w)).alloc hB _⟩
      · have hz1 : (Value.int IntKind.u8 0).cells.size = 1 := rfl
        simp only [Array.size_append, List.size_toArray, size_zeroCells, hz1, bytes_len]
        omega
      · simp only [Array.toList_append, List.append_assoc]
        rw [← List.append_assoc, ← bytes_app, ← bytes_len (l ++ s)]
        exact List.take_left
set_option maxRecDepth 10000 in
theorem wpList_mStr {w : World} {ops : Array Oper} {rest : List Oper} {o : Oper} {a : Act} {Q : Exit → Act → World → Prop} (hgd : o.guard = none) (sl x : Operand)
    (ho : o.op = .call { callee := .builtin .append, args := #[sl, x], argTypes := #[31, 9] })
    {B : Nat} {v : Value} {l : Str} (hs : a.eval sl = v) (hO : OutM w B v l) (hB : B ≤ w.heap.size) (s : Str) (hx : a.eval x = .string ⟨s.toArray⟩) (hlen : l.length + s.length ≤ 100000000)
    (h : ∀ v' w', OutM w' B v' (l ++ s) → Below B w w' → wpList Tryd.prog ops Q rest (a.put o.dst v') w') :
    wpList Tryd.prog ops Q (o :: rest) a w := by
  refine wpList_plain hgd fun K hK => ?_
  obtain ⟨v', w', hr, h2, h3⟩ := run_mStr (w := w) o.type hO hB s hlen
  unfold Oper.wp execOp
  simp only [ho, resolve, invoke, builtin, Sem.run_bind, Sem.run_pure, Result.andThen_ok, List.map_toArray, List.map_cons, List.map_nil, hs, hx, hr]
  exact hK _ _ (h v' w' h2 h3)
set_option maxRecDepth 10000 in
theorem wpList_mBytes {w : World} {ops : Array Oper} {rest : List Oper} {o : Oper} {a : Act} {Q : Exit → Act → World → Prop} (hgd : o.guard = none) (sl x : Operand)
    (ho : o.op = .call { callee := .builtin .append, args := #[sl, x], argTypes := #[31, 31] })
    {B : Nat} {v : Value} {l : Str} (hs : a.eval sl = v) (hO : OutM w B v l) (hB : B ≤ w.heap.size) (s : Str) {b : Addr} {m c : Nat} (hx : a.eval x = .slice (some b) m c) (hm : m = s.length) (hn : ∀ j u, (Lib.byteCells s)[j]? = some u → w.cell? (b.add j) = some u) (hlen : l.length + s.length ≤ 100000000)
    (h : ∀ v' w', OutM w' B v' (l ++ s) → Below B w w' → wpList Tryd.prog ops Q rest (a.put o.dst v') w') :
    wpList Tryd.prog ops Q (o :: rest) a w := by
  subst hm
  refine wpList_plain hgd fun K hK => ?_
  obtain ⟨v', w', hr, h2, h3⟩ := run_mBytes (w := w) o.type hO hB s hn hlen
  unfold Oper.wp execOp
  simp only [ho, resolve, invoke, builtin, Sem.run_bind, Sem.run_pure, Result.andThen_ok, List.map_toArray, List.map_cons, List.map_nil, hs, hx]
  rw [hr]
  exact hK _ _ (h v' w' h2 h3)
set_option maxRecDepth 10000 in
/-- []byte of a string. -/
theorem run_toBytes (w : World) (s : Str) (hs : s.length ≤ 1000000) : ∃ v w', (convert 9 31 (.string ⟨s.toArray⟩)).run Tryd.prog w = .ok v w' ∧ OutM w' w.heap.size v s ∧ Below w.heap.size w w' := by
  have hsz : (⟨s.toArray⟩ : ByteArray).size = s.length := by simp [ByteArray.size]
  have hr := run_bytes_of_string (P := Tryd.prog) w 9 31 5 ⟨s.toArray⟩ Tryd.underlying9 Tryd.underlying31 Tryd.underlying5
  have hge := grownCap_ge w s.length 0 5
  have hcm : grownCap w s.length 0 5 ≤ maxLen := grownCap_le_maxLen w s.length 0 5 (by unfold maxLen; omega)
  rw [hsz] at hr
  generalize grownCap w s.length 0 5 = cap at *
  refine ⟨_, _, hr, Or.inr ⟨w.heap.size, cap, _, _, rfl, Nat.le_refl _, heap_alloc_new w.drew _, ?_, hge, hcm, ?_, ?_⟩, (Below.drew (Below.refl _ w)).alloc (Nat.le_refl _) _⟩
  · exact Or.inr (Nat.le_refl _)
  · unfold bytesRow
    rw [Array.size_append, hsz]
    simp
    omega
  · have e : (bytesRow ⟨s.toArray⟩ cap).toList = Lib.byteCells s ++ List.replicate (cap - (⟨s.toArray⟩ : ByteArray).size) (.int .u8 0) := by
      unfold bytesRow Lib.byteCells
      simp
    rw [e, List.take_append_of_le_length (by rw [bytes_len]; exact Nat.le_refl _), List.take_of_length_le (by rw [bytes_len]; exact Nat.le_refl _)]
/-- What the row reads as. -/
theorem outM_string {w : World} {B : Nat} {v : Value} {l : Str} (h : OutM w B v l) (hne : l ≠ []) : (convert 31 9 v).run Tryd.prog w = .ok (.string ⟨l.toArray⟩) w := by
  rcases h with ⟨_, h⟩ | ⟨g, cap, cur, fz, rfl, hBg, hg, hfz, hnc, hcm, hcs, htake⟩
  · exact absurd h hne
  · refine run_convert_bytes_back w 31 9 5 ⟨g, 0, none⟩ cap l Tryd.underlying31 Tryd.underlying5 Tryd.underlying9 (fun j hj => ?_)
    refine OutM.holds hg htake (n := 0) (cap := 0) j _ ?_
    simp [Lib.byteCells, hj]
end Go.Proofs.YtlmdkcpiimpniaaDoor
/- strconv.AppendUint and AppendInt onto a row of the call's own, behind []byte of a string too. -/
namespace Go.Proofs.YtlmdkcpiimpniaaDoor
open Go.ChangeShapes Go.WideShapes Go.ChangeAt Go.RowKit Go.Sort
set_option linter.unusedVariables false
set_option linter.unusedSimpArgs false

def AppR (B : Nat) (w : World) (l : Str) (e : Ending) (w' : World) : Prop := ∃ v', e = .returned v' ∧ OutM w' B v' l ∧ Below B w w'
set_option maxRecDepth 100000 in
set_option maxHeartbeats 12800000 in
theorem m_appui {w : World} (htab : Lib.TabIs Tryd.prog w "internal/strconv.uint64pow10" .u64 Lib.pow10Tab) {B : Nat} (hB : B ≤ w.heap.size) {v : Value} {l : Str} (hO : OutM w B v l) {u : Nat} (hu64 : u < 18446744073709551616) (hlen : l.length ≤ 10000000) :
    Calls Tryd.prog 62 #[v, .int .u64 (u : Int), .int .i64 10] w (AppR B w (l ++ Lib.decDigits u)) := by
  have O := Lib.hid hO
  obtain ⟨a0, n0, c0, rfl⟩ := hO.shape
  have hdl := dec_len20 hu64
  clear hO
  by_cases hs : u < 100
  · clear htab
    generalize hd : Lib.decDigits u = d at *
    have HD := Lib.hid hd
    clear hd
    have PS := Lib.hid (fun w => Any.internal_strconv_small Tryd.lays283 u hs w)
    rw [HD.out] at PS
    go_enter Tryd.func62, Tryd.ntmps62
    go_wp2_with (first
      | (go_at_call 73; refine (PS.out _).mono ?_; rintro e w' ⟨rfl, rfl⟩)
      | (at_builtin; refine wpList_mStr rfl (.tmp 13) (.tmp 16) rfl rfl O.out hB d rfl (by omega) ?_))
    intro v2 w2 h1 h2
    have H1 := Lib.hid h1; have H2 := Lib.hid h2
    clear h1 h2
    go_wp2_with fail
    go_ret
    exact ⟨v2, rfl, H1.out, H2.out⟩
  · have hu1 : 1 ≤ u := by omega
    have hnd20 : Lib.nDigits u ≤ 20 := by have := Lib.numDigits_eq u hu1 hu64; split at this <;> omega
    have hal : Tryd.prog.arrayLen 103 = 24 := by simp [Program.arrayLen, Tryd.underlying103]
    have hsl : ∀ W, (Instr.sliceAt 103 (.pointer (some ⟨w.heap.size, 0, none⟩)) none (some (.int .i64 (Lib.nDigits u : Int))) none).run Tryd.prog W = .ok (.slice (some ⟨w.heap.size, 0, none⟩) (Lib.nDigits u) 24) W := fun W => by
      rw [run_sliceAt_array_h W 103 ⟨w.heap.size, 0, none⟩ (by simp [Program.arrayLen, Program.elem, Tryd.underlying103]) .i64 (Lib.nDigits u : Int) (by omega) (by rw [hal]; omega)]
      go_simp
    have hH0 := Lib.holds_zero0 w 103 (Lib.nDigits u) (by omega)
    have hfmt := Any.internal_strconv_formatBase10 Tryd.lays285 w.heap.size 0 24 u (Array.replicate (Lib.nDigits u) 0) (w.alloc (.cells Lib.zeros24 103)) hH0 (by rw [Array.size_replicate]; exact Lib.lt_pow_nDigits u) hu64 (by rw [Array.size_replicate]; omega)
    rw [Array.size_replicate] at hfmt
    have HH0 := Lib.hid hH0
    have iu : (100 : Int) ≤ (u : Int) := by omega
    clear hH0 hal
    go_enter Tryd.func62, Tryd.ntmps62
    go_wp2_with (first
      | (go_at_call 74; refine (Any.internal_strconv_numDigits Tryd.laysM284 u hu1 hu64 _ (Lib.tabIs_alloc htab _)).mono ?_; rintro e w' ⟨rfl, rfl⟩))
    go_at_call 75
    refine hfmt.mono ?_
    rintro e w' ⟨rfl, k, v', dk, rfl, hF⟩
    have hcells : ∀ j u', (Lib.byteCells (Lib.decDigits u))[j]? = some u' → ((putRow (fun (b : UInt8) => Value.int .u8 (b.toNat : Int)) (w.alloc (.cells Lib.zeros24 103)) w.heap.size 0 dk).drewN k).cell? ((⟨w.heap.size, 0, none⟩ : Addr).add j) = some u' := by
      intro j u' hj
      have hjl : j < (Lib.decDigits u).length := by
        have h5 := (List.getElem?_eq_some_iff.1 hj).1
        rwa [bytes_len] at h5
      have e5 : (Lib.byteCells (Lib.decDigits u))[j]? = some (Value.int .u8 ((Lib.decDigits u)[j].toNat : Int)) := by simp [Lib.byteCells, hjl]
      rw [e5] at hj
      cases hj
      rw [Lib.row_is_numeral hF j hjl, Lib.add_plain, World.cell?_drewN]
      exact cell?_putRow (fun (b : UInt8) => Value.int .u8 (b.toNat : Int)) _ w.heap.size 0 _ dk HH0.out (by rw [hF.size, Array.size_replicate]) j (by rw [hF.size]; rw [Lib.decDigits_length] at hjl; exact hjl)
    obtain ⟨os, eo⟩ := Lib.fin_at w (.cells Lib.zeros24 103) dk k 0
    have hb2 : Below w.heap.size w ((putRow (fun (b : UInt8) => Value.int .u8 (b.toNat : Int)) (w.alloc (.cells Lib.zeros24 103)) w.heap.size 0 dk).drewN k) := by rw [eo]; exact Lib.below_grow w.heap.size w (Nat.le_refl _) k os
    generalize (putRow (fun (b : UInt8) => Value.int .u8 (b.toNat : Int)) (w.alloc (.cells Lib.zeros24 103)) w.heap.size 0 dk).drewN k = W2 at hcells hb2 ⊢
    have O2 := Lib.hid (O.out.below hb2)
    have hB2 : B ≤ W2.heap.size := Nat.le_trans hB hb2.size
    have HB2 := Lib.hid (hb2.mono hB)
    have HC := Lib.hid hcells
    have HDL := Lib.hid (Lib.decDigits_length u)
    clear eo HH0 hfmt hcells hb2 htab O
    generalize Lib.nDigits u = nd at *
    go_wp2_with (at_builtin; refine wpList_mBytes rfl (.tmp 24) (.tmp 26) rfl rfl O2.out hB2 (Lib.decDigits u) rfl HDL.out.symm HC.out (by omega) ?_)
    intro v2 w3 h1 h2
    have H1 := Lib.hid h1; have H2 := Lib.hid (HB2.out.trans h2)
    clear h1 h2
    go_wp2
    go_ret
    exact ⟨v2, rfl, H1.out, H2.out⟩
/-- strconv.AppendUint at base 10. -/
theorem m_appu {w w0 : World} (h : Env w0) {B : Nat} (hw : Below w0.heap.size w0 w) (hB : B ≤ w.heap.size) {v : Value} {l : Str} (hO : OutM w B v l) {u : Nat} (hu : u < 18446744073709551616) (hlen : l.length ≤ 10000000) :
    Calls Tryd.prog 36 #[v, .int .u64 (u : Int), .int .i64 10] w (AppR B w (l ++ Lib.decDigits u)) := by
  have P := Lib.hid (m_appui (Go.Joins.tab_stays g2 h.pow hw (Nat.le_refl _)) hB hO hu hlen)
  obtain ⟨a0, n0, c0, rfl⟩ := hO.shape
  clear h hO
  go_enter Tryd.func36, Tryd.ntmps36
  go_wp2_with fail
  refine (P.out).mono ?_; rintro e w1 ⟨v1, rfl, hr, hb⟩
  have R := Lib.hid hr; have BB := Lib.hid hb
  clear hr hb
  go_wp2_with fail
  go_ret
  exact ⟨v1, rfl, R.out, BB.out⟩
theorem m_appi_ {w w0 : World} (h : Env w0) {B : Nat} (hw : Below w0.heap.size w0 w) (h0B : w0.heap.size ≤ B) (hB : B ≤ w.heap.size) {v : Value} {l : Str} (hO : OutM w B v l) {i : Int} (h0 : -9223372036854775808 ≤ i) (h1 : i ≤ 9223372036854775807) (hlen : l.length ≤ 9000000) :
    Calls Tryd.prog 61 #[v, .int .i64 i, .int .i64 10] w (AppR B w (l ++ Lib.itoa i)) := by
  obtain ⟨a0, n0, c0, rfl⟩ := hO.shape
  have ht : ∀ w', Below B w w' → Lib.TabIs Tryd.prog w' "internal/strconv.uint64pow10" .u64 Lib.pow10Tab := fun w' hb => Go.Joins.tab_stays g2 h.pow (hw.trans (hb.mono h0B)) (Nat.le_refl _)
  by_cases hneg : i < 0
  · obtain ⟨u, rfl⟩ : ∃ u : Nat, i = -(u : Int) := ⟨i.natAbs, by omega⟩
    have hu64 : u < 18446744073709551616 := by omega
    have hwr : IntKind.u64.wrap (-IntKind.u64.wrap (-(u : Int))) = (u : Int) := by rw [IntKind.wrap_u64, IntKind.wrap_u64]; omega
    have A1 := Lib.hid (Below.alloc (Below.refl w.heap.size w) (Nat.le_refl _) (.cells #[.int .u8 45] 5))
    have O1 := Lib.hid (hO.below A1.out)
    have P := Lib.hid (fun w' v' (hb : Below B w w') (ho : OutM w' B v' (l ++ [45])) => m_appui (ht w' hb) (Nat.le_trans hB hb.size) ho hu64 (by simp; omega))
    have HE : Hid (l ++ Lib.itoa (-(u : Int)) = l ++ [45] ++ Lib.decDigits u) := Lib.hid (by rw [itoa_neg (by omega)]; simp)
    rw [HE.out]
    clear h hO ht
    go_enter Tryd.func61, Tryd.ntmps61
    go_wp2_with (at_builtin; refine wpList_mBytes rfl (.tmp 12) (.tmp 13) rfl rfl O1.out (Nat.le_trans hB A1.out.size) [45] rfl rfl (fun j u' hj => by
      match j, hj with
      | 0, hj => simp [Lib.byteCells] at hj; subst hj; simp [Addr.add]) (by simp; omega) ?_)
    intro v2 w2 k1 k2
    have B2 := Lib.hid ((A1.out.mono hB).trans k2)
    have P2 := Lib.hid (P.out w2 v2 B2.out k1)
    obtain ⟨a2, n2, c2, rfl⟩ := k1.shape
    clear k1 k2 P
    go_wp2_with fail
    refine (P2.out).mono ?_; rintro e w3 ⟨v3, rfl, hr, hb⟩
    have R := Lib.hid hr; have BB := Lib.hid (B2.out.trans hb)
    clear hr hb
    go_wp2_with fail
    go_ret
    exact ⟨v3, rfl, R.out, BB.out⟩
  · obtain ⟨u, rfl⟩ := Int.eq_ofNat_of_zero_le (show 0 ≤ i by omega)
    have P := Lib.hid (m_appui (ht w (Below.refl _ _)) hB hO (u := u) (by omega) (by omega))
    rw [itoa_nn]
    clear h hO ht
    go_enter Tryd.func61, Tryd.ntmps61
    go_wp2_with fail
    refine (P.out).mono ?_; rintro e w3 ⟨v3, rfl, hr, hb⟩
    have R := Lib.hid hr; have BB := Lib.hid hb
    clear hr hb
    go_wp2_with fail
    go_ret
    exact ⟨v3, rfl, R.out, BB.out⟩
/-- strconv.AppendInt at base 10. -/
theorem m_appi {w w0 : World} (h : Env w0) {B : Nat} (hw : Below w0.heap.size w0 w) (h0B : w0.heap.size ≤ B) (hB : B ≤ w.heap.size) {v : Value} {l : Str} (hO : OutM w B v l) {i : Int} (h0 : -9223372036854775808 ≤ i) (h1 : i ≤ 9223372036854775807) (hlen : l.length ≤ 9000000) :
    Calls Tryd.prog 33 #[v, .int .i64 i, .int .i64 10] w (AppR B w (l ++ Lib.itoa i)) := by
  have P := Lib.hid (m_appi_ h hw h0B hB hO h0 h1 hlen)
  obtain ⟨a0, n0, c0, rfl⟩ := hO.shape
  clear h hO
  go_enter Tryd.func33, Tryd.ntmps33
  go_wp2_with fail
  refine (P.out).mono ?_; rintro e w1 ⟨v1, rfl, hr, hb⟩
  have R := Lib.hid hr; have BB := Lib.hid hb
  clear hr hb
  go_wp2_with fail
  go_ret
  exact ⟨v1, rfl, R.out, BB.out⟩
end Go.Proofs.YtlmdkcpiimpniaaDoor

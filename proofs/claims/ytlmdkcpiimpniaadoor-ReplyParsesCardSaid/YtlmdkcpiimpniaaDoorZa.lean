/- Strings by index and by parts; parts of a line, by the document and by strings.Split. -/
import Derived.Test.YtlmdkcpiimpniaaDoorM
import Derived.BigRegion
import Derived.Lib.ItoaLen
namespace Go.Proofs.YtlmdkcpiimpniaaDoor
open Go.ChangeShapes Go.WideShapes Go.ChangeAt Go.RowKit
set_option linter.unusedVariables false
set_option linter.unusedSimpArgs false

theorem bsz (s : Str) : (⟨s.toArray⟩ : ByteArray).size = s.length := by simp [ByteArray.size]
theorem bget (s : Str) (i : Nat) (h : i < (⟨s.toArray⟩ : ByteArray).size) : (⟨s.toArray⟩ : ByteArray)[i]'h = s[i]'(by rw [bsz] at h; exact h) := by
  show s.toArray[i]'(by rw [bsz] at h; simpa using h) = _
  simp
theorem run_ix (s : Str) {i : Nat} (hi : i < s.length) (w : World) : (Instr.index 9 (.string ⟨s.toArray⟩) (.int .i64 (i : Int))).run Tryd.prog w = .ok (.int .u8 ((s[i]).toNat : Int)) w := by
  rw [run_index_string w 9 ⟨s.toArray⟩ .i64 i Tryd.underlying9, dif_pos (by rw [bsz]; omega)]
  simp only [Int.toNat_natCast, bget]
theorem run_sl (s : Str) {i j : Nat} (hij : i ≤ j) (hj : j ≤ s.length) (w : World) : (Instr.slice 9 (.string ⟨s.toArray⟩) (some (.int .i64 (i : Int))) (some (.int .i64 (j : Int))) none).run Tryd.prog w = .ok (.string ⟨((s.drop i).take (j - i)).toArray⟩) w := by
  rw [run_slice_string w 9 ⟨s.toArray⟩ .i64 .i64 i j Tryd.underlying9 (by omega) (by omega) (by rw [bsz]; omega)]
  rw [Int.toNat_natCast, Int.toNat_natCast, ByteArray.extract_mk]
theorem run_to_ (s : Str) {j : Nat} (hj : j ≤ s.length) (w : World) : (Instr.slice 9 (.string ⟨s.toArray⟩) none (some (.int .i64 (j : Int))) none).run Tryd.prog w = .ok (.string ⟨(s.take j).toArray⟩) w := by
  rw [run_slice_string_h w 9 ⟨s.toArray⟩ Tryd.underlying9 .i64 j (by omega) (by rw [bsz]; omega)]
  rw [Int.toNat_natCast, ByteArray.extract_mk]; simp
theorem run_from_ (s : Str) {i : Nat} (hi : i ≤ s.length) (w : World) : (Instr.slice 9 (.string ⟨s.toArray⟩) (some (.int .i64 (i : Int))) none none).run Tryd.prog w = .ok (.string ⟨(s.drop i).toArray⟩) w := by
  rw [run_slice_string_l w 9 ⟨s.toArray⟩ Tryd.underlying9 .i64 i (by omega) (by rw [bsz]; omega)]
  rw [Int.toNat_natCast, bsz, ByteArray.extract_mk, List.take_of_length_le (by rw [List.length_drop]; exact Nat.le_refl _)]
def encS (l : Str) : List Value := [.string ⟨l.toArray⟩]
theorem encS_len (l : Str) : (encS l).length = 1 := rfl
theorem encS_one (l : Str) : ∀ u ∈ encS l, u.oneCell' = true := fun u hu => by
  simp [encS] at hu; subst hu; rfl
theorem info9 : (Tryd.prog.info? 9).map (fun i => (i.zero, i.size, i.bytes)) = some (some (.string ⟨#[]⟩), 1, 16) := by kernel_rfl
theorem flatS_len (zs : List Str) : (flat encS zs).length = zs.length := by rw [flat_length encS_len, Nat.mul_one]
theorem outS_block {w : World} {B g n cap : Nat} {zs : List Str} (h : OutR 1 encS 9 w B (.slice (some ⟨g, 0, none⟩) n cap) zs) : ∃ cur, w.heap[g]? = some (.cells cur 9 (0, 0)) ∧ zs.length = n ∧ n ≤ cap ∧ cap ≤ maxLen ∧ cur.size = cap ∧ cur.toList.take n = flat encS zs ∧ B ≤ g := by
  obtain ⟨⟨h1, h2⟩, h3⟩ := h
  rcases h2 with ⟨h2, _⟩ | ⟨g', cap', cur, hv, _, h4, h5, h6, h7, h8⟩
  · cases h2
  · simp only [Value.slice.injEq, Option.some.injEq, Addr.mk.injEq] at hv
    obtain ⟨⟨rfl, -, -⟩, hn, hc⟩ := hv
    subst hn hc
    exact ⟨cur, h4, rfl, h5, h6, by simpa using h7, by simpa using h8, h3 _ rfl⟩
theorem outS_mk {w : World} {B g n cap : Nat} {cur : Array Value} {zs : List Str} (h1 : w.heap[g]? = some (.cells cur 9 (0, 0))) (h2 : zs.length = n) (h3 : n ≤ cap) (h4 : cap ≤ maxLen) (h5 : cur.size = cap) (h6 : cur.toList.take n = flat encS zs) (h7 : B ≤ g) :
    OutR 1 encS 9 w B (.slice (some ⟨g, 0, none⟩) n cap) zs :=
  ⟨⟨by rw [flatS_len]; simp, Or.inr ⟨g, cap, cur, by rw [h2], Nat.zero_le _, h1, by omega, h4, by simpa using h5, by rw [Nat.mul_one, h2]; exact h6⟩⟩, fun g' hg => by cases hg; exact h7⟩
theorem outS_last {w : World} {B g m cap : Nat} {zs : List Str} (h : OutR 1 encS 9 w B (.slice (some ⟨g, 0, none⟩) (m + 1) cap) zs) (l : Str) :
    OutR 1 encS 9 (w.setCell ⟨g, m, none⟩ (.string ⟨l.toArray⟩)) B (.slice (some ⟨g, 0, none⟩) (m + 1) cap) (zs.dropLast ++ [l]) := by
  obtain ⟨cur, h1, h2, h3, h4, h5, h6, h7⟩ := outS_block h
  refine outS_mk (set_of h1 m _) (by simp [h2]) h3 h4 (by simpa using h5) ?_ h7
  have hne : zs ≠ [] := fun e => by rw [e] at h2; cases h2
  have h8 : cur.toList.take m = flat encS zs.dropLast := by
    have := congrArg (List.take m) h6
    rw [List.take_take, Nat.min_eq_left (by omega)] at this
    rw [this]
    conv => lhs; rw [← List.dropLast_concat_getLast hne]
    unfold flat
    rw [List.flatMap_append]
    rw [List.take_append_of_le_length (by rw [show (List.flatMap encS zs.dropLast).length = zs.dropLast.length from flatS_len _, List.length_dropLast]; omega)]
    exact List.take_of_length_le (by rw [show (List.flatMap encS zs.dropLast).length = zs.dropLast.length from flatS_len _, List.length_dropLast]; omega)
  have hcl : m < cur.toList.length := by simpa using (by omega : m < cur.size)
  rw [Array.toList_setIfInBounds, List.take_succ_eq_append_getElem (by simpa using hcl), List.getElem_set_self]
  rw [List.take_set_of_le (Nat.le_refl _), h8]
  unfold flat
  rw [List.flatMap_append]
  rfl
theorem outS_cell {w : World} {B g m cap : Nat} {zs : List Str} (h : OutR 1 encS 9 w B (.slice (some ⟨g, 0, none⟩) (m + 1) cap) zs) : w.cell? ⟨g, m, none⟩ = some (.string ⟨(zs.getLastD []).toArray⟩) ∧ w.frozen? ⟨g, m, none⟩ = false := by
  obtain ⟨cur, h1, h2, h3, h4, h5, h6, h7⟩ := outS_block h
  refine ⟨?_, free_of h1 m⟩
  rw [cell_of h1]
  have hne : zs ≠ [] := fun e => by rw [e] at h2; cases h2
  have h8 : (cur.toList.take (m + 1))[m]? = (flat encS zs)[m]? := by rw [h6]
  rw [List.getElem?_take, if_pos (by omega)] at h8
  rw [show cur[m]? = cur.toList[m]? by simp, h8]
  conv => lhs; rw [← List.dropLast_concat_getLast hne]
  unfold flat
  rw [List.flatMap_append, List.getElem?_append_right (by rw [show (List.flatMap encS zs.dropLast).length = zs.dropLast.length from flatS_len _, List.length_dropLast]; omega)]
  rw [show (List.flatMap encS zs.dropLast).length = zs.dropLast.length from flatS_len _, List.length_dropLast, show m - (zs.length - 1) = 0 by omega]
  cases zs with
  | nil => exact absurd rfl hne
  | cons x l => rfl
theorem sp_len : ∀ s : Str, 1 ≤ (sp s).length ∧ (sp s).length ≤ s.length + 1
  | [] => by simp [sp]
  | b :: l => by
    have := sp_len l
    unfold sp
    split
    · simp; omega
    · simp; omega
theorem sp_last : ∀ s : Str, ((sp s).getLastD []).length ≤ s.length
  | [] => Nat.le_refl _
  | b :: l => by
    have ih := sp_last l
    have hne := sp_ne l
    unfold sp
    cases hs : sp l with
    | nil => exact absurd hs hne
    | cons x r =>
      rw [hs] at ih
      split
      · show (((x :: r) : List Str).getLast _).length ≤ _
        have : ((x :: r).getLastD ([] : Str)) = (x :: r).getLast (by simp) := rfl
        rw [this] at ih
        simp only [List.length_cons]; omega
      · cases r with
        | nil =>
          have e : ([x] : List Str).getLastD [] = x := rfl
          rw [e] at ih
          show (b :: x).length ≤ _
          simp only [List.length_cons]; omega
        | cons y r =>
          have e : ((x :: y :: r : List Str).getLastD []) = (y :: r).getLast (by simp) := rfl
          rw [e] at ih
          show (((y :: r) : List Str).getLast _).length ≤ _
          simp only [List.length_cons]; omega
theorem add_str {a b : Str} (h : a.length + b.length ≤ 1000000000) : Op.stringOp .add ⟨a.toArray⟩ ⟨b.toArray⟩ = pure (.string ⟨(a ++ b).toArray⟩) := by
  unfold Op.stringOp
  simp only []
  rw [if_neg (by rw [bsz, bsz, show IntKind.i64.max = 9223372036854775807 from rfl]; omega)]
  congr 2
def SplRel (w : World) (s : Str) (v3 v4 : Value) (wr : World) : Prop := ∃ i : Nat, i ≤ s.length ∧ v4 = .int .i64 (i : Int) ∧ OutR 1 encS 9 wr w.heap.size v3 (sp (s.take i)) ∧ Below w.heap.size w wr
set_option maxRecDepth 100000 in
set_option maxHeartbeats 2000000 in
theorem rsplit (s : Str) (hs : s.length ≤ 1000000) (w : World) : Calls Tryd.prog 56 #[.string ⟨s.toArray⟩] w fun e w' => ∃ v, e = .returned v ∧ OutR 1 encS 9 w' w.heap.size v (sp s) ∧ Below w.heap.size w w' := by
  obtain ⟨i9, hi, hz0, hz1, hz2⟩ := info_parts info9
  have O0 : Hid (OutR 1 encS 9 (w.alloc (.cells #[.string ⟨#[]⟩] 9)) w.heap.size (.slice (some ⟨w.heap.size, 0, none⟩) 1 1) (sp [])) := Lib.hid (outS_mk (block_new _ _) rfl (Nat.le_refl _) (by unfold maxLen; omega) rfl rfl (Nat.le_refl _))
  have A0 := Lib.hid (Below.alloc (Below.refl w.heap.size w) (Nat.le_refl _) (.cells #[.string ⟨#[]⟩] 9))
  go_enter Tryd.func56, Tryd.ntmps56
  go_wp2_with fail
  go_loopw [3, 4] (fun v3 v4 wr => SplRel w s v3 v4 wr) (fun _ v4 _ => s.length - (intOf v4).toNat)
  case atStart => exact ⟨0, Nat.zero_le _, rfl, O0.out, A0.out⟩
  case round =>
    obtain ⟨i, hil, rfl, ho, hb⟩ := hrel
    have B := Lib.hid hb
    have O := Lib.hid ho
    have hbs := hb.size
    clear hb
    by_cases hlt : i < s.length
    · have hbi := bget s i (by rw [bsz]; exact hlt)
      have SN := Lib.hid (sp_snoc (s.take i) s[i])
      rw [← List.take_succ_eq_append_getElem hlt] at SN
      have hln := sp_len (s.take i)
      have hl2 : (sp (s.take i)).length ≤ 1000001 := by rw [List.length_take] at hln; omega
      have hsl : (⟨s.toArray⟩ : ByteArray).extract i (i + 1) = ⟨#[s[i]]⟩ := by
        rw [ByteArray.extract_mk, show i + 1 - i = 1 by omega, List.drop_eq_getElem_cons hlt]; rfl
      obtain ⟨sa, sc, rfl⟩ := own_shape ho.row
      have HLL := Lib.hid (show ((sp (s.take i)).getLastD []).length ≤ 1000000 by have := sp_last (s.take i); rw [List.length_take] at this; omega)
      generalize sp (s.take i) = zs at *
      by_cases h32 : s[i] = 32
      · have e1 : ((s[i].toNat : Int) == 32) = true := by rw [h32]; rfl
        have e2 : (s[i].toNat : Int) = 32 := by rw [h32]; rfl
        rw [if_pos h32] at SN
        clear h32 ho hsl
        generalize hzl : zs.length = zl at *
        have HZ := Lib.hid hzl
        clear hzl
        go_wp2_with (at_builtin; refine wpList_append_slice _ rfl (.tmp 16) (.tmp 17) 30 rfl 9 i9 (.string ⟨#[]⟩) 1 16 Tryd.underlying30 hi hz0 hz1 hz2 rfl (by decide) _ _ _ rfl (O.out.row.alloc _) (some ⟨wr.heap.size, 0, none⟩) 1 1 (encS []) rfl rfl (fun h => (by cases h)) ?_ (encS_one _) ?_ ?_ ?_)
        · intro a ha; cases ha
          intro j u hj
          rw [addr_add, cell_of (block_new _ _), Nat.zero_add]
          simpa [encS] using hj
        · unfold maxLen; have := HZ.out; omega
        · have := HZ.out; omega
        · intro v5 w5 hro hgr hnn
          have G := O.out.grow (ys := [[]]) (Below.alloc (Below.refl _ _) (Nat.le_refl _) _) hbs (by simpa [flat] using hro) hgr (fun g hg => (hnn g hg).imp id (fun h => by simpa using h))
          have G1 := Lib.hid G.1
          have G2 := Lib.hid (B.out.trans G.2.2.1)
          clear hro hgr hnn G
          go_wp2_with fail
          go_roundw
          case rel => exact ⟨i + 1, hlt, by go_num, by rw [SN.out]; exact G1.out, G2.out⟩
          case measure => simp [intOf]; omega
      · have e1 : ((s[i].toNat : Int) == 32) = false := by
          simp; intro e; exact h32 (UInt8.toNat_inj.1 (by show s[i].toNat = 32; omega))
        rw [if_neg h32] at SN
        obtain ⟨m, hm⟩ : ∃ m, zs.length = m + 1 := ⟨zs.length - 1, by omega⟩
        rw [hm] at ho ⊢
        have hsome : ∃ g, sa = some ⟨g, 0, none⟩ := by
          rcases ho.row.2 with ⟨h, _⟩ | ⟨g, cap, cur, h, _⟩
          · cases h
          · simp only [Value.slice.injEq] at h; exact ⟨g, h.1⟩
        obtain ⟨g, rfl⟩ := hsome
        obtain ⟨hx, hfz⟩ := outS_cell ho
        have hgB : w.heap.size ≤ g := (outS_block ho).choose_spec.2.2.2.2.2.2
        have ON := Lib.hid (outS_last ho (zs.getLastD [] ++ [s[i]]))
        have hm1 : m ≤ 1000001 := by omega
        have hcat : ∀ (l : Str), (({ data := l.toArray } : ByteArray) ++ { data := #[s[i]] }) = { data := (l ++ [s[i]]).toArray } := fun l => by
          apply ByteArray.ext; simp
        have hsl2 : ∀ w, (Instr.slice 9 (.string ⟨s.toArray⟩) (some (.int .i64 (i : Int))) (some (.int .i64 ((i : Int) + 1))) none).run Tryd.prog w = .ok (.string ⟨#[s[i]]⟩) w := fun w => by
          have h := run_sl s (i := i) (j := i + 1) (by omega) hlt w
          rw [show i + 1 - i = 1 by omega, List.drop_eq_getElem_cons hlt] at h
          exact h
        have qm : IntKind.i64.wrap (m : Int) = (m : Int) := IntWalk.i64_in _ (by omega)
        have hadd := add_str (a := zs.getLastD []) (b := [s[i]]) (by have := HLL.out; show _ + 1 ≤ _; omega)
        generalize zs.getLastD [] = la at *
        generalize zs.dropLast = zd at *
        have hgl := lt_of_cell hx
        have HGB := Lib.hid hgB
        clear ho h32 hm O
        go_wp2_with fail
        go_region
        go_wp2_with fail
        go_roundw
        case rel => exact ⟨i + 1, hlt, by go_num, by rw [SN.out]; exact ON.out.below (Below.drew (Below.refl _ _)), (B.out.setCell (by have := HGB.out; simpa using this) _).drew⟩
        case measure => simp [intOf]; omega
    · have hie : s.take i = s := List.take_of_length_le (by omega)
      rw [hie] at ho
      have O2 := Lib.hid ho
      go_wp2_with fail
      go_ret
      exact ⟨_, rfl, O2.out, B.out⟩
theorem splitK_sp : ∀ (n : Nat) (s : Str), s.length ≤ n → Lib.splitK [32] 0 (Lib.count s [32]) s = sp s ∧ (sp s).length = Lib.count s [32] + 1
  | n, s, hn => by
    have hi := index_one 32 s
    cases hc : (cutc 32 s).2.2 with
    | false =>
      rw [hc, if_neg (by decide)] at hi
      have e1 : sp s = [s] := by rw [sp_cut, hc, cutc_miss 32 s hc]; rfl
      rw [Lib.count_miss hi, e1]
      exact ⟨rfl, rfl⟩
    | true =>
      rw [hc, if_pos rfl] at hi
      have hs := cutc_hit 32 s hc
      have e1 : sp s = (cutc 32 s).1 :: sp (cutc 32 s).2.1 := by rw [sp_cut, hc]; rfl
      generalize (cutc 32 s).1 = a at *
      generalize (cutc 32 s).2.1 = r at *
      have hd : s.drop (a.length + ([32] : Str).length) = r := by rw [hs]; simp
      have ht : s.take (a.length + 0) = a := by rw [hs]; simp
      have hcnt := Lib.count_hit (sub := [32]) (by simp) hi
      rw [hd] at hcnt
      match n, hn with
      | 0, hn => rw [hs] at hn; simp at hn
      | n + 1, hn =>
        have ih := splitK_sp n r (by rw [hs] at hn; simp at hn; omega)
        have hm : ¬ (Lib.index s [32] == -1) = true := by rw [hi]; simp
        have hsp : Lib.splitK [32] 0 (1 + Lib.count r [32]) s = a :: sp r := by
          rw [Nat.add_comm, Lib.splitK, if_neg hm, hi, Int.toNat_natCast, hd, ht, ih.1]
        rw [hcnt, e1, hsp]
        exact ⟨rfl, by rw [List.length_cons, ih.2]; omega⟩
/-- The cells of strings. -/
def strs (l : List Str) : Array Value := (l.map (fun p => Value.string ⟨p.toArray⟩)).toArray
theorem ba_of (x : ByteArray) : x = ⟨x.data.toList.toArray⟩ := by cases x; simp
theorem splitB_sp (s : Str) : Lib.splitB ⟨#[32]⟩ 0 (Lib.countB ⟨s.toArray⟩ ⟨#[32]⟩) ⟨s.toArray⟩ = (sp s).map (fun p => ⟨p.toArray⟩) ∧ Lib.countB ⟨s.toArray⟩ ⟨#[32]⟩ + 1 = (sp s).length := by
  have h := splitK_sp s.length s (Nat.le_refl _)
  have hd := Lib.splitB_data ⟨#[32]⟩ 0 (Lib.countB ⟨s.toArray⟩ ⟨#[32]⟩) ⟨s.toArray⟩
  have hc : Lib.countB ⟨s.toArray⟩ ⟨#[32]⟩ = Lib.count s [32] := by unfold Lib.countB; simp
  rw [hc] at hd ⊢
  have hd2 : (Lib.splitB ⟨#[32]⟩ 0 (Lib.count s [32]) ⟨s.toArray⟩).map (·.data.toList) = sp s := by rw [hd]; simpa using h.1
  refine ⟨?_, h.2.symm⟩
  rw [← hd2, List.map_map]
  conv => lhs; rw [← List.map_id (Lib.splitB ⟨#[32]⟩ 0 (Lib.count s [32]) ⟨s.toArray⟩)]
  exact List.map_congr_left (fun x _ => ba_of x)
theorem flat_encS (l : List Str) : flat encS l = l.map (fun p => Value.string ⟨p.toArray⟩) := by
  induction l with
  | nil => rfl
  | cons a r ih => show encS a ++ flat encS r = _; rw [ih]; rfl
theorem split_call {w : World} (h : Env w) (s : Str) (hs : s.length < 1000000) : Calls Tryd.prog 40 #[.string ⟨s.toArray⟩, .string ⟨#[32]⟩] w fun e w' =>
    e = .returned (.slice (some ⟨w.heap.size, 0, none⟩) (sp s).length (sp s).length) ∧ w' = w.alloc (.cells (strs (sp s)) 9) := by
  obtain ⟨m, hm⟩ := h.mx
  have hh := Any.strings_Split Tryd.lays146 (by kernel_rfl) ⟨s.toArray⟩ ⟨#[32]⟩ m w (by simp [ByteArray.size]; omega) hm (by decide)
  obtain ⟨h1, h2⟩ := splitB_sp s
  rw [h1, h2, List.map_map] at hh
  exact hh
theorem strs_sl (w : World) (l : List Str) (hl : l.length ≤ maxLen) : IsSl 1 encS (w.alloc (.cells (strs l) 9)) (some ⟨w.heap.size, 0, none⟩) l.length l.length l :=
  IsSl.of_block encS_len (block_new w _) (by rw [flat_encS]; simp [strs]) rfl hl
theorem count_call (s : Str) (w : World) : Calls Tryd.prog 38 #[.string ⟨s.toArray⟩, .string ⟨#[32]⟩] w fun e w' => e = .returned (.int .i64 ((s.count 32 : Nat) : Int)) ∧ w = w' := by
  refine (Any.strings_Count_one Tryd.lays138 ⟨s.toArray⟩ 32 w).mono fun e w' hh => ?_
  obtain ⟨he, hw⟩ := hh
  refine ⟨?_, hw.symm⟩
  rw [he]
  unfold Lib.countByte
  simp
end Go.Proofs.YtlmdkcpiimpniaaDoor
/- digits, decimal and value of the document. -/
namespace Go.Proofs.YtlmdkcpiimpniaaDoor
open Go.ChangeShapes Go.WideShapes Go.ChangeAt Go.RowKit
set_option linter.unusedVariables false
set_option linter.unusedSimpArgs false

theorem dec_len20 {u : Nat} (h : u < 18446744073709551616) : (Lib.decDigits u).length ≤ 20 := by
  by_cases h0 : u < 10
  · rw [dec_one h0]; simp
  · rw [Lib.decDigits_length]
    have := Lib.numDigits_eq u (by omega) h; split at this <;> omega
theorem itoa_len {i : Int} (h0 : -9223372036854775808 ≤ i) (h1 : i ≤ 9223372036854775807) : (Lib.itoa i).length ≤ 21 := Lib.itoa_length_le i h0 h1
def bM : Value → Nat
  | .bool true => 1
  | _ => 0
def DgRel (w : World) (u : Nat) (v0 v3 v4 : Value) (wr : World) : Prop := ∃ (m : Nat) (o : Str), v0 = .int .u64 (m : Int) ∧ v3 = .string ⟨o.toArray⟩ ∧ v4 = .bool o.isEmpty ∧ m < 18446744073709551616 ∧ ((o = [] ∧ m = u) ∨ (o ≠ [] ∧ (if m = 0 then o else Lib.decDigits m ++ o) = Lib.decDigits u)) ∧ Below w.heap.size w wr
theorem dg_next {u m : Nat} {o : Str} (h : (o = [] ∧ m = u) ∨ (o ≠ [] ∧ (if m = 0 then o else Lib.decDigits m ++ o) = Lib.decDigits u)) (hg : o = [] ∨ 0 < m) :
    (if m / 10 = 0 then UInt8.ofNat (48 + m % 10) :: o else Lib.decDigits (m / 10) ++ UInt8.ofNat (48 + m % 10) :: o) = Lib.decDigits u := by
  have hd : Lib.decDigits m ++ o = if m / 10 = 0 then UInt8.ofNat (48 + m % 10) :: o else Lib.decDigits (m / 10) ++ UInt8.ofNat (48 + m % 10) :: o := by
    by_cases h10 : m < 10
    · rw [dec_one h10, if_pos (by omega), show m % 10 = m by omega]; rfl
    · rw [dec_big h10, if_neg (by omega)]; simp
  rw [← hd]
  rcases h with ⟨rfl, rfl⟩ | ⟨h1, h2⟩
  · simp
  · have hm : ¬ m = 0 := by rcases hg with h | h; · exact absurd h h1
                            · omega
    rwa [if_neg hm] at h2
theorem dg_len {u m : Nat} {o : Str} (hu : u < 18446744073709551616) (h : (o = [] ∧ m = u) ∨ (o ≠ [] ∧ (if m = 0 then o else Lib.decDigits m ++ o) = Lib.decDigits u)) : o.length ≤ 20 := by
  rcases h with ⟨rfl, _⟩ | ⟨_, h2⟩
  · simp
  · have := dec_len20 hu
    rw [← h2] at this
    split at this
    · exact this
    · rw [List.length_append] at this; omega
theorem one_string (w : World) {M : Nat} (hM : M < 256) : (convert 31 9 (.slice (some ⟨w.heap.size, 0, none⟩) 1 1)).run Tryd.prog (w.alloc (.cells #[.int .u8 (M : Int)] 5)) = .ok (.string ⟨#[UInt8.ofNat M]⟩) (w.alloc (.cells #[.int .u8 (M : Int)] 5)) := by
  refine run_convert_bytes_back (w.alloc (.cells #[.int .u8 (M : Int)] 5)) 31 9 5 ⟨w.heap.size, 0, none⟩ 1 [UInt8.ofNat M] Tryd.underlying31 Tryd.underlying5 Tryd.underlying9 (fun j hj => ?_)
  have hj0 : j = 0 := by simpa using hj
  subst hj0
  have := cell_of (block_new w (.cells #[.int .u8 (M : Int)] 5)) 0
  have hm : (UInt8.ofNat M).toNat = M := by simp [UInt8.toNat_ofNat']; omega
  simp [Addr.add, this, hm]
theorem one_stringI (w : World) {x : Int} {M : Nat} (hM : M < 256) (hx : x = M) : (convert 31 9 (.slice (some ⟨w.heap.size, 0, none⟩) 1 1)).run Tryd.prog (w.alloc (.cells #[.int .u8 x] 5)) = .ok (.string ⟨#[UInt8.ofNat M]⟩) (w.alloc (.cells #[.int .u8 x] 5)) := by
  subst hx; exact one_string w hM
set_option maxRecDepth 100000 in
set_option maxHeartbeats 4000000 in
theorem rdigits (u : Nat) (hu : u < 18446744073709551616) (w : World) : Calls Tryd.prog 55 #[.int .u64 (u : Int)] w fun e w' => e = .returned (.string ⟨(Lib.decDigits u).toArray⟩) ∧ Below w.heap.size w w' := by
  have HU := Lib.hid hu
  clear hu
  go_enter Tryd.func55, Tryd.ntmps55
  go_wp2_with fail
  go_loopw [0, 3, 4] (fun v0 v3 v4 wr => DgRel w u v0 v3 v4 wr) (fun v0 _ v4 _ => (intOf v0).toNat + bM v4)
  case atStart => exact ⟨u, [], rfl, rfl, rfl, HU.out, Or.inl ⟨rfl, rfl⟩, Below.refl _ _⟩
  case round =>
    obtain ⟨m, o, rfl, rfl, rfl, hm, hinv, hb⟩ := hrel
    have HI := Lib.hid hinv
    have HM := Lib.hid hm
    have HB := Lib.hid hb
    have HL := Lib.hid (dg_len HU.out hinv)
    have hq : (m : Int) / 10 = ((m / 10 : Nat) : Int) := by omega
    by_cases hgo : o = [] ∨ 0 < m
    · have HN := Lib.hid (dg_next hinv hgo)
      have hadd := add_str (a := [UInt8.ofNat (48 + m % 10)]) (b := o) (by have := HL.out; simp; omega)
      have hcv := one_stringI wr (x := 48 + (m : Int) % 10) (M := 48 + m % 10) (by omega) (by omega)
      generalize UInt8.ofNat (48 + m % 10) = c at *
      have HX : Hid ((⟨#[c]⟩ : ByteArray) ++ ⟨o.toArray⟩ = ⟨(c :: o).toArray⟩) := Lib.hid (by apply ByteArray.ext; simp)
      have HNX : Hid (∀ wr', Below w.heap.size w wr' → DgRel w u (.int .u64 ((m / 10 : Nat) : Int)) (.string ⟨(c :: o).toArray⟩) (.bool false) wr') := Lib.hid (fun wr' hb' => ⟨m / 10, c :: o, rfl, rfl, rfl, by have := HM.out; omega, Or.inr ⟨by simp, HN.out⟩, hb'⟩)
      have HBN := Lib.hid (HB.out.alloc HB.out.size (.cells #[.int .u8 (48 + (m : Int) % 10)] 5))
      have HQ : Hid (m / 10 ≤ m ∧ (0 < m → m / 10 < m)) := Lib.hid (by omega)
      clear hinv hb HN HI
      generalize m / 10 = q at *
      by_cases ho : o = []
      · have he : o.isEmpty = true := by simpa using ho
        have HO := Lib.hid ho
        clear hgo ho
        go_wp2_with fail
        go_roundw
        case rel => first | exact HNX.out _ HBN.out | (rw [hq]; exact HNX.out _ HBN.out)
        case measure => have := HQ.out; simp [intOf, bM, HO.out]; omega
      · have he : o.isEmpty = false := by simpa using ho
        have hm0 : 0 < m := by rcases hgo with h | h; · exact absurd h ho
                               · exact h
        have e1 : decide (0 < m) = true := by simpa using hm0
        have e2 : decide ((0 : Int) < (m : Int)) = true := by simp; omega
        have HM0 := Lib.hid hm0
        clear hgo ho hm0
        go_wp2_with fail
        go_roundw
        case rel => first | exact HNX.out _ HBN.out | (rw [hq]; exact HNX.out _ HBN.out)
        case measure => have := HM0.out; have := HQ.out; simp [intOf, bM, he]; omega
    · have ho : o ≠ [] := fun e => hgo (Or.inl e)
      have hm0 : m = 0 := by have : ¬ 0 < m := fun e => hgo (Or.inr e); omega
      have he : o.isEmpty = false := by simpa using ho
      have hod : o = Lib.decDigits u := by
        rcases hinv with ⟨h, _⟩ | ⟨_, h⟩
        · exact absurd h ho
        · rwa [if_pos hm0] at h
      have HOD := Lib.hid hod
      clear hod hgo hinv hb ho hm hq
      subst hm0
      go_wp2_with fail
      go_ret
      exact ⟨by rw [HOD.out]; rfl, HB.out⟩
set_option maxRecDepth 100000 in
set_option maxHeartbeats 4000000 in
theorem rdecimal {x : Int} (h0 : -9223372036854775808 ≤ x) (h1 : x ≤ 9223372036854775807) (w : World) : Calls Tryd.prog 51 #[.int .i64 x] w fun e w' => e = .returned (.string ⟨(Lib.itoa x).toArray⟩) ∧ Below w.heap.size w w' := by
  by_cases hn : x < 0
  · obtain ⟨k, rfl⟩ : ∃ k : Nat, x = -(k : Int) - 1 := ⟨(-(x + 1)).toNat, by omega⟩
    have P := Lib.hid (rdigits (k + 1) (by omega) w)
    have hadd := add_str (a := [45]) (b := Lib.decDigits (k + 1)) (by have := dec_len20 (u := k + 1) (by omega); simp; omega)
    have HX : Hid ((⟨#[45]⟩ : ByteArray) ++ ⟨(Lib.decDigits (k + 1)).toArray⟩ = ⟨(45 :: Lib.decDigits (k + 1)).toArray⟩) := Lib.hid (by apply ByteArray.ext; simp)
    rw [show -(k : Int) - 1 = -((k + 1 : Nat) : Int) by omega, itoa_neg (by omega), show -((k + 1 : Nat) : Int) = -(k : Int) - 1 by omega]
    generalize Lib.decDigits (k + 1) = d at *
    go_enter Tryd.func51, Tryd.ntmps51
    go_wp2_with fail
    refine (P.out).mono ?_; rintro e w1 ⟨rfl, hb1⟩
    have B := Lib.hid hb1
    clear hb1
    go_wp2_with fail
    go_ret
    exact ⟨rfl, B.out⟩
  · obtain ⟨m, rfl⟩ := Int.eq_ofNat_of_zero_le (show 0 ≤ x by omega)
    have P := Lib.hid (rdigits m (by omega) w)
    rw [itoa_nn]
    generalize Lib.decDigits m = d at *
    go_enter Tryd.func51, Tryd.ntmps51
    go_wp2_with fail
    refine (P.out).mono ?_; rintro e w1 ⟨rfl, hb1⟩
    have B := Lib.hid hb1
    clear hb1
    go_wp2_with fail
    go_ret
    exact ⟨rfl, B.out⟩
end Go.Proofs.YtlmdkcpiimpniaaDoor
/- value of the document. -/
namespace Go.Proofs.YtlmdkcpiimpniaaDoor
open Go.ChangeShapes Go.WideShapes Go.ChangeAt Go.RowKit
set_option linter.unusedVariables false
set_option linter.unusedSimpArgs false

theorem val_snoc : ∀ (s : Str) (a : Nat) (c : UInt8), val a (s ++ [c]) = (10 * val a s + (c.toNat + 208) % 256) % 18446744073709551616
  | [], a, c => rfl
  | d :: l, a, c => val_snoc l _ c
def VlRel (s : Str) (v3 v4 : Value) : Prop := ∃ i : Nat, i ≤ s.length ∧ v4 = .int .i64 (i : Int) ∧ v3 = .int .u64 ((val 0 (s.take i) : Nat) : Int)
set_option maxRecDepth 100000 in
set_option maxHeartbeats 2000000 in
theorem rvalue (s : Str) (hs : s.length ≤ 1000000) (w : World) : Calls Tryd.prog 57 #[.string ⟨s.toArray⟩] w fun e w' => e = .returned (.int .u64 ((val 0 s : Nat) : Int)) ∧ w = w' := by
  go_enter Tryd.func57, Tryd.ntmps57
  go_wp2_with fail
  go_loop [3, 4] (fun v3 v4 => VlRel s v3 v4) (fun _ v4 => s.length - (intOf v4).toNat)
  case atStart => exact ⟨0, Nat.zero_le _, rfl, rfl⟩
  case round =>
    obtain ⟨i, hil, rfl, rfl⟩ := hrel
    by_cases hlt : i < s.length
    · have hbi := bget s i (by rw [bsz]; exact hlt)
      have SN := Lib.hid (val_snoc (s.take i) 0 s[i])
      rw [← List.take_succ_eq_append_getElem hlt] at SN
      have hv := val_lt (s.take i) 0 (by decide)
      generalize val 0 (s.take i) = a at *
      have hc : s[i].toNat < 256 := s[i].toNat_lt
      have HC : Hid (IntKind.u64.wrap (IntKind.u64.wrap (10 * (a : Int)) + ((s[i].toNat : Int) - 48) % 256) = ((val 0 (s.take (i + 1)) : Nat) : Int)) := Lib.hid (by rw [SN.out, IntKind.wrap_u64, IntKind.wrap_u64]; omega)
      clear hv
      go_wp2_with fail
      go_round
      case rel => exact ⟨i + 1, by omega, by go_num, by rw [HC.out]⟩
      case measure => simp [intOf]; omega
    · have he : s.take i = s := List.take_of_length_le (by omega)
      rw [he]
      go_wp2_with fail
      go_ret
      exact ⟨rfl, rfl⟩
end Go.Proofs.YtlmdkcpiimpniaaDoor

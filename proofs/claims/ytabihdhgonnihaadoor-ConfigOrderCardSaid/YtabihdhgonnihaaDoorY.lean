/- The document's parts of a text. -/
import Derived.Test.YtabihdhgonnihaaDoorW
import Derived.BigRegion
namespace Go.Proofs.YtabihdhgonnihaaDoor
open Go.ChangeShapes Go.WideShapes Go.ChangeAt Go.RowKit
set_option linter.unusedVariables false
set_option linter.unusedSimpArgs false

def encS (l : Str) : List Value := [.string ⟨l.toArray⟩]
theorem encS_len (l : Str) : (encS l).length = 1 := rfl
theorem encS_one (l : Str) : ∀ u ∈ encS l, u.oneCell' = true := fun u hu => by
  simp [encS] at hu; subst hu; rfl
theorem info9 : (Tryd.prog.info? 9).map (fun i => (i.zero, i.size, i.bytes)) = some (some (.string ⟨#[]⟩), 1, 16) := by kernel_rfl
theorem flatS_len (zs : List Str) : (flat encS zs).length = zs.length := by rw [flat_length encS_len, Nat.mul_one]
theorem outS_block {w : World} {B g n cap : Nat} {zs : List Str} (h : OutR 1 encS 9 w B (.slice (some ⟨g, 0, none⟩) n cap) zs) : ∃ cur, w.heap[g]? = some (.cells cur 9 (0, 0)) ∧ zs.length = n ∧ n ≤ cap ∧ cap ≤ maxLen ∧ cur.size = cap ∧ cur.toList.take n = flat encS zs ∧ B ≤ g := by
  obtain ⟨⟨h1, h2⟩, h3⟩ := h
  rcases h2 with ⟨h2, _⟩ | ⟨g', cap', cur, hv, _, h4, h5, h6, h7, h8⟩
  · cases h2
  · simp only [Value.slice.injEq, Option.some.injEq, Addr.mk.injEq] at hv
    obtain ⟨⟨rfl, -, -⟩, hn, hc⟩ := hv
    subst hn hc
    exact ⟨cur, h4, rfl, h5, h6, by simpa using h7, by simpa using h8, h3 _ rfl⟩
theorem outS_mk {w : World} {B g n cap : Nat} {cur : Array Value} {zs : List Str} (h1 : w.heap[g]? = some (.cells cur 9 (0, 0))) (h2 : zs.length = n) (h3 : n ≤ cap) (h4 : cap ≤ maxLen) (h5 : cur.size = cap) (h6 : cur.toList.take n = flat encS zs) (h7 : B ≤ g) :
    OutR 1 encS 9 w B (.slice (some ⟨g, 0, none⟩) n cap) zs :=
  ⟨⟨by rw [flatS_len]; simp, Or.inr ⟨g, cap, cur, by rw [h2], Nat.zero_le _, h1, by omega, h4, by simpa using h5, by rw [Nat.mul_one, h2]; exact h6⟩⟩, fun g' hg => by cases hg; exact h7⟩
theorem outS_last {w : World} {B g m cap : Nat} {zs : List Str} (h : OutR 1 encS 9 w B (.slice (some ⟨g, 0, none⟩) (m + 1) cap) zs) (l : Str) :
    OutR 1 encS 9 (w.setCell ⟨g, m, none⟩ (.string ⟨l.toArray⟩)) B (.slice (some ⟨g, 0, none⟩) (m + 1) cap) (zs.dropLast ++ [l]) := by
  obtain ⟨cur, h1, h2, h3, h4, h5, h6, h7⟩ := outS_block h
  refine outS_mk (set_of h1 m _) (by simp [h2]) h3 h4 (by simpa using h5) ?_ h7
  have hne : zs ≠ [] := fun e => by rw [e] at h2; cases h2
  have h8 : cur.toList.take m = flat encS zs.dropLast := by
    have := congrArg (List.take m) h6
    rw [List.take_take, Nat.min_eq_left (by omega)] at this
    rw [this]
    conv => lhs; rw [← List.dropLast_concat_getLast hne]
    unfold flat
    rw [List.flatMap_append]
    rw [List.take_append_of_le_length (by rw [show (List.flatMap encS zs.dropLast).length = zs.dropLast.length from flatS_len _, List.length_dropLast]; omega)]
    exact List.take_of_length_le (by rw [show (List.flatMap encS zs.dropLast).length = zs.dropLast.length from flatS_len _, List.length_dropLast]; omega)
  have hcl : m < cur.toList.length := by simpa using (by omega : m < cur.size)
  rw [Array.toList_setIfInBounds, List.take_succ_eq_append_getElem (by simpa using hcl), List.getElem_set_self]
  rw [List.take_set_of_le (Nat.le_refl _), h8]
  unfold flat
  rw [List.flatMap_append]
  rfl
theorem outS_cell {w : World} {B g m cap : Nat} {zs : List Str} (h : OutR 1 encS 9 w B (.slice (some ⟨g, 0, none⟩) (m + 1) cap) zs) : w.cell? ⟨g, m, none⟩ = some (.string ⟨(zs.getLastD []).toArray⟩) ∧ w.frozen? ⟨g, m, none⟩ = false := by
  obtain ⟨cur, h1, h2, h3, h4, h5, h6, h7⟩ := outS_block h
  refine ⟨?_, free_of h1 m⟩
  rw [cell_of h1]
  have hne : zs ≠ [] := fun e => by rw [e] at h2; cases h2
  have h8 : (cur.toList.take (m + 1))[m]? = (flat encS zs)[m]? := by rw [h6]
  rw [List.getElem?_take, if_pos (by omega)] at h8
  rw [show cur[m]? = cur.toList[m]? by simp, h8]
  conv => lhs; rw [← List.dropLast_concat_getLast hne]
  unfold flat
  rw [List.flatMap_append, List.getElem?_append_right (by rw [show (List.flatMap encS zs.dropLast).length = zs.dropLast.length from flatS_len _, List.length_dropLast]; omega)]
  rw [show (List.flatMap encS zs.dropLast).length = zs.dropLast.length from flatS_len _, List.length_dropLast, show m - (zs.length - 1) = 0 by omega]
  cases zs with
  | nil => exact absurd rfl hne
  | cons x l => rfl
theorem sp_len : ∀ s : Str, 1 ≤ (sp s).length ∧ (sp s).length ≤ s.length + 1
  | [] => by simp [sp]
  | b :: l => by
    have := sp_len l
    unfold sp
    split
    · simp; omega
    · simp; omega
theorem sp_last : ∀ s : Str, ((sp s).getLastD []).length ≤ s.length
  | [] => Nat.le_refl _
  | b :: l => by
    have ih := sp_last l
    have hne := sp_ne l
    unfold sp
    cases hs : sp l with
    | nil => exact absurd hs hne
    | cons x r =>
      rw [hs] at ih
      split
      · show (((x :: r) : List Str).getLast _).length ≤ _
        have : ((x :: r).getLastD ([] : Str)) = (x :: r).getLast (by simp) := rfl
        rw [this] at ih
        simp only [List.length_cons]; omega
      · cases r with
        | nil =>
          have e : ([x] : List Str).getLastD [] = x := rfl
          rw [e] at ih
          show (b :: x).length ≤ _
          simp only [List.length_cons]; omega
        | cons y r =>
          have e : ((x :: y :: r : List Str).getLastD []) = (y :: r).getLast (by simp) := rfl
          rw [e] at ih
          show (((y :: r) : List Str).getLast _).length ≤ _
          simp only [List.length_cons]; omega
theorem add_str {a b : Str} (h : a.length + b.length ≤ 1000000000) : Op.stringOp .add ⟨a.toArray⟩ ⟨b.toArray⟩ = pure (.string ⟨(a ++ b).toArray⟩) := by
  unfold Op.stringOp
  simp only []
  rw [if_neg (by rw [bsz, bsz, show IntKind.i64.max = 9223372036854775807 from rfl]; omega)]
  congr 2
def SplRel (w : World) (s : Str) (v3 v4 : Value) (wr : World) : Prop := ∃ i : Nat, i ≤ s.length ∧ v4 = .int .i64 (i : Int) ∧ OutR 1 encS 9 wr w.heap.size v3 (sp (s.take i)) ∧ Below w.heap.size w wr
set_option maxRecDepth 100000 in
set_option maxHeartbeats 2000000 in
theorem rsplit (s : Str) (hs : s.length ≤ 1000000) (w : World) : Calls Tryd.prog 52 #[.string ⟨s.toArray⟩] w fun e w' => ∃ v, e = .returned v ∧ OutR 1 encS 9 w' w.heap.size v (parts s) ∧ Below w.heap.size w w' := by
  obtain ⟨i9, hi, hz0, hz1, hz2⟩ := info_parts info9
  by_cases h0 : s = []
  · subst h0
    go_enter Tryd.func52, Tryd.ntmps52
    go_wp2_with fail
    go_ret
    exact ⟨_, rfl, ⟨⟨rfl, Or.inl ⟨rfl, rfl⟩⟩, fun g hg => by cases hg⟩, Below.refl _ _⟩
  have hp : parts s = sp s := by unfold parts; rw [if_neg h0]
  have hemp : s.isEmpty = false := by cases s with | nil => exact absurd rfl h0 | cons a l => rfl
  have HP := Lib.hid hp
  have O0 : Hid (OutR 1 encS 9 (w.alloc (.cells #[.string ⟨#[]⟩] 9)) w.heap.size (.slice (some ⟨w.heap.size, 0, none⟩) 1 1) (sp [])) := Lib.hid (outS_mk (block_new _ _) rfl (Nat.le_refl _) (by unfold maxLen; omega) rfl rfl (Nat.le_refl _))
  have A0 := Lib.hid (Below.alloc (Below.refl w.heap.size w) (Nat.le_refl _) (.cells #[.string ⟨#[]⟩] 9))
  clear hp h0
  go_enter Tryd.func52, Tryd.ntmps52
  go_wp2_with fail
  go_loopw [3, 4] (fun v3 v4 wr => SplRel w s v3 v4 wr) (fun _ v4 _ => s.length - (intOf v4).toNat)
  case atStart => exact ⟨0, Nat.zero_le _, rfl, O0.out, A0.out⟩
  case round =>
    obtain ⟨i, hil, rfl, ho, hb⟩ := hrel
    have B := Lib.hid hb
    have O := Lib.hid ho
    have hbs := hb.size
    clear hb
    by_cases hlt : i < s.length
    · have hbi := bget s i (by rw [bsz]; exact hlt)
      have SN := Lib.hid (sp_snoc (s.take i) s[i])
      rw [← List.take_succ_eq_append_getElem hlt] at SN
      have hln := sp_len (s.take i)
      have hl2 : (sp (s.take i)).length ≤ 1000001 := by rw [List.length_take] at hln; omega
      have hsl : (⟨s.toArray⟩ : ByteArray).extract i (i + 1) = ⟨#[s[i]]⟩ := by
        rw [ByteArray.extract_mk, show i + 1 - i = 1 by omega, List.drop_eq_getElem_cons hlt]; rfl
      obtain ⟨sa, sc, rfl⟩ := own_shape ho.row
      have HLL := Lib.hid (show ((sp (s.take i)).getLastD []).length ≤ 1000000 by have := sp_last (s.take i); rw [List.length_take] at this; omega)
      generalize sp (s.take i) = zs at *
      by_cases h32 : s[i] = 32
      · have e1 : ((s[i].toNat : Int) == 32) = true := by rw [h32]; rfl
        have e2 : (s[i].toNat : Int) = 32 := by rw [h32]; rfl
        rw [if_pos h32] at SN
        clear h32 ho hsl
        generalize hzl : zs.length = zl at *
        have HZ := Lib.hid hzl
        clear hzl
        go_wp2_with (at_builtin; refine wpList_append_slice _ rfl (.tmp 18) (.tmp 19) 31 rfl 9 i9 (.string ⟨#[]⟩) 1 16 Tryd.underlying31 hi hz0 hz1 hz2 rfl (by decide) _ _ _ rfl (O.out.row.alloc _) (some ⟨wr.heap.size, 0, none⟩) 1 1 (encS []) rfl rfl (fun h => (by cases h)) ?_ (encS_one _) ?_ ?_ ?_)
        · intro a ha; cases ha
          intro j u hj
          rw [addr_add, cell_of (block_new _ _), Nat.zero_add]
          simpa [encS] using hj
        · unfold maxLen; have := HZ.out; omega
        · have := HZ.out; omega
        · intro v5 w5 hro hgr hnn
          have G := O.out.grow (ys := [[]]) (Below.alloc (Below.refl _ _) (Nat.le_refl _) _) hbs (by simpa [flat] using hro) hgr (fun g hg => (hnn g hg).imp id (fun h => by simpa using h))
          have G1 := Lib.hid G.1
          have G2 := Lib.hid (B.out.trans G.2.2.1)
          clear hro hgr hnn G
          go_wp2_with fail
          go_roundw
          case rel => exact ⟨i + 1, hlt, by go_num, by rw [SN.out]; exact G1.out, G2.out⟩
          case measure => simp [intOf]; omega
      · have e1 : ((s[i].toNat : Int) == 32) = false := by
          simp; intro e; exact h32 (UInt8.toNat_inj.1 (by show s[i].toNat = 32; omega))
        rw [if_neg h32] at SN
        obtain ⟨m, hm⟩ : ∃ m, zs.length = m + 1 := ⟨zs.length - 1, by omega⟩
        rw [hm] at ho ⊢
        have hsome : ∃ g, sa = some ⟨g, 0, none⟩ := by
          rcases ho.row.2 with ⟨h, _⟩ | ⟨g, cap, cur, h, _⟩
          · cases h
          · simp only [Value.slice.injEq] at h; exact ⟨g, h.1⟩
        obtain ⟨g, rfl⟩ := hsome
        obtain ⟨hx, hfz⟩ := outS_cell ho
        have hgB : w.heap.size ≤ g := (outS_block ho).choose_spec.2.2.2.2.2.2
        have ON := Lib.hid (outS_last ho (zs.getLastD [] ++ [s[i]]))
        have hm1 : m ≤ 1000001 := by omega
        have hcat : ∀ (l : Str), (({ data := l.toArray } : ByteArray) ++ { data := #[s[i]] }) = { data := (l ++ [s[i]]).toArray } := fun l => by
          apply ByteArray.ext; simp
        have hsl2 : ∀ w, (Instr.slice 9 (.string ⟨s.toArray⟩) (some (.int .i64 (i : Int))) (some (.int .i64 ((i : Int) + 1))) none).run Tryd.prog w = .ok (.string ⟨#[s[i]]⟩) w := fun w => by
          have h := run_sl s (i := i) (j := i + 1) (by omega) hlt w
          rw [show i + 1 - i = 1 by omega, List.drop_eq_getElem_cons hlt] at h
          exact h
        have qm : IntKind.i64.wrap (m : Int) = (m : Int) := IntWalk.i64_in _ (by omega)
        have hadd := add_str (a := zs.getLastD []) (b := [s[i]]) (by have := HLL.out; show _ + 1 ≤ _; omega)
        generalize zs.getLastD [] = la at *
        generalize zs.dropLast = zd at *
        have hgl := lt_of_cell hx
        have HGB := Lib.hid hgB
        clear ho h32 hm O
        go_wp2_with fail
        go_region
        go_wp2_with fail
        go_roundw
        case rel => exact ⟨i + 1, hlt, by go_num, by rw [SN.out]; exact ON.out.below (Below.drew (Below.refl _ _)), (B.out.setCell (by have := HGB.out; simpa using this) _).drew⟩
        case measure => simp [intOf]; omega
    · have hie : s.take i = s := List.take_of_length_le (by omega)
      rw [hie] at ho
      have O2 := Lib.hid ho
      go_wp2_with fail
      go_ret
      exact ⟨_, rfl, by rw [HP.out]; exact O2.out, B.out⟩
end Go.Proofs.YtabihdhgonnihaaDoor

/- ConfigOrder: bits, and appends of strings. -/
import Derived.Test.YtabihdhgonnihaaDoorZzc
import Derived.Test.YtabihdhgonnihaaDoorZzb
import Derived.Test.YtabihdhgonnihaaDoorZv
namespace Go.Proofs.YtabihdhgonnihaaDoor
open Go.ChangeShapes Go.WideShapes Go.ChangeAt Go.RowKit
set_option linter.unusedVariables false
set_option linter.unusedSimpArgs false

theorem bit_table : ∀ n : Fin 256, (bits .and .u8 (n.val : Int) 1 == 1) = bit n.val 0 ∧ (bits .and .u8 (n.val : Int) 2 == 2) = bit n.val 1 ∧ (bits .and .u8 (n.val : Int) 4 == 4) = bit n.val 2 ∧ (bits .and .u8 (n.val : Int) 8 == 8) = bit n.val 3 := by decide +kernel
theorem shr_table : ∀ n : Fin 256, (bits .and .u8 (n.val : Int) 1 == 0) = !bit n.val 0 ∧ (bits .and .u8 ((n.val : Int) / 2) 1 == 0) = !bit n.val 1 ∧ (bits .and .u8 ((n.val : Int) / 4) 1 == 0) = !bit n.val 2 ∧ (bits .and .u8 ((n.val : Int) / 8) 1 == 0) = !bit n.val 3 := by decide +kernel
theorem ck_step (f : Cf) (n : Nat) {k : Nat} (hk : k < 4) : ck f n (k + 1) = if bit n k = true then (ck f n k).put k (dflt.at k) else ck f n k := by
  have h4 : k = 0 ∨ k = 1 ∨ k = 2 ∨ k = 3 := by omega
  rcases h4 with rfl | rfl | rfl | rfl <;> split <;> rename_i hb <;> simp [ck, Cf.put, Cf.at, dflt, hb]
structure CkW (w : World) (p q : Nat) (g : Cf) (wx : World) : Prop where
  c : wx.heap[p]? = some (.cells #[.int .i64 g.a, .int .i64 g.b, .int .i64 g.c, .int .i64 g.d] 25 (0, 0))
  d : wx.heap[q]? = some (.cells #[.int .i64 60, .int .i64 1024, .int .i64 1024, .int .i64 1024] 25 (0, 0))
  below : Below w.heap.size w wx
theorem CkW.set {w : World} {p q : Nat} {g : Cf} {wx : World} (h : CkW w p q g wx) (hp : w.heap.size ≤ p) (hpq : q ≠ p) {k : Nat} (hk : k < 4) (x : Int) : CkW w p q (g.put k x) (wx.setCell ⟨p, k, none⟩ (.int .i64 x)) := by
  have h2 := set_of h.c k (.int .i64 x)
  have h3 : (#[.int .i64 g.a, .int .i64 g.b, .int .i64 g.c, .int .i64 g.d] : Array Value).setIfInBounds k (.int .i64 x) = #[.int .i64 (g.put k x).a, .int .i64 (g.put k x).b, .int .i64 (g.put k x).c, .int .i64 (g.put k x).d] := by
    have h4 : k = 0 ∨ k = 1 ∨ k = 2 ∨ k = 3 := by omega
    rcases h4 with rfl | rfl | rfl | rfl <;> rfl
  rw [h3] at h2
  exact ⟨h2, block_set h.d (by simpa using hpq) _, h.below.setCell (by simpa using hp) _⟩
/-- An append of strings. -/
theorem run_appStr {w : World} (ty : TypeId) {B : Nat} {v : Value} {zs ds : List Str} {sp : Option Addr} {m c : Nat} (hO : OutR 1 encS 9 w B v zs) (hB : B ≤ w.heap.size) (hS : IsSl 1 encS w sp m c ds) (hlen : zs.length + m ≤ 1000) :
    ∃ v' w', (Builtin.append_ #[31, 31] ty #[v, .slice sp m c]).run Tryd.prog w = .ok v' w' ∧ OutR 1 encS 9 w' B v' (zs ++ ds) ∧ Touch (fun b => v.ownBlock = some b) w w' ∧ Below B w w' ∧ (∀ g, v'.ownBlock = some g → v.ownBlock = some g ∨ w.heap.size ≤ g) := by
  obtain ⟨i9, hi, hz0, hz1, hz2⟩ := info_parts info9
  have hal := hS.hlen
  obtain ⟨v', w', hr, h1, h2, h3⟩ := run_append_slice (P := Tryd.prog) w 31 ty 9 i9 (.string ⟨#[]⟩) 1 16 Tryd.underlying31 hi hz0 hz1 hz2 rfl (by decide) v zs.length (flat encS zs) hO.row sp m c (flat encS ds)
    (by rw [flat_length encS_len, hal]) (fun hn => ⟨by have := hS.hle; have := hS.hnone hn; omega, hS.hnone hn⟩) (fun a ha => by subst ha; exact slNews encS_len hS) (flat_one encS_one _) (by unfold maxLen; omega) (by omega)
  rw [hal] at h1
  obtain ⟨g1, g2, g3, g4⟩ := hO.grow (ys := ds) (Below.refl _ _) hB h1 h2 h3
  exact ⟨v', w', hr, g1, g2, g3, g4⟩
theorem wpList_appStrs {w : World} {ops : Array Oper} {rest : List Oper} {o : Oper} {a : Act} {Q : Exit → Act → World → Prop} (hgd : o.guard = none) (s x : Operand)
    (ho : o.op = .call { callee := .builtin .append, args := #[s, x], argTypes := #[31, 31] })
    {B : Nat} {v : Value} {zs ds : List Str} {sp : Option Addr} {m c : Nat} (hs : a.eval s = v) (hO : OutR 1 encS 9 w B v zs) (hB : B ≤ w.heap.size) (hS : IsSl 1 encS w sp m c ds)
    (hx : a.eval x = .slice sp m c) (hlen : zs.length + m ≤ 1000)
    (h : ∀ v' w', OutR 1 encS 9 w' B v' (zs ++ ds) → Touch (fun b => v.ownBlock = some b) w w' → Below B w w' → (∀ g, v'.ownBlock = some g → v.ownBlock = some g ∨ w.heap.size ≤ g) → wpList Tryd.prog ops Q rest (a.put o.dst v') w') :
    wpList Tryd.prog ops Q (o :: rest) a w := by
  refine wpList_plain hgd fun K hK => ?_
  obtain ⟨v', w', hr, h1, h2, h3, h4⟩ := run_appStr o.type hO hB hS hlen
  unfold Oper.wp execOp
  simp only [ho, resolve, invoke, builtin, Sem.run_bind, Sem.run_pure, Result.andThen_ok, List.map_toArray, List.map_cons, List.map_nil, hs, hx, hr]
  exact hK _ _ (h v' w' h1 h2 h3 h4)
theorem step_appStrs {w : World} {ops : Array Oper} {o : Oper} {a : Act} {K : Act → World → Prop} {Q : Exit → Act → World → Prop} {E : Prop} (hgd : o.guard = none) (s x : Operand)
    (ho : o.op = .call { callee := .builtin .append, args := #[s, x], argTypes := #[31, 31] })
    {B : Nat} {v : Value} {zs ds : List Str} {sp : Option Addr} {m c : Nat} (hs : a.eval s = v) (hO : OutR 1 encS 9 w B v zs) (hB : B ≤ w.heap.size) (hS : IsSl 1 encS w sp m c ds)
    (hx : a.eval x = .slice sp m c) (hlen : zs.length + m ≤ 1000)
    (h : ∀ v' w', OutR 1 encS 9 w' B v' (zs ++ ds) → Touch (fun b => v.ownBlock = some b) w w' → Below B w w' → (∀ g, v'.ownBlock = some g → v.ownBlock = some g ∨ w.heap.size ≤ g) → K (a.put o.dst v') w') :
    if Region.wanted o (yielded ops a.tmps) = true then Oper.wp Tryd.prog o a w K Q else E := by
  have hw : Region.wanted o (yielded ops a.tmps) = true := by simp [Region.wanted, hgd]
  rw [if_pos hw]
  obtain ⟨v', w', hr, h1, h2, h3, h4⟩ := run_appStr o.type hO hB hS hlen
  unfold Oper.wp execOp
  simp only [ho, resolve, invoke, builtin, Sem.run_bind, Sem.run_pure, Result.andThen_ok, List.map_toArray, List.map_cons, List.map_nil, hs, hx, hr]
  exact h v' w' h1 h2 h3 h4
theorem own_emptyS (w : World) : OutR 1 encS 9 (w.alloc (.cells #[] 9)) w.heap.size (.slice (some ⟨w.heap.size, 0, none⟩) 0 0) [] :=
  ⟨⟨rfl, Or.inr ⟨w.heap.size, 0, #[], rfl, Nat.zero_le _, block_new _ _, Nat.le_refl _, Nat.zero_le _, rfl, rfl⟩⟩, fun g hg => by cases hg; exact Nat.le_refl _⟩
theorem own_nilS (w : World) (B : Nat) : OutR 1 encS 9 w B (.slice none 0 0) [] := ⟨⟨rfl, Or.inl ⟨rfl, rfl⟩⟩, fun g hg => by cases hg⟩
theorem one_slS (w : World) (s : Str) : IsSl 1 encS (w.alloc (.cells #[.string ⟨s.toArray⟩] 9)) (some ⟨w.heap.size, 0, none⟩) 1 1 [s] :=
  IsSl.of_block (zs := [s]) (n := 1) encS_len (block_new w (.cells #[.string ⟨s.toArray⟩] 9)) rfl rfl (by unfold maxLen; omega)
theorem OutR.touchS {w w' : World} {S : Nat → Prop} {B : Nat} {v : Value} {zs : List Str} (h : OutR 1 encS 9 w B v zs) (ht : Touch S w w') (hs : ∀ k, v.ownBlock = some k → ¬ S k) : OutR 1 encS 9 w' B v zs :=
  ⟨ownsRow_touch h.1 ht hs, h.2⟩
theorem OutR.weakS {w : World} {B B' : Nat} {v : Value} {zs : List Str} (h : OutR 1 encS 9 w B v zs) (hB : B' ≤ B) : OutR 1 encS 9 w B' v zs := ⟨h.1, fun g hg => Nat.le_trans hB (h.2 g hg)⟩
theorem outS_sl {w : World} {B : Nat} {v : Value} {zs : List Str} (h : OutR 1 encS 9 w B v zs) (hne : zs ≠ []) : ∃ g cap, v = .slice (some ⟨g, 0, none⟩) zs.length cap ∧ IsSl 1 encS w (some ⟨g, 0, none⟩) zs.length cap zs ∧ B ≤ g ∧ g < w.heap.size ∧ zs.length ≤ cap ∧ (∀ i (hi : i < zs.length), w.cell? ⟨g, i, none⟩ = some (.string ⟨(zs[i]).toArray⟩)) := by
  obtain ⟨a, cap, rfl⟩ := own_shape h.1
  have hsl : IsSl 1 encS w a zs.length cap zs := IsSl.of_own encS_len h.1 rfl
  have hsome : ∃ g, a = some ⟨g, 0, none⟩ := by
    rcases h.1.2 with ⟨e, _⟩ | ⟨g, cap', cur, e, _⟩
    · exfalso
      apply hne
      simp only [Value.slice.injEq] at e
      exact List.eq_nil_of_length_eq_zero e.2.1
    · simp only [Value.slice.injEq] at e; exact ⟨g, e.1⟩
  obtain ⟨g, rfl⟩ := hsome
  refine ⟨g, cap, rfl, hsl, h.2 g rfl, own_lt h.1 rfl, hsl.hle, fun i hi => ?_⟩
  obtain ⟨b, off, e, _, hc⟩ := hsl.at_ hne
  cases e
  have := hc i hi 0 (by omega)
  simp only [Nat.mul_one, Nat.add_zero, Nat.zero_add] at this
  rw [this]; rfl
theorem l_sl {w : World} {gl : Nat} {l : List Str} (h : w.heap[gl]? = some (.cells (strs l) 9 (0, 0))) (hl : l.length ≤ 100) : IsSl 1 encS w (some ⟨gl, 0, none⟩) l.length l.length l :=
  IsSl.of_block encS_len h (by rw [flat_encS]; simp [strs]) rfl (by unfold maxLen; omega)
theorem size9 : ∀ w, (sizeOf 9).run Tryd.prog w = .ok 1 w := fun w => by kernel_rfl
theorem lz_len : ∀ o : Fin 256, (lz o.val 0).2.1.length = 4 ∧ (lz o.val 1).2.1.length = 3 ∧ (lz o.val 2).2.1.length = 2 ∧ (lz o.val 3).2.1.length = 1 ∧ (lz o.val 1).1.length = 1 ∧ (lz o.val 2).1.length = 2 ∧ (lz o.val 3).1.length = 3 := by decide +kernel
theorem lz_step (o s : Nat) {L : List Nat} (hL : (lz o s).2.1 = L) {k r : Nat} (hk : (lz o s).2.2 = k) (hr : k % (4 - s) = r) : (lz o (s + 1)).1 = (lz o s).1 ++ [L.getD r 0] ∧ (lz o (s + 1)).2.1 = L.take r ++ L.drop (r + 1) ∧ (lz o (s + 1)).2.2 = k / (4 - s) := by
  subst hL hk hr
  exact ⟨rfl, rfl, rfl⟩
theorem lz_stepS (g : Cf) (o s : Nat) {ts ls : List Str} (h1 : (lz o s).1.map (st g) = ts) (h2 : (lz o s).2.1.map (st g) = ls) {k r : Nat} (hk : (lz o s).2.2 = k) (hr : k % (4 - s) = r) (hlt : r < ls.length) :
    (lz o (s + 1)).1.map (st g) = ts ++ [ls[r]] ∧ (lz o (s + 1)).2.1.map (st g) = ls.take r ++ ls.drop (r + 1) ∧ (lz o (s + 1)).2.2 = k / (4 - s) := by
  obtain ⟨e1, e2, e3⟩ := lz_step o s rfl hk hr
  have hl2 : r < (lz o s).2.1.length := by rw [← h2, List.length_map] at hlt; exact hlt
  refine ⟨?_, ?_, e3⟩
  · rw [e1, List.map_append, h1]
    subst h2
    simp [hl2]
  · rw [e2, List.map_append, List.map_take, List.map_drop, h2]
theorem part_0 (g : Nat) {cap : Nat} (h : 0 < cap) : part (some ⟨g, 0, none⟩) 0 cap 1 = some ⟨g, 0, none⟩ := by
  unfold Go.Proofs.YtabihdhgonnihaaDoor.part
  rw [if_neg (by omega)]
  rfl
theorem e_drew {w : World} {B : Nat} {v : Value} {zs : List Str} (h : OutR 1 encS 9 w B v zs) : OutR 1 encS 9 w.drew B v zs := h.below (Below.drewR (Below.refl _ _))
theorem s_drew {w : World} {a : Option Addr} {n c : Nat} {zs : List Str} (h : IsSl 1 encS w a n c zs) : IsSl 1 encS w.drew a n c zs := h.below (Below.drewR (Below.refl _ _))
theorem w64_in {x : Int} (h0 : -100 ≤ x) (h1 : x ≤ 1000) : wrap64 x = x := by unfold wrap64; omega
theorem k64_in {x : Int} (h0 : -100 ≤ x) (h1 : x ≤ 1000) : IntKind.i64.wrap x = x := IntWalk.i64_in _ (by omega)
theorem joinTail_len (sep : Str) (hs : sep.length ≤ 2) : ∀ zs : List Str, (∀ z ∈ zs, z.length ≤ 100) → (Lib.joinTail sep zs).length ≤ 102 * zs.length
  | [], _ => by simp [Lib.joinTail]
  | z :: zs, h => by
    have ih := joinTail_len sep hs zs (fun x hx => h x (List.mem_cons_of_mem _ hx))
    have hz := h z (by simp)
    unfold Lib.joinTail at ih ⊢
    simp only [List.map_cons, List.flatten_cons, List.length_append, List.length_cons]
    omega
theorem join_len (sep : Str) (hs : sep.length ≤ 2) (zs : List Str) (h : ∀ z ∈ zs, z.length ≤ 100) : (Lib.join zs sep).length ≤ 102 * zs.length := by
  match zs, h with
  | [], _ => simp [Lib.join]
  | z :: zs, h =>
    rw [Lib.join_cons]
    have h1 := joinTail_len sep hs zs (fun x hx => h x (List.mem_cons_of_mem _ hx))
    have hz := h z (by simp)
    simp only [List.length_append, List.length_cons]
    omega
theorem replaceK_len : ∀ (k : Nat) (s : Str), (Lib.replaceK [61] [32, 61, 32] k s).length ≤ s.length + 3 * k
  | 0, s => by simp [Lib.replaceK]
  | k + 1, s => by
    unfold Lib.replaceK
    split
    · omega
    · have ih := replaceK_len k (s.drop ((Lib.index s [61]).toNat + ([61] : Str).length))
      simp only [List.length_append, List.length_take, List.length_drop, List.length_cons, List.length_nil] at ih ⊢
      omega
theorem replaceAll_len (s : Str) : (Lib.replaceAll s [61] [32, 61, 32]).length ≤ s.length + 3 * Lib.count s [61] := by
  unfold Lib.replaceAll Lib.replace Lib.replaceNum
  rw [if_neg (by decide), if_pos (Or.inl (by decide))]
  exact replaceK_len _ _
theorem join_call {w : World} {B : Nat} {v : Value} {zs : List Str} (hO : OutR 1 encS 9 w B v zs) (hz : ∀ z ∈ zs, z.length ≤ 100) (hn : zs.length ≤ 4) (sep : Str) (hs : sep.length ≤ 2) :
    ∀ w', Below w.heap.size w w' → Calls Tryd.prog 18 #[v, .string ⟨sep.toArray⟩] w' fun e w'' => e = .returned (.string ⟨(Lib.join zs sep).toArray⟩) ∧ Below w'.heap.size w' w'' := fun w' hb => by
  have hO' := hO.below hb
  have hjl := join_len sep hs zs hz
  by_cases hne : zs = []
  · subst hne
    obtain ⟨a, cap, rfl⟩ := own_shape hO'.1
    refine (Tryd.strings_Join_none a cap ⟨sep.toArray⟩ w').mono fun e w'' ⟨h1, h2⟩ => ⟨h1, by rw [h2]; exact Below.refl _ _⟩
  · obtain ⟨g, cap, rfl, hS, hB, hg, hcap, hcell⟩ := outS_sl hO' hne
    have hmap : (zs.map (fun z : Str => (⟨z.toArray⟩ : ByteArray))).map (·.data.toList) = zs := by
      rw [List.map_map]
      conv => rhs; rw [← List.map_id zs]
      exact List.map_congr_left (fun z _ => by simp)
    have hj := Tryd.strings_Join g 0 cap (zs.map (fun z : Str => (⟨z.toArray⟩ : ByteArray))) ⟨sep.toArray⟩ w' (fun j x hx => by
      obtain ⟨hl, rfl⟩ := List.getElem?_eq_some_iff.1 hx
      simp only [List.length_map] at hl
      rw [Nat.zero_add, hcell j hl]
      simp) hg (by simp; omega) (by simp; omega) (by rw [hmap]; simp; omega)
    rw [hmap, List.length_map] at hj
    simpa using hj
theorem upper_call {t : Str} (ht : t.length ≤ 1000) (ha : ∀ c ∈ t, c.toNat < 128) : ∀ w', Calls Tryd.prog 19 #[.string ⟨t.toArray⟩] w' fun e w'' => e = .returned (.string ⟨(Lib.toUpperA t).toArray⟩) ∧ Below w'.heap.size w' w'' := fun w' => by
  have := Tryd.strings_ToUpper_ascii ⟨t.toArray⟩ w' (by simp [ByteArray.size]; omega) (fun j b hb => ha b (by
    simp only [List.toList_toArray] at hb
    exact List.mem_of_getElem? hb))
  simpa using this
theorem signs_call {w : World} (h : Env w) {t : Str} (ht : t.length ≤ 1000) (hc : Lib.count t [61] ≤ t.length) : ∀ w', Below w.heap.size w w' → Calls Tryd.prog 20 #[.string ⟨t.toArray⟩, .string ⟨#[61]⟩, .string ⟨#[32, 61, 32]⟩] w' fun e w'' => e = .returned (.string ⟨(Lib.replaceAll t [61] [32, 61, 32]).toArray⟩) ∧ Below w'.heap.size w' w'' := fun w' hb => by
  obtain ⟨m, hm⟩ := (h.below hb).mx
  have := Tryd.strings_ReplaceAll ⟨t.toArray⟩ ⟨#[61]⟩ ⟨#[32, 61, 32]⟩ m w' (by simp [ByteArray.size]; omega) hm (by decide) (by
    have e : Lib.countB ⟨t.toArray⟩ ⟨#[61]⟩ = Lib.count t [61] := by unfold Lib.countB; simp
    rw [e]; simp [ByteArray.size]; omega)
  simpa using this
end Go.Proofs.YtabihdhgonnihaaDoor

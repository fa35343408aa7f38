/- Lists of replies; GetAll of the program and of the document. -/
import Derived.Test.YtlmdkcpiimpniaaDoorXe
namespace Go.Proofs.YtlmdkcpiimpniaaDoor
open Go.ChangeShapes Go.WideShapes Go.ChangeAt Go.RowKit
set_option linter.unusedVariables false
set_option linter.unusedSimpArgs false

/-- A reply, and where its lists lie. -/
structure RV where
  r : Rp
  a : Option Addr
  c : Nat
  a' : Option Addr
  c' : Nat
instance : Inhabited RV := ⟨⟨r0, none, 0, none, 0⟩⟩
def RV.cells (x : RV) : Array Value := rpV x.r x.a x.c x.a' x.c'
def enc5 (x : RV) : List Value := x.cells.toList
def LsV (w : World) (x : RV) : Prop := LsR w x.r x.a x.c x.a' x.c'
theorem enc5_len (x : RV) : (enc5 x).length = 5 := rfl
theorem enc5_one (x : RV) : ∀ u ∈ enc5 x, u.oneCell' = true := fun u hu => by
  simp [enc5, RV.cells, rpV] at hu
  rcases hu with rfl | rfl | rfl | rfl | rfl <;> rfl
theorem LsR.keepT {S : Nat → Prop} {w w' : World} {r : Rp} {a a' : Option Addr} {c c' : Nat} (h : LsR w r a c a' c') (ht : Touch S w w') (h1 : ∀ y, a = some y → ¬ S y.block) (h2 : ∀ y, a' = some y → ¬ S y.block) : LsR w' r a c a' c' :=
  ⟨h.i.keep ht (fun _ => h1), h.n.keep ht (fun _ => h2)⟩
theorem IsSl.blt {α : Type} {sz : Nat} {enc : α → List Value} {w : World} {a : Option Addr} {len cap : Nat} {zs : List α} (h : IsSl sz enc w a len cap zs) (hne : zs ≠ []) : ∀ y, a = some y → y.block < w.heap.size := fun y hy => by
  obtain ⟨b, off, rfl, hb, _⟩ := h.at_ hne
  cases hy
  exact hb
theorem ns_ne {l : List Nat} (h : l ≠ []) : ns l ≠ [] := fun e => h (by have := congrArg List.length e; rw [ns_len] at this; exact List.eq_nil_of_length_eq_zero this)
theorem info27 : (Tryd.prog.info? 27).map (fun i => (i.zero, i.size, i.bytes)) = some (some (.agg #[.int .i64 0, .int .i64 0, .bool false, .slice none 0 0, .slice none 0 0]), 5, 72) := by kernel_rfl
theorem news5 {r : RV} {w : World} {k : Nat} {t : TypeId} {f : Nat × Nat} (h : w.heap[k]? = some (.cells r.cells t f)) : ∀ j u, (enc5 r)[j]? = some u → w.cell? ((⟨k, 0, none⟩ : Addr).add j) = some u := fun j u hu => by
  rw [addr_add, cell_of h, Nat.zero_add]
  simpa [enc5] using hu
theorem block_next (w : World) (o o' : Obj) : ((w.alloc o).alloc o').heap[w.heap.size + 1]? = some o' := by
  have := block_new (w.alloc o) o'
  rwa [show (w.alloc o).heap.size = w.heap.size + 1 by simp] at this
/-- The replies read so far: their lists lie in other blocks than they do. -/
structure GaO (w : World) (B : Nat) (v : Value) (zs : List RV) : Prop where
  out : OutR 5 enc5 27 w B v zs
  ls : ∀ r ∈ zs, LsV w r
  far : ∀ r ∈ zs, ∀ g, v.ownBlock = some g → (r.r.ids ≠ [] → ∀ y, r.a = some y → y.block ≠ g) ∧ (r.r.nums ≠ [] → ∀ y, r.a' = some y → y.block ≠ g)
theorem GaO.nil (w : World) (B : Nat) : GaO w B (.slice none 0 0) [] := ⟨⟨⟨rfl, Or.inl ⟨rfl, rfl⟩⟩, fun g h => by cases h⟩, fun r hr => (by cases hr), fun r hr => (by cases hr)⟩
theorem GaO.below {w w' : World} {B : Nat} {v : Value} {zs : List RV} (h : GaO w B v zs) (hb : Below w.heap.size w w') : GaO w' B v zs := ⟨h.out.below hb, fun r hr => (h.ls r hr).keep hb, h.far⟩
/-- One more: r's lists are new since w1, or lie below B where no owner of the row lies. -/
theorem GaO.step {w1 w2 w2' w3 : World} {B : Nat} {v v' : Value} {zs : List RV} {r : RV} (h : GaO w1 B v zs) (hB : B ≤ w1.heap.size) (hb : Below w1.heap.size w1 w2) (hr : LsV w2 r)
    (h1 : ∀ y, r.a = some y → w1.heap.size ≤ y.block ∨ y.block < B) (h2 : ∀ y, r.a' = some y → w1.heap.size ≤ y.block ∨ y.block < B) (hb2 : Below w2.heap.size w2 w2')
    (hro : w3.ownsRow 0 27 5 v' (zs.length + 1) (flat enc5 zs ++ enc5 r)) (hg : w2'.grownBy w3 v.ownBlock) (hn : ∀ g, v'.ownBlock = some g → v.ownBlock = some g ∨ w2'.heap.size ≤ g) :
    GaO w3 B v' (zs ++ [r]) ∧ Below B w1 w3 := by
  have hb3 : Below w1.heap.size w1 w2' := hb.trans (hb2.mono hb.size)
  obtain ⟨g1, g2, g3, g4⟩ := h.out.grow (ys := [r]) hb3 hB (by simpa [flat] using hro) hg hn
  have ho : ∀ g, v.ownBlock = some g → g < w1.heap.size := fun g hg => own_lt h.out.row hg
  have hoB : ∀ g, v.ownBlock = some g → B ≤ g := h.out.blk
  have hT : Touch (fun k => v.ownBlock = some k) w2 w3 := (Touch.of_below hb2 _).grown hg (fun k hk _ => hk)
  refine ⟨⟨g1, fun x hx => ?_, fun x hx g hgv => ?_⟩, g3⟩
  · rcases List.mem_append.1 hx with hx | hx
    · have hl := h.ls x hx
      exact ⟨hl.i.keep g2 (fun hne y hy hs => (h.far x hx _ hs).1 (fun e => hne (by rw [e]; rfl)) y hy rfl), hl.n.keep g2 (fun hne y hy hs => (h.far x hx _ hs).2 hne y hy rfl)⟩
    · cases List.mem_singleton.1 hx
      exact hr.keepT hT (fun y hy hs => by have := h1 y hy; have := ho _ hs; have := hoB _ hs; omega) (fun y hy hs => by have := h2 y hy; have := ho _ hs; have := hoB _ hs; omega)
  · rcases List.mem_append.1 hx with hx | hx
    · have hl := h.ls x hx
      rcases hn g hgv with e | e
      · exact h.far x hx g e
      · refine ⟨fun hne y hy => ?_, fun hne y hy => ?_⟩
        · have := hl.i.blt (ns_ne hne) y hy; have := hb3.size; omega
        · have := hl.n.blt hne y hy; have := hb3.size; omega
    · cases List.mem_singleton.1 hx
      rcases hn g hgv with e | e
      · have := ho g e
        have := hoB g e
        exact ⟨fun _ y hy => by have := h1 y hy; omega, fun _ y hy => by have := h2 y hy; omega⟩
      · refine ⟨fun hne y hy => ?_, fun hne y hy => ?_⟩
        · have := hr.i.blt (ns_ne hne) y hy; have := hb2.size; omega
        · have := hr.n.blt hne y hy; have := hb2.size; omega
def rs (zs : List RV) : List Rp := zs.map RV.r
theorem rs_app (zs : List RV) (r : RV) : rs (zs ++ [r]) = rs zs ++ [r.r] := by simp [rs]
/-- What GetAll returns. -/
def GaR (w : World) (R : Option (List Rp)) (e : Ending) (w' : World) : Prop :=
  ∃ v zs, e = .returned (.tuple #[v, .int .i64 (if R.isSome = true then 0 else 15)]) ∧ Below w.heap.size w w' ∧ GaO w' w.heap.size v zs ∧ rs zs = R.getD []
/-- The first i bytes are read. -/
structure Ga (w : World) (b : List Nat) (R : Option (List Rp)) (i : Nat) (v : Value) (zs : List RV) (wr : World) : Prop where
  o : GaO wr w.heap.size v zs
  below : Below w.heap.size w wr
  eq : ∃ f, (b.drop i).length ≤ f ∧ R = allF f (b.drop i) (rs zs)
  few : zs.length ≤ i
theorem Ga.start (w : World) (b : List Nat) : Ga w b (getAllR b) 0 (.slice none 0 0) [] w := ⟨GaO.nil _ _, Below.refl _ _, ⟨b.length, Nat.le_refl _, rfl⟩, Nat.le_refl _⟩
theorem Ga.end_ {w wr : World} {b : List Nat} {R : Option (List Rp)} {i : Nat} {v : Value} {zs : List RV} (h : Ga w b R i v zs wr) (hi : b.length ≤ i) : R = some (rs zs) := by
  obtain ⟨f, _, e⟩ := h.eq
  rw [List.drop_of_length_le hi, allF_nil] at e
  exact e
theorem drop_ne {b : List Nat} {i : Nat} (hi : i < b.length) : b.drop i ≠ [] := fun e => by have := congrArg List.length e; rw [List.length_drop, List.length_nil] at this; omega
theorem Ga.bad {w wr : World} {b : List Nat} {R : Option (List Rp)} {i : Nat} {v : Value} {zs : List RV} (h : Ga w b R i v zs wr) (hi : i < b.length) (hg : getR (b.drop i) = none) : R = none := by
  obtain ⟨f, _, e⟩ := h.eq
  rw [e]
  exact allF_none (drop_ne hi) hg
theorem Ga.next {w wr : World} {b : List Nat} {R : Option (List Rp)} {i : Nat} {v : Value} {zs : List RV} (h : Ga w b R i v zs wr) (hb : By b) (hi : i < b.length) {r : Rp} {m : Nat} (hg : getR (b.drop i) = some (r, m)) : i + m ≤ b.length ∧ 5 ≤ m ∧
    ∀ x : RV, x.r = r → ∃ f, (b.drop (i + m)).length ≤ f ∧ R = allF f (b.drop (i + m)) (rs (zs ++ [x])) := by
  obtain ⟨f, hf, e⟩ := h.eq
  obtain ⟨_, _, _, _, h5, h6⟩ := get_inv (By.drop hb i) hg
  rw [List.length_drop] at h6 hf
  refine ⟨by omega, h5, fun x hx => ?_⟩
  cases f with
  | zero => omega
  | succ f =>
    refine ⟨f, by rw [List.length_drop]; omega, ?_⟩
    rw [e, allF_some (drop_ne hi) hg, List.drop_drop, rs_app, hx]
theorem ges_noneF {w w' : World} {R : Option (Rp × Nat)} {e : Ending} (hR : R = none) (h : GeS w R e w') : ∃ a c a' c', e = .returned (.tuple #[.agg #[.int .i64 0, .int .i64 0, .bool false, .slice a 0 c, .slice a' 0 c'], .int .i64 0, .int .i64 15]) ∧ Below w.heap.size w w' := by
  subst hR
  obtain ⟨a, c, a', c', rfl, _, hb, _⟩ := h
  exact ⟨a, c, a', c', rfl, hb⟩
theorem ges_someF {w w' : World} {R : Option (Rp × Nat)} {r : Rp} {m : Nat} {e : Ending} (hR : R = some (r, m)) (h : GeS w R e w') : ∃ a c a' c', e = .returned (.tuple #[.agg #[.int .i64 r.op, .int .i64 r.er, .bool r.yes, .slice a r.ids.length c, .slice a' r.nums.length c'], .int .i64 (m : Int), .int .i64 0]) ∧ LsR w' r a c a' c' ∧ Below w.heap.size w w' ∧ (∀ y, a = some y → w.heap.size ≤ y.block) ∧ (∀ y, a' = some y → w.heap.size ≤ y.block) := by
  subst hR
  obtain ⟨a, c, a', c', rfl, hl, hb, h1, h2⟩ := h
  exact ⟨a, c, a', c', rfl, hl, hb, h1, h2⟩
def lenOf : Value → Nat
  | .slice _ n _ => n
  | _ => 0
def GpRel (w : World) (b : List Nat) (R : Option (List Rp)) (v0 v4 : Value) (wr : World) : Prop := ∃ i a n c zs, i ≤ b.length ∧ v0 = .slice a n c ∧ IsK .u8 w a n c (ns (b.drop i)) ∧ Ga w b R i v4 zs wr
def GdRel (w : World) (b : List Nat) (R : Option (List Rp)) (v4 v5 : Value) (wr : World) : Prop := ∃ i zs, i ≤ b.length ∧ v5 = .int .i64 ((i : Nat) : Int) ∧ Ga w b R i v4 zs wr
set_option maxRecDepth 100000 in
set_option maxHeartbeats 16000000 in
theorem pgetall {w : World} (hE : Env w) {a : Option Addr} {n c : Nat} {b : List Nat} (h : IsK .u8 w a n c (ns b)) (hb : By b) (hl : n ≤ 1000000) : Calls Tryd.prog 17 #[.slice a n c] w (GaR w (getAllR b)) := by
  obtain ⟨i0, hi, hz0, hz1, hz2⟩ := info_parts info27
  have hn := h.u8
  have hle := h.hle; have hmx := h.hmax
  unfold maxLen at hmx
  have H := Lib.hid h; have HB := Lib.hid hb; have HN := Lib.hid hn
  have HE := Lib.hid hE
  have G0 := Lib.hid (Ga.start w b)
  generalize getAllR b = R at *
  clear h hb hn hE
  go_enter Tryd.func17, Tryd.ntmps17
  go_wp2_with fail
  go_loopw [0, 4] (fun v0 v4 wr => GpRel w b R v0 v4 wr) (fun v0 _ _ => lenOf v0)
  case atStart => exact ⟨0, a, n, c, [], Nat.zero_le _, rfl, by rw [List.drop_zero]; exact H.out, G0.out⟩
  case round =>
    obtain ⟨i, a1, n1, c1, zs, hin0, rfl, hs1, hp⟩ := hrel
    have P := Lib.hid hp
    have H1 := Lib.hid hs1
    have hn1 := hs1.u8
    rw [List.length_drop] at hn1
    have hle1 := hs1.hle
    have hn1n : n1 ≤ n := by have := HN.out; omega
    have hni : n1 + i = n := by have := HN.out; omega
    clear hp hs1 hn1 G0
    by_cases hlt : 0 < n1
    · have d1 : decide (0 < (n1 : Int)) = true := by simp; omega
      have hib : i < b.length := by have := HN.out; omega
      have PG := Lib.hid (pget (HE.out.below P.out.below) (H1.out.below P.out.below) (By.drop HB.out i) (by omega))
      have hfew := P.out.few
      cases hg : getR (b.drop i) with
      | none =>
        have PB := Lib.hid (P.out.bad hib hg)
        have PG := Lib.hid (PG.out.mono (fun e w' h => ges_noneF hg h))
        clear hg hib hin0
        go_wp2_with fail
        refine (PG.out).mono ?_; rintro e w1 ⟨xa, xc, xb, xd, rfl, hb1⟩
        have B1 := Lib.hid hb1
        have hsz := hb1.size
        clear hb1 PG
        go_wp2_with fail
        go_ret2
        have B2 := P.out.below.trans (B1.out.mono P.out.below.size)
        have A := Below.alloc (Below.refl w1.heap.size w1) (Nat.le_refl _)
        refine ⟨_, [], by rw [PB.out]; rfl, B2.trans ((A _).mono B2.size), GaO.nil _ _, by rw [PB.out]; rfl⟩
      | some p =>
        obtain ⟨r, m⟩ := p
        obtain ⟨hm1, hm2, hm3⟩ := P.out.next HB.out hib hg
        have PG := Lib.hid (PG.out.mono (fun e w' h => ges_someF hg h))
        have M3 := Lib.hid hm3
        have HM0 := Lib.hid hm1
        have hmn : m ≤ n1 := by have := HN.out; omega
        have hs := run_from Tryd.underlying31 size5x (a := a1) (len := n1) (cap := c1) (l := (m : Int)) (k := m) rfl hmn
        have ht := tail_u8 H1.out hmn
        rw [List.drop_drop] at ht
        have HT := Lib.hid ht
        generalize part a1 m c1 1 = a2 at *
        clear ht
        clear hg hm1 hm3 hib hin0
        go_wp2_with fail
        refine (PG.out).mono ?_; rintro e w1 ⟨xa, xc, xb, xd, rfl, hls, hb1, hf1, hf2⟩
        have B1 := Lib.hid hb1
        have hsz := hb1.size
        have LS := Lib.hid hls
        have F12 := Lib.hid (And.intro hf1 hf2)
        have ho := (P.out.o.below hb1).out
        have HO := Lib.hid ho
        obtain ⟨sa, sc, hv⟩ := own_shape ho.row
        subst hv
        clear hls hb1 hf1 hf2 ho PG
        generalize hzl : zs.length = zl at *
        have HZ := Lib.hid hzl
        clear hzl
        have hzn : zl ≤ 1000000 := by omega
        go_wp2_with (at_builtin; refine wpList_append_slice _ rfl (.tmp 19) (.tmp 21) 29 rfl 27 i0 (.agg #[.int .i64 0, .int .i64 0, .bool false, .slice none 0 0, .slice none 0 0]) 5 72 Tryd.underlying29 hi hz0 hz1 hz2 rfl (by decide) _ _ _ rfl ((HO.out.row.alloc _).alloc _) _ 1 _ (enc5 ⟨r, xa, xc, xb, xd⟩) rfl rfl (fun h => (by cases h)) ?_ (enc5_one _) ?_ ?_ ?_)
        · intro a ha; cases ha
          exact news5 (r := ⟨r, xa, xc, xb, xd⟩) (block_next _ _ _)
        · unfold maxLen; have := HZ.out; omega
        · have := HZ.out; omega
        · intro v5 w5 hro hgr hnn
          have A2 := (Below.alloc (Below.refl w1.heap.size w1) (Nat.le_refl _) (.cells #[.int .i64 r.op, .int .i64 r.er, .bool r.yes, .slice xa r.ids.length xc, .slice xb r.nums.length xd] 27)).alloc (by simp) (.cells #[.int .i64 r.op, .int .i64 r.er, .bool r.yes, .slice xa r.ids.length xc, .slice xb r.nums.length xd] 27)
          obtain ⟨S1, S2⟩ := P.out.o.step (r := ⟨r, xa, xc, xb, xd⟩) P.out.below.size B1.out LS.out (fun y hy => Or.inl (F12.out.1 y hy)) (fun y hy => Or.inl (F12.out.2 y hy)) A2 hro hgr (fun g hg => (hnn g hg).imp id (fun h => by simpa using h))
          have PN : Hid (Ga w b R (i + m) v5 (zs ++ [⟨r, xa, xc, xb, xd⟩]) w5) := Lib.hid ⟨S1, P.out.below.trans S2, M3.out _ rfl, by rw [List.length_append, HZ.out]; simp; omega⟩
          clear hro hgr hnn A2 S1 S2
          go_wp2_with fail
          go_roundw
          case rel => exact ⟨i + m, a2, n1 - m, c1 - m, _, HM0.out, by go_num, HT.out, PN.out⟩
          case measure => simp [lenOf]; omega
    · have d1 : decide (0 < (n1 : Int)) = false := by simp; omega
      have PE := Lib.hid (P.out.end_ (by have := HN.out; omega))
      go_wp2_with fail
      go_ret2
      exact ⟨_, zs, by rw [PE.out]; rfl, P.out.below, P.out.o, by rw [PE.out]; rfl⟩
set_option maxRecDepth 100000 in
set_option maxHeartbeats 16000000 in
theorem rgetall {w : World} {a : Option Addr} {n c : Nat} {b : List Nat} (h : IsK .u8 w a n c (ns b)) (hb : By b) (hl : n ≤ 1000000) : Calls Tryd.prog 28 #[.slice a n c] w (GaR w (getAllR b)) := by
  obtain ⟨i0, hi, hz0, hz1, hz2⟩ := info_parts info27
  have hn := h.u8
  have hle := h.hle; have hmx := h.hmax
  unfold maxLen at hmx
  have H := Lib.hid h; have HB := Lib.hid hb; have HN := Lib.hid hn
  have G0 := Lib.hid (Ga.start w b)
  generalize getAllR b = R at *
  clear h hb hn
  go_enter Tryd.func28, Tryd.ntmps28
  go_wp2_with fail
  go_loopw [4, 5] (fun v4 v5 wr => GdRel w b R v4 v5 wr) (fun _ v5 _ => n - (intOf v5).toNat)
  case atStart => exact ⟨0, [], Nat.zero_le _, rfl, G0.out⟩
  case round =>
    obtain ⟨i, zs, hin0, rfl, hp⟩ := hrel
    have P := Lib.hid hp
    have hin : i ≤ n := by rw [HN.out]; exact hin0
    clear hp G0
    by_cases hlt : i < n
    · have hib : i < b.length := by have := HN.out; omega
      have hs := run_from Tryd.underlying31 size5x (a := a) (len := n) (cap := c) (l := (i : Int)) (k := i) rfl hin
      have ht := tail_u8 H.out hin
      have PG := Lib.hid (rget (ht.below P.out.below) (By.drop HB.out i) (by omega))
      generalize part a i c 1 = a1 at *
      clear ht
      have hfew := P.out.few
      cases hg : getR (b.drop i) with
      | none =>
        have PB := Lib.hid (P.out.bad hib hg)
        have PG := Lib.hid (PG.out.mono (fun e w' h => ges_noneF hg h))
        clear hg hib hin0
        go_wp2_with fail
        refine (PG.out).mono ?_; rintro e w1 ⟨xa, xc, xb, xd, rfl, hb1⟩
        have B1 := Lib.hid hb1
        have hsz := hb1.size
        clear hb1 PG
        go_wp2_with fail
        go_ret2
        have B2 := P.out.below.trans (B1.out.mono P.out.below.size)
        have A := Below.alloc (Below.refl w1.heap.size w1) (Nat.le_refl _)
        refine ⟨_, [], by rw [PB.out]; rfl, B2.trans ((A _).mono B2.size), GaO.nil _ _, by rw [PB.out]; rfl⟩
      | some p =>
        obtain ⟨r, m⟩ := p
        obtain ⟨hm1, hm2, hm3⟩ := P.out.next HB.out hib hg
        have PG := Lib.hid (PG.out.mono (fun e w' h => ges_someF hg h))
        have M3 := Lib.hid hm3
        have HM0 := Lib.hid hm1
        have hmn : i + m ≤ n := by have := HN.out; omega
        clear hg hm1 hm3 hib hin0
        go_wp2_with fail
        refine (PG.out).mono ?_; rintro e w1 ⟨xa, xc, xb, xd, rfl, hls, hb1, hf1, hf2⟩
        have B1 := Lib.hid hb1
        have hsz := hb1.size
        have LS := Lib.hid hls
        have F12 := Lib.hid (And.intro hf1 hf2)
        have ho := (P.out.o.below hb1).out
        have HO := Lib.hid ho
        obtain ⟨sa, sc, hv⟩ := own_shape ho.row
        subst hv
        clear hls hb1 hf1 hf2 ho PG
        generalize hzl : zs.length = zl at *
        have HZ := Lib.hid hzl
        clear hzl
        have hzn : zl ≤ 1000000 := by omega
        go_wp2_with (at_builtin; refine wpList_append_slice _ rfl (.tmp 24) (.tmp 26) 29 rfl 27 i0 (.agg #[.int .i64 0, .int .i64 0, .bool false, .slice none 0 0, .slice none 0 0]) 5 72 Tryd.underlying29 hi hz0 hz1 hz2 rfl (by decide) _ _ _ rfl ((HO.out.row.alloc _).alloc _) _ 1 _ (enc5 ⟨r, xa, xc, xb, xd⟩) rfl rfl (fun h => (by cases h)) ?_ (enc5_one _) ?_ ?_ ?_)
        · intro a ha; cases ha
          exact news5 (r := ⟨r, xa, xc, xb, xd⟩) (block_next _ _ _)
        · unfold maxLen; have := HZ.out; omega
        · have := HZ.out; omega
        · intro v5 w5 hro hgr hnn
          have A2 := (Below.alloc (Below.refl w1.heap.size w1) (Nat.le_refl _) (.cells #[.int .i64 r.op, .int .i64 r.er, .bool r.yes, .slice xa r.ids.length xc, .slice xb r.nums.length xd] 27)).alloc (by simp) (.cells #[.int .i64 r.op, .int .i64 r.er, .bool r.yes, .slice xa r.ids.length xc, .slice xb r.nums.length xd] 27)
          obtain ⟨S1, S2⟩ := P.out.o.step (r := ⟨r, xa, xc, xb, xd⟩) P.out.below.size B1.out LS.out (fun y hy => Or.inl (F12.out.1 y hy)) (fun y hy => Or.inl (F12.out.2 y hy)) A2 hro hgr (fun g hg => (hnn g hg).imp id (fun h => by simpa using h))
          have PN : Hid (Ga w b R (i + m) v5 (zs ++ [⟨r, xa, xc, xb, xd⟩]) w5) := Lib.hid ⟨S1, P.out.below.trans S2, M3.out _ rfl, by rw [List.length_append, HZ.out]; simp; omega⟩
          clear hro hgr hnn A2 S1 S2
          go_wp2_with fail
          go_roundw
          case rel => exact ⟨i + m, _, HM0.out, by go_num, PN.out⟩
          case measure => simp [intOf]; omega
    · have PE := Lib.hid (P.out.end_ (by have := HN.out; omega))
      go_wp2_with fail
      go_ret2
      exact ⟨_, zs, by rw [PE.out]; rfl, P.out.below, P.out.o, by rw [PE.out]; rfl⟩
end Go.Proofs.YtlmdkcpiimpniaaDoor

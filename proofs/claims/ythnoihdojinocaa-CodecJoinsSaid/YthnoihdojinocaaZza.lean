/- Bytes are divided into commands, by both. -/
import Derived.Test.YthnoihdojinocaaZz
import Derived.Test.YthnoihdojinocaaZw
import Derived.Test.YthnoihdojinocaaZx
namespace Go.Proofs.Ythnoihdojinocaa
open Go.ChangeShapes Go.WideShapes Go.ChangeAt Go.RowKit
set_option linter.unusedSimpArgs false
set_option linter.unusedVariables false

theorem info27 : (Try.prog.info? 27).map (fun i => (i.zero, i.size, i.bytes)) = some (some (.agg #[.int .i64 0, .int .u64 0, .int .u64 0, .int .i64 0, .int .i64 0, .slice none 0 0, .slice none 0 0]), 7, 88) := by kernel_rfl
theorem news7 {r : RV} {w : World} {k : Nat} {t : TypeId} {f : Nat × Nat} (h : w.heap[k]? = some (.cells r.cells t f)) : ∀ j u, (enc7 r)[j]? = some u → w.cell? ((⟨k, 0, none⟩ : Addr).add j) = some u := fun j u hu => by
  rw [addr_add, cell_of h, Nat.zero_add]
  simpa [enc7] using hu
theorem block_next (w : World) (o o' : Obj) : ((w.alloc o).alloc o').heap[w.heap.size + 1]? = some o' := by
  have := block_new (w.alloc o) o'
  rwa [show (w.alloc o).heap.size = w.heap.size + 1 by simp] at this
/-- The commands read so far: their lists lie in other blocks than they do. -/
structure GaO (w : World) (B : Nat) (v : Value) (zs : List RV) : Prop where
  out : OutR 7 enc7 27 w B v zs
  ls : ∀ r ∈ zs, LsR w r
  far : ∀ r ∈ zs, ∀ g, v.ownBlock = some g → (r.c.d ≠ [] → ∀ y, r.ad = some y → y.block ≠ g) ∧ (r.c.b ≠ [] → ∀ y, r.ab = some y → y.block ≠ g)
theorem GaO.nil (w : World) (B : Nat) : GaO w B (.slice none 0 0) [] := ⟨⟨⟨rfl, Or.inl ⟨rfl, rfl⟩⟩, fun g h => by cases h⟩, fun r hr => (by cases hr), fun r hr => (by cases hr)⟩
theorem GaO.below {w w' : World} {B : Nat} {v : Value} {zs : List RV} (h : GaO w B v zs) (hb : Below w.heap.size w w') : GaO w' B v zs := ⟨h.out.below hb, fun r hr => (h.ls r hr).keep hb, h.far⟩
theorem GaO.step {w1 w2 w2' w3 : World} {B : Nat} {v v' : Value} {zs : List RV} {r : RV} (h : GaO w1 B v zs) (hB : B ≤ w1.heap.size) (hb : Below w1.heap.size w1 w2) (hr : LsR w2 r)
    (h1 : ∀ y, r.ad = some y → w1.heap.size ≤ y.block) (h2 : ∀ y, r.ab = some y → w1.heap.size ≤ y.block) (hb2 : Below w2.heap.size w2 w2')
    (hro : w3.ownsRow 0 27 7 v' (zs.length + 1) (flat enc7 zs ++ enc7 r)) (hg : w2'.grownBy w3 v.ownBlock) (hn : ∀ g, v'.ownBlock = some g → v.ownBlock = some g ∨ w2'.heap.size ≤ g) :
    GaO w3 B v' (zs ++ [r]) ∧ Below B w1 w3 := by
  have hb3 : Below w1.heap.size w1 w2' := hb.trans (hb2.mono hb.size)
  obtain ⟨g1, g2, g3, g4⟩ := h.out.grow (ys := [r]) hb3 hB (by simpa [flat] using hro) hg hn
  have ho : ∀ g, v.ownBlock = some g → g < w1.heap.size := fun g hg => own_lt h.out.row hg
  have hT : Touch (fun k => v.ownBlock = some k) w2 w3 := (Touch.of_below hb2 _).grown hg (fun k hk _ => hk)
  refine ⟨⟨g1, fun x hx => ?_, fun x hx g hgv => ?_⟩, g3⟩
  · rcases List.mem_append.1 hx with hx | hx
    · have hl := h.ls x hx
      exact ⟨hl.d.keep g2 (fun hne y hy hs => (h.far x hx _ hs).1 (fun e => hne (by rw [e]; rfl)) y hy rfl), hl.b.keep g2 (fun hne y hy hs => (h.far x hx _ hs).2 hne y hy rfl)⟩
    · cases List.mem_singleton.1 hx
      exact hr.keepT hT (fun y hy hs => by have := h1 y hy; have := ho _ hs; omega) (fun y hy hs => by have := h2 y hy; have := ho _ hs; omega)
  · rcases List.mem_append.1 hx with hx | hx
    · have hl := h.ls x hx
      rcases hn g hgv with e | e
      · exact h.far x hx g e
      · refine ⟨fun hne y hy => ?_, fun hne y hy => ?_⟩
        · have := hl.d.blt (ns_ne hne) y hy; have := hb3.size; omega
        · have := hl.b.blt hne y hy; have := hb3.size; omega
    · cases List.mem_singleton.1 hx
      rcases hn g hgv with e | e
      · have := ho g e
        exact ⟨fun _ y hy => by have := h1 y hy; omega, fun _ y hy => by have := h2 y hy; omega⟩
      · refine ⟨fun hne y hy => ?_, fun hne y hy => ?_⟩
        · have := hr.d.blt (ns_ne hne) y hy; have := hb2.size; omega
        · have := hr.b.blt hne y hy; have := hb2.size; omega
def GaR (w : World) (g : List Cm × Nat × Bool) (e : Ending) (w' : World) : Prop :=
  ∃ v' zs, e = .returned (.tuple #[v', .int .i64 (g.2.1 : Nat), .int .i64 (if g.2.2 then 0 else 15)]) ∧ Below w.heap.size w w' ∧ GaO w' w.heap.size v' zs ∧ cs zs = g.1
/-- The first i bytes are divided. -/
structure Ga (w : World) (b : List Nat) (i : Nat) (v : Value) (zs : List RV) (wr : World) : Prop where
  o : GaO wr w.heap.size v zs
  below : Below w.heap.size w wr
  eq : getAll b = (cs zs ++ (getAll (b.drop i)).1, i + (getAll (b.drop i)).2.1, (getAll (b.drop i)).2.2)
  few : 2 * zs.length ≤ i
def GaRel (w : World) (b : List Nat) (v5 v6 : Value) (wr : World) : Prop := ∃ i zs, i ≤ b.length ∧ v6 = .int .i64 ((i : Nat) : Int) ∧ Ga w b i v5 zs wr
theorem Ga.end_ {w wr : World} {b : List Nat} {v : Value} {zs : List RV} (h : Ga w b b.length v zs wr) : getAll b = (cs zs, b.length, true) := by
  have := h.eq
  rw [List.drop_length, getAll_nil] at this
  simpa using this
theorem Ga.bad {w wr : World} {b : List Nat} {i : Nat} {v : Value} {zs : List RV} (h : Ga w b i v zs wr) (hi : i < b.length) (hg : get (b.drop i) = none) : getAll b = (cs zs, i, false) := by
  have := h.eq
  rw [getAll_none (fun e => by have := congrArg List.length e; rw [List.length_drop] at this; simp at this; omega) hg] at this
  simpa using this
theorem Ga.next {w wr : World} {b : List Nat} {i : Nat} {v : Value} {zs : List RV} (h : Ga w b i v zs wr) (hb : By b) {c : Cm} {m : Nat} (hg : get (b.drop i) = some (c, m)) : m + i ≤ b.length ∧ 2 ≤ m ∧
    ∀ r : RV, r.c = c → getAll b = (cs (zs ++ [r]) ++ (getAll (b.drop (i + m))).1, (i + m) + (getAll (b.drop (i + m))).2.1, (getAll (b.drop (i + m))).2.2) := by
  obtain ⟨_, _, _, _, h5, h6⟩ := get_some (hb.drop i) hg
  rw [List.length_drop] at h5
  refine ⟨by omega, h6, fun r hr => ?_⟩
  have := h.eq
  rw [getAll_some (hb.drop i) hg, List.drop_drop] at this
  rw [this]
  simp [cs, hr, Nat.add_assoc]
set_option maxRecDepth 100000 in
set_option maxHeartbeats 16000000 in
theorem pgetall {w : World} {a : Option Addr} {n c : Nat} {b : List Nat} (h : IsK .u8 w a n c (ns b)) (hb : By b) (hl : n ≤ 900000) : Calls Try.prog 34 #[.slice a n c] w (GaR w (getAll b)) := by
  obtain ⟨i0, hi, hz0, hz1, hz2⟩ := info_parts info27
  have hn := h.u8
  have hle := h.hle; have hmx := h.hmax
  unfold maxLen at hmx
  have H := Lib.hid h; have HB := Lib.hid hb; have HN := Lib.hid hn
  clear h hb hn
  go_enter Try.func34, Try.ntmps34
  go_wp2_with fail
  go_loopw [5, 6] (fun v5 v6 wr => GaRel w b v5 v6 wr) (fun _ v6 _ => n - (intOf v6).toNat)
  case atStart => exact ⟨0, [], Nat.zero_le _, rfl, GaO.nil _ _, Below.refl _ _, by simp [cs], by simp⟩
  case round =>
    obtain ⟨i, zs, hin0, rfl, hp⟩ := hrel
    have P := Lib.hid hp
    have hin : i ≤ n := by rw [HN.out]; exact hin0
    clear hp hin0
    by_cases hlt : i < n
    · have hs := run_from Try.underlying29 size1 (a := a) (len := n) (cap := c) (l := (i : Int)) (k := i) rfl hin
      have ht := H.out.tail hin
      have hdr : (ns b).drop i = ns (b.drop i) := by simp [ns]
      rw [hdr] at ht
      generalize part a i c 1 = a1 at *
      have PG := Lib.hid (pgetF (ht.below P.out.below) (HB.out.drop i))
      clear ht hdr
      cases hg : get (b.drop i) with
      | none =>
        rw [hg] at PG
        have PB := Lib.hid (P.out.bad (by have := HN.out; omega) hg)
        generalize getAll b = ga at *
        clear hg
        unfold GetF getV at PG
        go_wp2_with fail
        refine (PG.out).mono ?_; rintro e w1 ⟨ad, cd, ab, cb, rfl, hls, hb1, hf1, hf2⟩
        have B1 := Lib.hid hb1
        have hsz := hb1.size
        clear hls hb1 hf1 hf2 PG
        unfold cmV
        dsimp only
        go_wp2_with fail
        go_ret3
        have B2 := P.out.below.trans (B1.out.mono P.out.below.size)
        have A := Below.alloc (Below.refl w1.heap.size w1) (Nat.le_refl _)
        refine ⟨_, zs, by rw [PB.out]; rfl, B2.trans ((A _).mono B2.size), (P.out.o.below B1.out).below (A _), by rw [PB.out]⟩
      | some p =>
        obtain ⟨cm, m⟩ := p
        rw [hg] at PG
        obtain ⟨hm1, hm2, hm3⟩ := P.out.next HB.out hg
        have M3 := Lib.hid hm3
        have hmn : m + i ≤ n := by rw [HN.out]; exact hm1
        have hm0 : i + m ≤ b.length := by omega
        have HM0 := Lib.hid hm0
        clear hg hm1 hm3 hm0
        unfold GetF getV at PG
        go_wp2_with fail
        refine (PG.out).mono ?_; rintro e w1 ⟨ad, cd, ab, cb, rfl, hls, hb1, hf1, hf2⟩
        have B1 := Lib.hid hb1
        have hsz := hb1.size
        have LS := Lib.hid hls
        have F12 := Lib.hid (And.intro hf1 hf2)
        have ho := (P.out.o.below hb1).out
        have HO := Lib.hid ho
        obtain ⟨sa, sc, hv⟩ := own_shape ho.row
        subst hv
        have hfew := P.out.few
        clear hls hb1 hf1 hf2 ho PG
        unfold cmV at *
        dsimp only at *
        generalize hzl : zs.length = zl at *
        have HZ := Lib.hid hzl
        clear hzl
        go_wp2_with (at_builtin; refine wpList_append_slice _ rfl (.tmp 26) (.tmp 28) 49 rfl 27 i0 (.agg #[.int .i64 0, .int .u64 0, .int .u64 0, .int .i64 0, .int .i64 0, .slice none 0 0, .slice none 0 0]) 7 88 Try.underlying49 hi hz0 hz1 hz2 rfl (by decide) _ _ _ rfl ((HO.out.row.alloc _).alloc _) _ 1 _ (enc7 ⟨cm, ad, cd, ab, cb⟩) rfl rfl (fun h => (by cases h)) ?_ (enc7_one _) ?_ ?_ ?_)
        · intro a ha; cases ha
          exact news7 (r := ⟨cm, ad, cd, ab, cb⟩) (block_next _ _ _)
        · unfold maxLen; have := HZ.out; omega
        · have := HZ.out; omega
        · intro v5 w5 hro hgr hnn
          have A2 := (Below.alloc (Below.refl w1.heap.size w1) (Nat.le_refl _) (.cells #[.int .i64 cm.op, .int .u64 (cm.u : Nat), .int .u64 (cm.v : Nat), .int .i64 cm.w, .int .i64 cm.t, .slice ad cm.d.length cd, .slice ab cm.b.length cb] 27)).alloc (by simp) (.cells #[.int .i64 cm.op, .int .u64 (cm.u : Nat), .int .u64 (cm.v : Nat), .int .i64 cm.w, .int .i64 cm.t, .slice ad cm.d.length cd, .slice ab cm.b.length cb] 27)
          obtain ⟨S1, S2⟩ := P.out.o.step (r := ⟨cm, ad, cd, ab, cb⟩) P.out.below.size B1.out LS.out F12.out.1 F12.out.2 A2 hro hgr (fun g hg => (hnn g hg).imp id (fun h => by simpa using h))
          have PN : Hid (Ga w b (i + m) v5 (zs ++ [⟨cm, ad, cd, ab, cb⟩]) w5) := Lib.hid ⟨S1, P.out.below.trans S2, M3.out _ rfl, by rw [List.length_append, HZ.out]; simp; omega⟩
          clear hro hgr hnn A2 S1 S2
          go_wp2_with fail
          go_roundw
          case rel => exact ⟨i + m, _, HM0.out, by go_num, PN.out⟩
          case measure => simp [intOf]; omega
    · have hie : i = b.length := by have := HN.out; omega
      subst hie
      have PE := Lib.hid P.out.end_
      go_wp2_with fail
      go_ret3
      exact ⟨_, zs, by rw [PE.out]; rfl, P.out.below, P.out.o, by rw [PE.out]⟩
set_option maxRecDepth 100000 in
set_option maxHeartbeats 16000000 in
theorem rgetall {w : World} {a : Option Addr} {n c : Nat} {b : List Nat} (h : IsK .u8 w a n c (ns b)) (hb : By b) (hl : n ≤ 900000) : Calls Try.prog 35 #[.slice a n c] w (GaR w (getAll b)) := by
  obtain ⟨i0, hi, hz0, hz1, hz2⟩ := info_parts info27
  have hn := h.u8
  have hle := h.hle; have hmx := h.hmax
  unfold maxLen at hmx
  have H := Lib.hid h; have HB := Lib.hid hb; have HN := Lib.hid hn
  clear h hb hn
  go_enter Try.func35, Try.ntmps35
  go_wp2_with fail
  go_loopw [5, 6] (fun v5 v6 wr => GaRel w b v5 v6 wr) (fun _ v6 _ => n - (intOf v6).toNat)
  case atStart => exact ⟨0, [], Nat.zero_le _, rfl, GaO.nil _ _, Below.refl _ _, by simp [cs], by simp⟩
  case round =>
    obtain ⟨i, zs, hin0, rfl, hp⟩ := hrel
    have P := Lib.hid hp
    have hin : i ≤ n := by rw [HN.out]; exact hin0
    clear hp hin0
    by_cases hlt : i < n
    · have hs := run_from Try.underlying29 size1 (a := a) (len := n) (cap := c) (l := (i : Int)) (k := i) rfl hin
      have ht := H.out.tail hin
      have hdr : (ns b).drop i = ns (b.drop i) := by simp [ns]
      rw [hdr] at ht
      generalize part a i c 1 = a1 at *
      have PG := Lib.hid (rgetF (ht.below P.out.below) (HB.out.drop i) (by have := HN.out; rw [List.length_drop]; omega))
      clear ht hdr
      cases hg : get (b.drop i) with
      | none =>
        rw [hg] at PG
        have PB := Lib.hid (P.out.bad (by have := HN.out; omega) hg)
        generalize getAll b = ga at *
        clear hg
        unfold GetF getV at PG
        go_wp2_with fail
        refine (PG.out).mono ?_; rintro e w1 ⟨ad, cd, ab, cb, rfl, hls, hb1, hf1, hf2⟩
        have B1 := Lib.hid hb1
        have hsz := hb1.size
        clear hls hb1 hf1 hf2 PG
        unfold cmV
        dsimp only
        go_wp2_with fail
        go_ret3
        have B2 := P.out.below.trans (B1.out.mono P.out.below.size)
        have A := Below.alloc (Below.refl w1.heap.size w1) (Nat.le_refl _)
        refine ⟨_, zs, by rw [PB.out]; rfl, B2.trans ((A _).mono B2.size), (P.out.o.below B1.out).below (A _), by rw [PB.out]⟩
      | some p =>
        obtain ⟨cm, m⟩ := p
        rw [hg] at PG
        obtain ⟨hm1, hm2, hm3⟩ := P.out.next HB.out hg
        have M3 := Lib.hid hm3
        have hmn : m + i ≤ n := by rw [HN.out]; exact hm1
        have hm0 : i + m ≤ b.length := by omega
        have HM0 := Lib.hid hm0
        clear hg hm1 hm3 hm0
        unfold GetF getV at PG
        go_wp2_with fail
        refine (PG.out).mono ?_; rintro e w1 ⟨ad, cd, ab, cb, rfl, hls, hb1, hf1, hf2⟩
        have B1 := Lib.hid hb1
        have hsz := hb1.size
        have LS := Lib.hid hls
        have F12 := Lib.hid (And.intro hf1 hf2)
        have ho := (P.out.o.below hb1).out
        have HO := Lib.hid ho
        obtain ⟨sa, sc, hv⟩ := own_shape ho.row
        subst hv
        have hfew := P.out.few
        clear hls hb1 hf1 hf2 ho PG
        unfold cmV at *
        dsimp only at *
        generalize hzl : zs.length = zl at *
        have HZ := Lib.hid hzl
        clear hzl
        go_wp2_with (at_builtin; refine wpList_append_slice _ rfl (.tmp 26) (.tmp 28) 49 rfl 27 i0 (.agg #[.int .i64 0, .int .u64 0, .int .u64 0, .int .i64 0, .int .i64 0, .slice none 0 0, .slice none 0 0]) 7 88 Try.underlying49 hi hz0 hz1 hz2 rfl (by decide) _ _ _ rfl ((HO.out.row.alloc _).alloc _) _ 1 _ (enc7 ⟨cm, ad, cd, ab, cb⟩) rfl rfl (fun h => (by cases h)) ?_ (enc7_one _) ?_ ?_ ?_)
        · intro a ha; cases ha
          exact news7 (r := ⟨cm, ad, cd, ab, cb⟩) (block_next _ _ _)
        · unfold maxLen; have := HZ.out; omega
        · have := HZ.out; omega
        · intro v5 w5 hro hgr hnn
          have A2 := (Below.alloc (Below.refl w1.heap.size w1) (Nat.le_refl _) (.cells #[.int .i64 cm.op, .int .u64 (cm.u : Nat), .int .u64 (cm.v : Nat), .int .i64 cm.w, .int .i64 cm.t, .slice ad cm.d.length cd, .slice ab cm.b.length cb] 27)).alloc (by simp) (.cells #[.int .i64 cm.op, .int .u64 (cm.u : Nat), .int .u64 (cm.v : Nat), .int .i64 cm.w, .int .i64 cm.t, .slice ad cm.d.length cd, .slice ab cm.b.length cb] 27)
          obtain ⟨S1, S2⟩ := P.out.o.step (r := ⟨cm, ad, cd, ab, cb⟩) P.out.below.size B1.out LS.out F12.out.1 F12.out.2 A2 hro hgr (fun g hg => (hnn g hg).imp id (fun h => by simpa using h))
          have PN : Hid (Ga w b (i + m) v5 (zs ++ [⟨cm, ad, cd, ab, cb⟩]) w5) := Lib.hid ⟨S1, P.out.below.trans S2, M3.out _ rfl, by rw [List.length_append, HZ.out]; simp; omega⟩
          clear hro hgr hnn A2 S1 S2
          go_wp2_with fail
          go_roundw
          case rel => exact ⟨i + m, _, HM0.out, by go_num, PN.out⟩
          case measure => simp [intOf]; omega
    · have hie : i = b.length := by have := HN.out; omega
      subst hie
      have PE := Lib.hid P.out.end_
      go_wp2_with fail
      go_ret3
      exact ⟨_, zs, by rw [PE.out]; rfl, P.out.below, P.out.o, by rw [PE.out]⟩
end Go.Proofs.Ythnoihdojinocaa

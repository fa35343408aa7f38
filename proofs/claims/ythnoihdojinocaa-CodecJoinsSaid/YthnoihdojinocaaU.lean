/- Numbers are read from a reader. -/
import Derived.Test.YthnoihdojinocaaJ
namespace Go.Proofs.Ythnoihdojinocaa
open Go.ChangeShapes Go.WideShapes Go.ChangeAt Go.RowKit
set_option linter.unusedVariables false
set_option linter.unusedSimpArgs false

/-- The two lists of a command. -/
structure LsAt (w : World) (c : Cm) (ad : Option Addr) (cd : Nat) (ab : Option Addr) (cb : Nat) : Prop where
  d : IsK .u64 w ad c.d.length cd (ns c.d)
  b : IsK .i64 w ab c.b.length cb c.b
theorem LsAt.keep {w w' : World} {c : Cm} {ad ab : Option Addr} {cd cb : Nat} (h : LsAt w c ad cd ab cb) (hb : Below w.heap.size w w') : LsAt w' c ad cd ab cb := ⟨h.d.below hb, h.b.below hb⟩
theorem ns_ne {l : List Nat} (h : l ≠ []) : ns l ≠ [] := fun e => h (by simpa [ns] using e)
theorem IsSl.blt {α : Type} {sz : Nat} {enc : α → List Value} {w : World} {a : Option Addr} {len cap : Nat} {zs : List α} (h : IsSl sz enc w a len cap zs) (hne : zs ≠ []) : ∀ y, a = some y → y.block < w.heap.size := fun y hy => by
  obtain ⟨b, off, e, hb, _⟩ := h.at_ hne
  rw [hy] at e; cases e; exact hb
/-- A reader in block k, with the rest of its bytes; of the blocks of w0 none but k has changed. -/
structure KR (w0 : World) (k : Nat) (r : List Nat) (wr : World) : Prop where
  row : ∃ a n c, wr.heap[k]? = some (.cells #[.slice a n c] 67 (0, 0)) ∧ IsK .u8 w0 a n c (ns r) ∧ (r ≠ [] → ∀ y, a = some y → y.block ≠ k)
  below : Touch (fun i => i = k) w0 wr
  bytes : By r
theorem touch_drewN {S : Nat → Prop} {a w : World} (h : Touch S a w) (n : Nat) : Touch S a (w.drewN n) := h.trans (Touch.of_below (below_drewN (Below.refl _ _) n) S)
theorem drewN_heap (w : World) (n : Nat) : (w.drewN n).heap = w.heap := by
  induction n with
  | zero => rfl
  | succ n ih => first | exact ih | (rw [World.drewN]; exact ih)
theorem KR.drew {w0 wr : World} {k : Nat} {r : List Nat} (h : KR w0 k r wr) : KR w0 k r wr.drew := ⟨h.row, h.below.drew, h.bytes⟩
theorem KR.drewN {w0 wr : World} {k : Nat} {r : List Nat} (h : KR w0 k r wr) (n : Nat) : KR w0 k r (wr.drewN n) := ⟨by rw [drewN_heap]; exact h.row, touch_drewN h.below n, h.bytes⟩
theorem KR.alloc {w0 wr : World} {k : Nat} {r : List Nat} (h : KR w0 k r wr) (o : Obj) : KR w0 k r (wr.alloc o) := by
  obtain ⟨⟨a, n, c, h1, h2⟩, h3, h5⟩ := h
  exact ⟨⟨a, n, c, block_old h1 o, h2⟩, h3.alloc o, h5⟩
theorem KR.other {w0 wr : World} {k : Nat} {r : List Nat} (h : KR w0 k r wr) {p : Addr} (hp : p.block ≠ k) (hb : w0.heap.size ≤ p.block) (v : Value) : KR w0 k r (wr.setCell p v) := by
  obtain ⟨⟨a, n, c, h1, h2⟩, h3, h5⟩ := h
  exact ⟨⟨a, n, c, block_set h1 (fun e => hp e.symm) v, h2⟩, h3.setCell (fun hlt => absurd hlt (by omega)) v, h5⟩
/-- The bytes, in the reader's own world. -/
theorem KR.sl {w0 wr : World} {k : Nat} {r : List Nat} {a : Option Addr} {n c : Nat} (hS : IsK .u8 w0 a n c (ns r)) (hn : r ≠ [] → ∀ y, a = some y → y.block ≠ k) (h : Touch (fun i => i = k) w0 wr) : IsK .u8 wr a n c (ns r) :=
  hS.keep h (fun hne x hx => hn (fun e => hne (by rw [e]; rfl)) x hx)
theorem KR.rebase {w0 wr : World} {k : Nat} {r : List Nat} (h : KR w0 k r wr) : KR wr k r wr := by
  obtain ⟨⟨a, n, c, h1, h2, h4⟩, h3, h5⟩ := h
  exact ⟨⟨a, n, c, h1, KR.sl h2 h4 h3, h4⟩, Touch.refl _ _, h5⟩
/-- What a reader panics with. -/
abbrev PN : Ending := .panicked [{ v := .iface 87 (.agg #[]), recovered := false }]
def KRu (w0 : World) (k b o : Nat) (cs : Array Value) (t : TypeId) (w : World) (r : List Nat) (f : Nat → Value) (e : Ending) (w' : World) : Prop := match gu r with
  | none => e = PN ∧ Touch (fun i => i = k) w0 w'
  | some (v, m) => e = .returned (.tuple #[]) ∧ KR w0 k (r.drop m) w' ∧ w'.heap[b]? = some (.cells (cs.setIfInBounds o (f v)) t (0, 0)) ∧ Touch (fun i => i = b ∨ i = k) w w'
theorem size1 : ∀ w, (sizeOf 5).run Try.prog w = .ok 1 w := fun w => by kernel_rfl
theorem kr_done {w0 w w1 : World} {k b o m n c : Nat} {r : List Nat} {a : Option Addr} {cs : Array Value} {t : TypeId} {v : Value} (hk : w.heap[k]? = some (.cells #[.slice a n c] 67 (0, 0))) (hS : IsK .u8 w0 a n c (ns r)) (hN : r ≠ [] → ∀ y, a = some y → y.block ≠ k) (hB : Touch (fun i => i = k) w0 w) (hby : By r)
    (hc : w.heap[b]? = some (.cells cs t (0, 0))) (hne : b ≠ k) (hb : w0.heap.size ≤ b) (hm : m ≤ n) (h1 : w1.heap = w.heap) (h2 : Below w.heap.size w w1) :
    KR w0 k (r.drop m) ((w1.setCell ⟨b, o, none⟩ v).setCell ⟨k, 0, none⟩ (.slice (part a m c 1) (n - m) (c - m))) ∧ ((w1.setCell ⟨b, o, none⟩ v).setCell ⟨k, 0, none⟩ (.slice (part a m c 1) (n - m) (c - m))).heap[b]? = some (.cells (cs.setIfInBounds o v) t (0, 0)) ∧
      Touch (fun i => i = b ∨ i = k) w ((w1.setCell ⟨b, o, none⟩ v).setCell ⟨k, 0, none⟩ (.slice (part a m c 1) (n - m) (c - m))) := by
  have hT : Touch (fun i => i = b ∨ i = k) w ((w1.setCell ⟨b, o, none⟩ v).setCell ⟨k, 0, none⟩ (.slice (part a m c 1) (n - m) (c - m))) :=
    ((Touch.of_below h2 _).setCell (p := ⟨b, o, none⟩) (fun _ => Or.inl rfl) v).setCell (p := ⟨k, 0, none⟩) (fun _ => Or.inr rfl) _
  have hk1 : w1.heap[k]? = some (.cells #[.slice a n c] 67 (0, 0)) := by rw [h1]; exact hk
  have hc1 : w1.heap[b]? = some (.cells cs t (0, 0)) := by rw [h1]; exact hc
  refine ⟨⟨⟨_, _, _, by rw [set_of (block_set hk1 (fun e => hne e.symm) v)]; rfl, ?_, ?_⟩, ?_, hby.drop m⟩, block_set (set_of hc1 o v) hne _, hT⟩
  · have := hS.tail hm
    rwa [show (ns r).drop m = ns (r.drop m) by simp [ns, List.map_drop]] at this
  · intro hd y hy
    obtain ⟨z, hz, e⟩ := part_block hy
    rw [e]
    exact hN (fun e => hd (by rw [e]; simp)) z hz
  · exact hB.trans' hT (fun i hi e => e.elim (fun e => absurd hi (by omega)) id)
section
variable {w0 w : World} {k b o : Nat} {r : List Nat} {cs : Array Value} {t : TypeId}
set_option maxRecDepth 100000 in
set_option maxHeartbeats 4000000 in
theorem kr_u (h : KR w0 k r w) (hc : w.heap[b]? = some (.cells cs t (0, 0))) (ho : o < cs.size) (hne : b ≠ k) (hb : w0.heap.size ≤ b) :
    Calls Try.prog 71 #[.pointer (some ⟨k, 0, none⟩), .pointer (some ⟨b, o, none⟩)] w (KRu w0 k b o cs t w r (fun x => .int .u64 (x : Int))) := by
  obtain ⟨⟨a, n, c, hk, hS, hN⟩, hB, hby⟩ := h
  have k0 : w.cell? ⟨k, 0, none⟩ = some (.slice a n c) := cell_of hk 0
  have kf : w.frozen? ⟨k, 0, none⟩ = false := free_of hk 0
  have b0 : w.cell? ⟨b, o, none⟩ = some cs[o] := by rw [cell_of hc]; simp [ho]
  have bf : w.frozen? ⟨b, o, none⟩ = false := free_of hc o
  have hSw := KR.sl hS hN hB
  have P := Lib.hid (pgu hSw hby)
  unfold KRu
  cases hg : gu r with
  | none =>
    rw [hg] at P
    have B := Lib.hid hB
    clear hk hS hN hB hc hSw hg b0 bf kf
    go_enter Try.func71, Try.ntmps71
    go_wp2_with fail
    refine (P.out).mono ?_; rintro e w1 ⟨rfl, rfl⟩
    unfold guV
    go_wp2_with fail
    exact ⟨rfl, rfl, B.out⟩
  | some p =>
    obtain ⟨x, m⟩ := p
    rw [hg] at P
    have hml := (gu_le hby hg).2.1
    have hnl := hS.u8
    have hmn : m ≤ n := by omega
    have hnc := hS.hle; have hmx := hS.hmax
    unfold maxLen at hmx
    have D := Lib.hid (fun w1 v h1 h2 => kr_done (w1 := w1) (o := o) (v := v) hk hS hN hB hby hc hne hb hmn h1 h2)
    have hs := run_from Try.underlying29 size1 (a := a) (len := n) (cap := c) (l := (m : Int)) (k := m) rfl hmn
    generalize part a m c 1 = pa at *
    clear hk hS hN hB hc hSw hg hml hnl
    go_enter Try.func71, Try.ntmps71
    go_wp2_with fail
    refine (P.out).mono ?_; rintro e w1 ⟨rfl, rfl⟩
    unfold guV
    go_wp2_with fail
    go_region
    all_goals (go_end0; obtain ⟨d1, d2, d3⟩ := D.out w _ rfl (Below.refl _ _); exact ⟨rfl, d1.drew, d2, d3.drew⟩)
set_option maxRecDepth 100000 in
set_option maxHeartbeats 4000000 in
theorem kr_s (h : KR w0 k r w) (hc : w.heap[b]? = some (.cells cs t (0, 0))) (ho : o < cs.size) (hne : b ≠ k) (hb : w0.heap.size ≤ b) :
    Calls Try.prog 70 #[.pointer (some ⟨k, 0, none⟩), .pointer (some ⟨b, o, none⟩)] w (KRu w0 k b o cs t w r (fun x => .int .i64 (unf x))) := by
  obtain ⟨⟨a, n, c, hk, hS, hN⟩, hB, hby⟩ := h
  have k0 : w.cell? ⟨k, 0, none⟩ = some (.slice a n c) := cell_of hk 0
  have kf : w.frozen? ⟨k, 0, none⟩ = false := free_of hk 0
  have b0 : w.cell? ⟨b, o, none⟩ = some cs[o] := by rw [cell_of hc]; simp [ho]
  have bf : w.frozen? ⟨b, o, none⟩ = false := free_of hc o
  have hSw := KR.sl hS hN hB
  have P := Lib.hid (pgi hSw hby)
  unfold KRu
  cases hg : gu r with
  | none =>
    rw [hg] at P
    have B := Lib.hid hB
    clear hk hS hN hB hc hSw hg b0 bf kf
    go_enter Try.func70, Try.ntmps70
    go_wp2_with fail
    refine (P.out).mono ?_; rintro e w1 ⟨rfl, rfl⟩
    unfold giV
    go_wp2_with fail
    exact ⟨rfl, rfl, B.out⟩
  | some p =>
    obtain ⟨x, m⟩ := p
    rw [hg] at P
    have hml := (gu_le hby hg).2.1
    have hnl := hS.u8
    have hmn : m ≤ n := by omega
    have hnc := hS.hle; have hmx := hS.hmax
    unfold maxLen at hmx
    have D := Lib.hid (fun w1 v h1 h2 => kr_done (w1 := w1) (o := o) (v := v) hk hS hN hB hby hc hne hb hmn h1 h2)
    have hs := run_from Try.underlying29 size1 (a := a) (len := n) (cap := c) (l := (m : Int)) (k := m) rfl hmn
    generalize part a m c 1 = pa at *
    clear hk hS hN hB hc hSw hg hml hnl
    go_enter Try.func70, Try.ntmps70
    go_wp2_with fail
    refine (P.out).mono ?_; rintro e w1 ⟨rfl, rfl⟩
    unfold giV
    go_wp2_with fail
    go_region
    all_goals (go_end0; obtain ⟨d1, d2, d3⟩ := D.out w _ rfl (Below.refl _ _); exact ⟨rfl, d1.drew, d2, d3.drew⟩)
end
end Go.Proofs.Ythnoihdojinocaa

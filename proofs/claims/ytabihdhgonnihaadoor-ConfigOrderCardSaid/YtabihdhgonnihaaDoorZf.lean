/- ConfigClamps: the walk. -/
import Derived.Test.YtabihdhgonnihaaDoorU
import Derived.Test.YtabihdhgonnihaaDoorZe
import Derived.Deep.DeepCutAuto
namespace Go.Proofs.YtabihdhgonnihaaDoor
open Go.ChangeShapes Go.WideShapes Go.ChangeAt Go.RowKit
set_option linter.unusedVariables false
set_option linter.unusedSimpArgs false

def At4 (w : World) (b : Nat) (f : Cf) : Prop := w.cell? ⟨b, 0, none⟩ = some (.int .i64 f.a) ∧ w.cell? ⟨b, 1, none⟩ = some (.int .i64 f.b) ∧ w.cell? ⟨b, 2, none⟩ = some (.int .i64 f.c) ∧ w.cell? ⟨b, 3, none⟩ = some (.int .i64 f.d)
theorem At4.of {w : World} {b : Nat} {f : Cf} {t : TypeId} (h : w.heap[b]? = some (.cells #[.int .i64 f.a, .int .i64 f.b, .int .i64 f.c, .int .i64 f.d] t (0, 0))) : At4 w b f := ⟨cell_of h 0, cell_of h 1, cell_of h 2, cell_of h 3⟩
theorem At4.keep {w w' : World} {b : Nat} {f : Cf} (h : At4 w b f) (hl : b < w.heap.size) (hb : Below w.heap.size w w') : At4 w' b f := by
  have k := fun o => (bcell (W := w) hb).1 b o hl
  unfold At4
  rw [k 0, k 1, k 2, k 3]
  exact h
theorem At4.two {w w' : World} {b b' : Nat} {f g : Cf} (h : At4 w b f) (h' : At4 w b' g) (hl : b < w.heap.size) (hl' : b' < w.heap.size) (hb : Below w.heap.size w w') :
    w'.cell? ⟨b, 0, none⟩ = some (.int .i64 f.a) ∧ w'.cell? ⟨b, 1, none⟩ = some (.int .i64 f.b) ∧ w'.cell? ⟨b, 2, none⟩ = some (.int .i64 f.c) ∧ w'.cell? ⟨b, 3, none⟩ = some (.int .i64 f.d) ∧
    w'.cell? ⟨b', 0, none⟩ = some (.int .i64 g.a) ∧ w'.cell? ⟨b', 1, none⟩ = some (.int .i64 g.b) ∧ w'.cell? ⟨b', 2, none⟩ = some (.int .i64 g.c) ∧ w'.cell? ⟨b', 3, none⟩ = some (.int .i64 g.d) := by
  obtain ⟨a0, a1, a2, a3⟩ := h.keep hl hb
  obtain ⟨b0, b1, b2, b3⟩ := h'.keep hl' hb
  exact ⟨a0, a1, a2, a3, b0, b1, b2, b3⟩
abbrev Any27 (W : World) (g : Cf) (v : Int) : Prop := ∀ w', Below W.heap.size W w' → Calls Tryd.prog 27 #[.agg #[.int .i64 g.a, .int .i64 g.b, .int .i64 g.c, .int .i64 g.d]] w' fun e w'' => e = .returned (.int .i64 v) ∧ Below W.heap.size W w''
theorem any27 {W : World} (h : Env W) (g : Cf) (hg : g.ok) : Any27 W g (chk g) := fun w' hb => (pcheck (h.below hb) g hg).mono fun e w'' ⟨h1, h2⟩ => ⟨h1, hb.trans (h2.mono hb.size)⟩
abbrev Any26 (W : World) (g r : Cf) : Prop := ∀ w', Below W.heap.size W w' → Calls Tryd.prog 26 #[.agg #[.int .i64 g.a, .int .i64 g.b, .int .i64 g.c, .int .i64 g.d]] w' fun e w'' => e = .returned (.agg #[.int .i64 r.a, .int .i64 r.b, .int .i64 r.c, .int .i64 r.d]) ∧ Below W.heap.size W w''
theorem any26 {W : World} (h : Env W) (g : Cf) (hg : g.ok) : Any26 W g (clamp g) := fun w' hb => (pclamp (h.below hb) g hg).mono fun e w'' ⟨h1, h2⟩ => ⟨h1, hb.trans (h2.mono hb.size)⟩
theorem Below.drewR {n : Nat} {w w' : World} (h : Below n w w') : Below n w w'.drew := h.drew
theorem two_new (wr : World) (o : Obj) : ((wr.alloc o).alloc o).drew.heap[wr.heap.size]? = some o ∧ ((wr.alloc o).alloc o).drew.heap[wr.heap.size + 1]? = some o := by
  refine ⟨block_drew (block_old (block_new wr o) o), block_drew ?_⟩
  have := block_new (wr.alloc o) o
  rwa [show (wr.alloc o).heap.size = wr.heap.size + 1 by simp] at this
theorem two_below {n : Nat} {W wr : World} (h : Below n W wr) (hn : n ≤ wr.heap.size) (o : Obj) : Below n W ((wr.alloc o).alloc o).drew := ((h.alloc hn o).alloc (by simp; omega) o).drew
abbrev Any29 (W : World) (g : Cf) (v : Str) : Prop := ∀ w', Below W.heap.size W w' → Calls Tryd.prog 29 #[.agg #[.int .i64 g.a, .int .i64 g.b, .int .i64 g.c, .int .i64 g.d]] w' fun e w'' => e = .returned (.string ⟨v.toArray⟩) ∧ Below W.heap.size W w''
theorem any29 {W : World} (h : Env W) (g : Cf) (hg : g.ok) : Any29 W g (field g) := fun w' hb => (pfield (h.below hb) g hg).mono fun e w'' ⟨h1, h2⟩ => ⟨h1, hb.trans (h2.mono hb.size)⟩
theorem stepf_same (a b : Int) : stepf a b = a ↔ b = a := by
  unfold stepf
  split
  · constructor <;> intro h <;> omega
  split
  · constructor <;> intro h <;> omega
  · constructor <;> intro h <;> omega
theorem put_same (q : Cf) {i : Nat} (hi : i < 4) (x : Int) : q.put i x = q ↔ x = q.at i := by
  have h4 : i = 0 ∨ i = 1 ∨ i = 2 ∨ i = 3 := by omega
  obtain ⟨a, b, c, d⟩ := q
  rcases h4 with rfl | rfl | rfl | rfl <;> simp [Cf.put, Cf.at]
abbrev names4 : Value := .agg #[.string ⟨#[119, 105, 110, 100, 111, 119]⟩, .string ⟨#[101, 100, 103, 101, 115]⟩, .string ⟨#[118, 101, 114, 116, 115]⟩, .string ⟨#[100, 114, 97, 119, 115]⟩]
theorem nix0 : ∀ w, (Instr.index 51 (.agg #[.string ⟨#[119, 105, 110, 100, 111, 119]⟩, .string ⟨#[101, 100, 103, 101, 115]⟩, .string ⟨#[118, 101, 114, 116, 115]⟩, .string ⟨#[100, 114, 97, 119, 115]⟩]) (.int .i64 0)).run Tryd.prog w = .ok (.string ⟨#[119, 105, 110, 100, 111, 119]⟩) w := fun w => by kernel_rfl
theorem nix1 : ∀ w, (Instr.index 51 (.agg #[.string ⟨#[119, 105, 110, 100, 111, 119]⟩, .string ⟨#[101, 100, 103, 101, 115]⟩, .string ⟨#[118, 101, 114, 116, 115]⟩, .string ⟨#[100, 114, 97, 119, 115]⟩]) (.int .i64 1)).run Tryd.prog w = .ok (.string ⟨#[101, 100, 103, 101, 115]⟩) w := fun w => by kernel_rfl
theorem nix2 : ∀ w, (Instr.index 51 (.agg #[.string ⟨#[119, 105, 110, 100, 111, 119]⟩, .string ⟨#[101, 100, 103, 101, 115]⟩, .string ⟨#[118, 101, 114, 116, 115]⟩, .string ⟨#[100, 114, 97, 119, 115]⟩]) (.int .i64 2)).run Tryd.prog w = .ok (.string ⟨#[118, 101, 114, 116, 115]⟩) w := fun w => by kernel_rfl
theorem nix3 : ∀ w, (Instr.index 51 (.agg #[.string ⟨#[119, 105, 110, 100, 111, 119]⟩, .string ⟨#[101, 100, 103, 101, 115]⟩, .string ⟨#[118, 101, 114, 116, 115]⟩, .string ⟨#[100, 114, 97, 119, 115]⟩]) (.int .i64 3)).run Tryd.prog w = .ok (.string ⟨#[100, 114, 97, 119, 115]⟩) w := fun w => by kernel_rfl
def same4 (f g : Cf) : Bool := f.a == g.a && (f.b == g.b && (f.c == g.c && f.d == g.d))

set_option maxRecDepth 100000 in
set_option maxHeartbeats 40000000 in
theorem clamps_law (f : Cf) (hf : f.ok) (w : World) (h : Env w) : Calls Tryd.prog 7 #[.agg #[.int .i64 f.a, .int .i64 f.b, .int .i64 f.c, .int .i64 f.d]] w fun e w' => e = .returned (.bool true) ∧ Below w.heap.size w w' := by
  have HE := Lib.hid h
  have N := Lib.hid (new25 w f)
  have X := Lib.hid (block_new w (.cells #[.int .i64 f.a, .int .i64 f.b, .int .i64 f.c, .int .i64 f.d] 25))
  have P1 := Lib.hid (pclamp (h.below (new25 w f)) f hf)
  have HF := Lib.hid hf
  have HQ := Lib.hid (clamp_ok f)
  have HC := Lib.hid (chk_clamp f)
  have HS := Lib.hid (chk_same f)
  have HI := Lib.hid (clamp_clamp f)
  have H1 := Lib.hid (fun i (hi : i < 4) => chk_one f hi)
  have H2 := Lib.hid (fun i (hi : i < 4) => chk_near f hi)
  have H3 := Lib.hid (fun i (hi : i < 4) (hne) => field_one f hi hne)
  generalize clamp f = q at *
  clear h hf
  go_enter Tryd.func7, Tryd.ntmps7
  go_wp2_with fail
  refine (P1.out).mono ?_; rintro e w1 ⟨rfl, hb1⟩
  have X1 := Lib.hid (block_old ((hb1.block _ (lt_of_block X.out)).trans X.out) (.cells #[.int .i64 q.a, .int .i64 q.b, .int .i64 q.c, .int .i64 q.d] 25))
  have Y1 := Lib.hid (block_new w1 (.cells #[.int .i64 q.a, .int .i64 q.b, .int .i64 q.c, .int .i64 q.d] 25))
  have B1 := Lib.hid ((N.out.trans (hb1.mono N.out.size)).alloc (Nat.le_trans N.out.size hb1.size) (.cells #[.int .i64 q.a, .int .i64 q.b, .int .i64 q.c, .int .i64 q.d] 25))
  have L1 := Lib.hid (lt_of_block ((hb1.block _ (lt_of_block X.out)).trans X.out))
  clear hb1 P1 N X
  go_upto_region 2 with fail
  have hg := L1.out
  clear L1
  generalize w1.alloc (.cells #[.int .i64 q.a, .int .i64 q.b, .int .i64 q.c, .int .i64 q.d] 25) = W at *
  have C1 : Hid (Any27 W q 0) := Lib.hid (by have := any27 (HE.out.below B1.out) q HQ.out; rwa [HC.out] at this)
  have C2 : Hid (Any26 W q q) := Lib.hid (by have := any26 (HE.out.below B1.out) q HQ.out; rwa [HI.out] at this)
  have C3 : Hid (Any27 W f (chk f)) := Lib.hid (any27 (HE.out.below B1.out) f HF.out)
  have KK := Lib.hid (fun w' (hb : Below W.heap.size W w') => At4.two (At4.of X1.out) (At4.of Y1.out) (lt_of_block X1.out) (lt_of_block Y1.out) hb)
  obtain ⟨x0, x1, x2, x3, y0, y1, y2, y3⟩ := KK.out W (Below.refl _ _)
  have BR := Below.refl W.heap.size W
  go_cut [26] (fun s26 wx => s26 = .bool false ∧ Below W.heap.size W wx)
  case first =>
    have HP : Hid ((chk f = 0 ∧ f.a = q.a ∧ f.b = q.b ∧ f.c = q.c ∧ f.d = q.d) ∨ (chk f ≠ 0 ∧ (f.a ≠ q.a ∨ (f.a = q.a ∧ f.b ≠ q.b) ∨ (f.a = q.a ∧ f.b = q.b ∧ f.c ≠ q.c) ∨ (f.a = q.a ∧ f.b = q.b ∧ f.c = q.c ∧ f.d ≠ q.d)))) := Lib.hid (by
      have hh := HS.out
      obtain ⟨a, b, c, d⟩ := f
      obtain ⟨a', b', c', d'⟩ := q
      rw [Cf.mk.injEq] at hh
      simp only at hh ⊢
      omega)
    have hp := HP.out
    clear HP HE HF HQ HC HS HI H1 H2 H3 X1 Y1 B1
    generalize chk f = cf at *
    rcases hp with ⟨rfl, g0, g1, g2, g3⟩ | ⟨hcf, g0 | ⟨g0, g1⟩ | ⟨g0, g1, g2⟩ | ⟨g0, g1, g2, g3⟩⟩
    · have hfq : f = q := by
        obtain ⟨a, b, c, d⟩ := f
        obtain ⟨a', b', c', d'⟩ := q
        simp only at g0 g1 g2 g3
        rw [g0, g1, g2, g3]
      subst hfq
      clear g0 g1 g2 g3
      go_region_held3 (fun w' => w'.cell? ⟨w.heap.size, 0, none⟩ = some (.int .i64 f.a) ∧ w'.cell? ⟨w.heap.size, 1, none⟩ = some (.int .i64 f.b) ∧ w'.cell? ⟨w.heap.size, 2, none⟩ = some (.int .i64 f.c) ∧ w'.cell? ⟨w.heap.size, 3, none⟩ = some (.int .i64 f.d) ∧ w'.cell? ⟨w1.heap.size, 0, none⟩ = some (.int .i64 f.a) ∧ w'.cell? ⟨w1.heap.size, 1, none⟩ = some (.int .i64 f.b) ∧ w'.cell? ⟨w1.heap.size, 2, none⟩ = some (.int .i64 f.c) ∧ w'.cell? ⟨w1.heap.size, 3, none⟩ = some (.int .i64 f.d))
        (first | exact ⟨x0, x1, x2, x3, y0, y1, y2, y3⟩ | exact KK.out _ (by first | assumption | exact Below.drewR (by assumption)))
        (first
          | (go_at_call 27; refine (C1.out _ (by first | assumption | exact Below.drewR (by assumption))).mono ?_; rintro e w7 ⟨rfl, hb7⟩)
          | (go_at_call 27; refine (C3.out _ (by first | assumption | exact Below.drewR (by assumption))).mono ?_; rintro e w7 ⟨rfl, hb7⟩)
          | (go_at_call 26; refine (C2.out _ (by first | assumption | exact Below.drewR (by assumption))).mono ?_; rintro e w7 ⟨rfl, hb7⟩))
      go_wp2_with fail
      go_meet
      exact ⟨rfl, by first | assumption | exact Below.drewR (by assumption)⟩
    · have hn : (cf == 0) = false := by simpa using hcf
      have h0 : (f.a == q.a) = false := by simpa using g0
      clear g0
      go_region_held3 (fun w' => w'.cell? ⟨w.heap.size, 0, none⟩ = some (.int .i64 f.a) ∧ w'.cell? ⟨w.heap.size, 1, none⟩ = some (.int .i64 f.b) ∧ w'.cell? ⟨w.heap.size, 2, none⟩ = some (.int .i64 f.c) ∧ w'.cell? ⟨w.heap.size, 3, none⟩ = some (.int .i64 f.d) ∧ w'.cell? ⟨w1.heap.size, 0, none⟩ = some (.int .i64 q.a) ∧ w'.cell? ⟨w1.heap.size, 1, none⟩ = some (.int .i64 q.b) ∧ w'.cell? ⟨w1.heap.size, 2, none⟩ = some (.int .i64 q.c) ∧ w'.cell? ⟨w1.heap.size, 3, none⟩ = some (.int .i64 q.d))
        (first | exact ⟨x0, x1, x2, x3, y0, y1, y2, y3⟩ | exact KK.out _ (by first | assumption | exact Below.drewR (by assumption)))
        (first
          | (go_at_call 27; refine (C1.out _ (by first | assumption | exact Below.drewR (by assumption))).mono ?_; rintro e w7 ⟨rfl, hb7⟩)
          | (go_at_call 27; refine (C3.out _ (by first | assumption | exact Below.drewR (by assumption))).mono ?_; rintro e w7 ⟨rfl, hb7⟩)
          | (go_at_call 26; refine (C2.out _ (by first | assumption | exact Below.drewR (by assumption))).mono ?_; rintro e w7 ⟨rfl, hb7⟩))
      go_wp2_with fail
      go_meet
      exact ⟨rfl, by first | assumption | exact Below.drewR (by assumption)⟩
    · have hn : (cf == 0) = false := by simpa using hcf
      have h0 : (f.a == q.a) = true := by simpa using g0
      have h1 : (f.b == q.b) = false := by simpa using g1
      clear g0 g1
      go_region_held3 (fun w' => w'.cell? ⟨w.heap.size, 0, none⟩ = some (.int .i64 f.a) ∧ w'.cell? ⟨w.heap.size, 1, none⟩ = some (.int .i64 f.b) ∧ w'.cell? ⟨w.heap.size, 2, none⟩ = some (.int .i64 f.c) ∧ w'.cell? ⟨w.heap.size, 3, none⟩ = some (.int .i64 f.d) ∧ w'.cell? ⟨w1.heap.size, 0, none⟩ = some (.int .i64 q.a) ∧ w'.cell? ⟨w1.heap.size, 1, none⟩ = some (.int .i64 q.b) ∧ w'.cell? ⟨w1.heap.size, 2, none⟩ = some (.int .i64 q.c) ∧ w'.cell? ⟨w1.heap.size, 3, none⟩ = some (.int .i64 q.d))
        (first | exact ⟨x0, x1, x2, x3, y0, y1, y2, y3⟩ | exact KK.out _ (by first | assumption | exact Below.drewR (by assumption)))
        (first
          | (go_at_call 27; refine (C1.out _ (by first | assumption | exact Below.drewR (by assumption))).mono ?_; rintro e w7 ⟨rfl, hb7⟩)
          | (go_at_call 27; refine (C3.out _ (by first | assumption | exact Below.drewR (by assumption))).mono ?_; rintro e w7 ⟨rfl, hb7⟩)
          | (go_at_call 26; refine (C2.out _ (by first | assumption | exact Below.drewR (by assumption))).mono ?_; rintro e w7 ⟨rfl, hb7⟩))
      go_wp2_with fail
      go_meet
      exact ⟨rfl, by first | assumption | exact Below.drewR (by assumption)⟩
    · have hn : (cf == 0) = false := by simpa using hcf
      have h0 : (f.a == q.a) = true := by simpa using g0
      have h1 : (f.b == q.b) = true := by simpa using g1
      have h2 : (f.c == q.c) = false := by simpa using g2
      clear g0 g1 g2
      go_region_held3 (fun w' => w'.cell? ⟨w.heap.size, 0, none⟩ = some (.int .i64 f.a) ∧ w'.cell? ⟨w.heap.size, 1, none⟩ = some (.int .i64 f.b) ∧ w'.cell? ⟨w.heap.size, 2, none⟩ = some (.int .i64 f.c) ∧ w'.cell? ⟨w.heap.size, 3, none⟩ = some (.int .i64 f.d) ∧ w'.cell? ⟨w1.heap.size, 0, none⟩ = some (.int .i64 q.a) ∧ w'.cell? ⟨w1.heap.size, 1, none⟩ = some (.int .i64 q.b) ∧ w'.cell? ⟨w1.heap.size, 2, none⟩ = some (.int .i64 q.c) ∧ w'.cell? ⟨w1.heap.size, 3, none⟩ = some (.int .i64 q.d))
        (first | exact ⟨x0, x1, x2, x3, y0, y1, y2, y3⟩ | exact KK.out _ (by first | assumption | exact Below.drewR (by assumption)))
        (first
          | (go_at_call 27; refine (C1.out _ (by first | assumption | exact Below.drewR (by assumption))).mono ?_; rintro e w7 ⟨rfl, hb7⟩)
          | (go_at_call 27; refine (C3.out _ (by first | assumption | exact Below.drewR (by assumption))).mono ?_; rintro e w7 ⟨rfl, hb7⟩)
          | (go_at_call 26; refine (C2.out _ (by first | assumption | exact Below.drewR (by assumption))).mono ?_; rintro e w7 ⟨rfl, hb7⟩))
      go_wp2_with fail
      go_meet
      exact ⟨rfl, by first | assumption | exact Below.drewR (by assumption)⟩
    · have hn : (cf == 0) = false := by simpa using hcf
      have h0 : (f.a == q.a) = true := by simpa using g0
      have h1 : (f.b == q.b) = true := by simpa using g1
      have h2 : (f.c == q.c) = true := by simpa using g2
      have h3 : (f.d == q.d) = false := by simpa using g3
      clear g0 g1 g2 g3
      go_region_held3 (fun w' => w'.cell? ⟨w.heap.size, 0, none⟩ = some (.int .i64 f.a) ∧ w'.cell? ⟨w.heap.size, 1, none⟩ = some (.int .i64 f.b) ∧ w'.cell? ⟨w.heap.size, 2, none⟩ = some (.int .i64 f.c) ∧ w'.cell? ⟨w.heap.size, 3, none⟩ = some (.int .i64 f.d) ∧ w'.cell? ⟨w1.heap.size, 0, none⟩ = some (.int .i64 q.a) ∧ w'.cell? ⟨w1.heap.size, 1, none⟩ = some (.int .i64 q.b) ∧ w'.cell? ⟨w1.heap.size, 2, none⟩ = some (.int .i64 q.c) ∧ w'.cell? ⟨w1.heap.size, 3, none⟩ = some (.int .i64 q.d))
        (first | exact ⟨x0, x1, x2, x3, y0, y1, y2, y3⟩ | exact KK.out _ (by first | assumption | exact Below.drewR (by assumption)))
        (first
          | (go_at_call 27; refine (C1.out _ (by first | assumption | exact Below.drewR (by assumption))).mono ?_; rintro e w7 ⟨rfl, hb7⟩)
          | (go_at_call 27; refine (C3.out _ (by first | assumption | exact Below.drewR (by assumption))).mono ?_; rintro e w7 ⟨rfl, hb7⟩)
          | (go_at_call 26; refine (C2.out _ (by first | assumption | exact Below.drewR (by assumption))).mono ?_; rintro e w7 ⟨rfl, hb7⟩))
      go_wp2_with fail
      go_meet
      exact ⟨rfl, by first | assumption | exact Below.drewR (by assumption)⟩
  case rest =>
    obtain ⟨rfl, hbx⟩ := hcut
    clear x0 x1 x2 x3 y0 y1 y2 y3
    go_wp2_with fail
    go_loopw [27] (fun v27 wx => ∃ i : Nat, i ≤ 4 ∧ v27 = .int .i64 (i : Int) ∧ Below W.heap.size W wx) (fun v27 _ => 4 - (intOf v27).toNat)
    case atStart => exact ⟨0, by omega, rfl, by first | assumption | exact Below.drewR (by assumption)⟩
    case round =>
      obtain ⟨i, hi4, rfl, hb⟩ := hrel
      obtain ⟨x0, x1, x2, x3, y0, y1, y2, y3⟩ := KK.out wr hb
      by_cases h4 : i = 4
      · subst h4
        have PW := Lib.hid (works_any (HE.out.below (B1.out.trans (hb.mono B1.out.size))))
        have BB := Lib.hid (B1.out.trans (hb.mono B1.out.size))
        clear x0 x1 x2 x3 y0 y1 y2 y3
        go_wp2_with fail
        refine (PW.out).mono ?_; rintro e w9 ⟨rfl, hb9⟩
        have B9 := Lib.hid (BB.out.trans (hb9.mono BB.out.size))
        clear hb9
        go_wp2_with fail
        go_ret
        exact ⟨rfl, B9.out⟩
      · have hi : i < 4 := by omega
        clear h4 hi4
        have e4 : decide ((i : Int) < 4) = true := by simp; omega
        go_upto_region 7 with fail
        go_cut [5, 6] (fun s5 s6 wx => ∃ p r : Nat, s5 = .pointer (some ⟨p, 0, none⟩) ∧ s6 = .pointer (some ⟨r, 0, none⟩) ∧ W.heap.size ≤ p ∧ W.heap.size ≤ r ∧ p ≠ r ∧ wx.heap[p]? = some (.cells #[.int .i64 q.a, .int .i64 q.b, .int .i64 q.c, .int .i64 q.d] 25 (0, 0)) ∧ wx.heap[r]? = some (.cells #[.int .i64 q.a, .int .i64 q.b, .int .i64 q.c, .int .i64 q.d] 25 (0, 0)) ∧ Below W.heap.size W wx)
        case first =>
          have HBr := Lib.hid hb
          have HI4 := Lib.hid hi
          have hl1 : w1.heap.size < wr.heap.size := Nat.lt_of_lt_of_le (lt_of_block Y1.out) hb.size
          clear hb hi e4 X1 Y1 B1 C1 C2 C3 H1 H2 H3 KK HE HF HQ HC HS HI BR hbx
          go_region
          all_goals
            go_wp2_with fail
            go_meet
            first
              | exact ⟨_, _, rfl, rfl, HBr.out.size, Nat.le_succ_of_le HBr.out.size, by omega, (two_new _ _).1, (two_new _ _).2, two_below HBr.out HBr.out.size _⟩
              | exact ⟨_, _, rfl, rfl, Nat.le_succ_of_le HBr.out.size, HBr.out.size, by omega, (two_new _ _).2, (two_new _ _).1, two_below HBr.out HBr.out.size _⟩
        case rest =>
          clear x0 x1 x2 x3 y0 y1 y2 y3 hbx e4
          obtain ⟨p, r, rfl, rfl, hp, hr, hpr, bp, br, hb8⟩ := hcut
          have hW1 := lt_of_block X1.out
          have hW2 := lt_of_block Y1.out
          have n1 : ¬ p = w.heap.size := by omega
          have n2 : ¬ w.heap.size = p := by omega
          have n3 : ¬ p = w1.heap.size := by omega
          have n4 : ¬ w1.heap.size = p := by omega
          have n5 : ¬ r = w.heap.size := by omega
          have n6 : ¬ w.heap.size = r := by omega
          have n7 : ¬ r = w1.heap.size := by omega
          have n8 : ¬ w1.heap.size = r := by omega
          have n9 : ¬ p = r := by omega
          have n10 : ¬ r = p := by omega
          have HP := Lib.hid hp
          have HR := Lib.hid hr
          have HPR := Lib.hid hpr
          have BP := Lib.hid bp
          have BQ := Lib.hid br
          have HB8 := Lib.hid hb8
          have HI4 := Lib.hid hi
          have h5 : i = 0 ∨ i = 1 ∨ i = 2 ∨ i = 3 := by omega
          obtain ⟨x0, x1, x2, x3, y0, y1, y2, y3⟩ := KK.out wc hb8
          clear hp hr hpr bp br hb8 hb hi
          rcases h5 with rfl | rfl | rfl | rfl
          · have F1 : chk ⟨f.a, q.b, q.c, q.d⟩ = 0 ↔ f.a = q.a := (H1.out 0 (by omega)).trans (put_same q (by omega) _)
            have F2 : chk ⟨stepf q.a f.a, q.b, q.c, q.d⟩ = 0 ↔ f.a = q.a := (H2.out 0 (by omega)).trans ((put_same q (by omega) _).trans (stepf_same _ _))
            have F3 : f.a ≠ q.a → field ⟨f.a, q.b, q.c, q.d⟩ = nm 0 := fun hne => H3.out 0 (by omega) (fun e => hne ((put_same q (by omega) _).1 e))
            have hsr := stepf_in HQ.out.a0 HQ.out.a1 HF.out.a0 HF.out.a1
            have hss := stepf_same q.a f.a
            have ST := Lib.hid (pstep HQ.out.a0 HQ.out.a1 HF.out.a0 HF.out.a1 (wc.setCell ⟨p, 0, none⟩ (.int .i64 f.a)))
            have zp : wc.frozen? ⟨p, 0, none⟩ = false := free_of BP.out 0
            have zr : wc.frozen? ⟨r, 0, none⟩ = false := free_of BQ.out 0
            have vp : wc.cell? ⟨p, 0, none⟩ = some (.int .i64 q.a) := cell_of BP.out 0
            have vr : wc.cell? ⟨r, 0, none⟩ = some (.int .i64 q.a) := cell_of BQ.out 0
            have OX : Hid (Cf.ok ⟨f.a, q.b, q.c, q.d⟩) := Lib.hid (put_ok' HQ.out 0 HF.out.a0 HF.out.a1)
            have ON : Hid (Cf.ok ⟨stepf q.a f.a, q.b, q.c, q.d⟩) := Lib.hid (put_ok' HQ.out 0 hsr.1 hsr.2)
            have G1 := Lib.hid F1
            have G2 := Lib.hid F2
            have G3 := Lib.hid F3
            have GS := Lib.hid hss
            clear F1 F2 F3 hsr hss
            generalize stepf q.a f.a = s at *
            go_wp2_with fail
            refine (ST.out).mono ?_; rintro e w9 ⟨rfl, rfl⟩
            go_upto_region 21 with fail
            have DP : Hid (((wc.setCell ⟨p, 0, none⟩ (.int .i64 f.a)).setCell ⟨r, 0, none⟩ (.int .i64 s)).heap[p]? = some (.cells #[.int .i64 f.a, .int .i64 q.b, .int .i64 q.c, .int .i64 q.d] 25 (0, 0))) := Lib.hid (block_set (set_of BP.out 0 (.int .i64 f.a)) (by simp; omega) _)
            have DR : Hid (((wc.setCell ⟨p, 0, none⟩ (.int .i64 f.a)).setCell ⟨r, 0, none⟩ (.int .i64 s)).heap[r]? = some (.cells #[.int .i64 s, .int .i64 q.b, .int .i64 q.c, .int .i64 q.d] 25 (0, 0))) := Lib.hid (set_of (block_set BQ.out (by simp; omega) _) 0 (.int .i64 s))
            have DB : Hid (Below W.heap.size W ((wc.setCell ⟨p, 0, none⟩ (.int .i64 f.a)).setCell ⟨r, 0, none⟩ (.int .i64 s))) := Lib.hid ((HB8.out.setCell HP.out _).setCell HR.out _)
            clear ST BP BQ HB8 HP HR HPR zp zr vp vr x0 x1 x2 x3 y0 y1 y2 y3
            generalize (wc.setCell ⟨p, 0, none⟩ (.int .i64 f.a)).setCell ⟨r, 0, none⟩ (.int .i64 s) = Wd at *
            have KD : Hid (∀ w', Below Wd.heap.size Wd w' → w'.cell? ⟨p, 0, none⟩ = some (.int .i64 f.a) ∧ w'.cell? ⟨p, 1, none⟩ = some (.int .i64 q.b) ∧ w'.cell? ⟨p, 2, none⟩ = some (.int .i64 q.c) ∧ w'.cell? ⟨p, 3, none⟩ = some (.int .i64 q.d) ∧ w'.cell? ⟨r, 0, none⟩ = some (.int .i64 s) ∧ w'.cell? ⟨r, 1, none⟩ = some (.int .i64 q.b) ∧ w'.cell? ⟨r, 2, none⟩ = some (.int .i64 q.c) ∧ w'.cell? ⟨r, 3, none⟩ = some (.int .i64 q.d) ∧ w'.cell? ⟨w1.heap.size, 0, none⟩ = some (.int .i64 q.a) ∧ w'.cell? ⟨w1.heap.size, 1, none⟩ = some (.int .i64 q.b) ∧ w'.cell? ⟨w1.heap.size, 2, none⟩ = some (.int .i64 q.c) ∧ w'.cell? ⟨w1.heap.size, 3, none⟩ = some (.int .i64 q.d)) := Lib.hid (fun w' hb => by
              obtain ⟨a0, a1, a2, a3, b0, b1, b2, b3⟩ := At4.two (At4.of (f := ⟨f.a, q.b, q.c, q.d⟩) DP.out) (At4.of (f := (⟨s, q.b, q.c, q.d⟩ : Cf)) DR.out) (lt_of_block DP.out) (lt_of_block DR.out) hb
              obtain ⟨-, -, -, -, y0, y1, y2, y3⟩ := KK.out w' (DB.out.trans (hb.mono DB.out.size))
              exact ⟨a0, a1, a2, a3, b0, b1, b2, b3, y0, y1, y2, y3⟩)
            have HV := Lib.hid (HE.out.below (B1.out.trans (DB.out.mono B1.out.size)))
            have K1 := Lib.hid (any27 HV.out ⟨f.a, q.b, q.c, q.d⟩ OX.out)
            have K2 := Lib.hid (any27 HV.out (⟨s, q.b, q.c, q.d⟩ : Cf) ON.out)
            have K3 := Lib.hid (any29 HV.out ⟨f.a, q.b, q.c, q.d⟩ OX.out)
            have BD := Below.refl Wd.heap.size Wd
            clear OX ON HV
            generalize chk ⟨f.a, q.b, q.c, q.d⟩ = cx at *
            generalize chk (⟨s, q.b, q.c, q.d⟩ : Cf) = cn at *
            generalize field ⟨f.a, q.b, q.c, q.d⟩ = fx at *
            go_cut [92] (fun s92 wx => s92 = .bool false ∧ Below Wd.heap.size Wd wx)
            case first =>
              obtain ⟨p0, p1, p2, p3, r0, r1, r2, r3, y0, y1, y2, y3⟩ := KD.out Wd BD
              by_cases hfa : f.a = q.a
              · have z1 : (f.a == q.a) = true := by simpa using hfa
                have z2 : (s == q.a) = true := by simpa using GS.out.2 hfa
                have hx := G1.out.2 hfa
                have hn := G2.out.2 hfa
                subst hx
                subst hn
                clear hfa X1 Y1 B1 C1 C2 C3 H1 H2 H3 KK HE HF HQ HC HS HI BR G1 G2 G3 GS
                go_region_held3 (fun w' => w'.cell? ⟨p, 0, none⟩ = some (.int .i64 f.a) ∧ w'.cell? ⟨p, 1, none⟩ = some (.int .i64 q.b) ∧ w'.cell? ⟨p, 2, none⟩ = some (.int .i64 q.c) ∧ w'.cell? ⟨p, 3, none⟩ = some (.int .i64 q.d) ∧ w'.cell? ⟨r, 0, none⟩ = some (.int .i64 s) ∧ w'.cell? ⟨r, 1, none⟩ = some (.int .i64 q.b) ∧ w'.cell? ⟨r, 2, none⟩ = some (.int .i64 q.c) ∧ w'.cell? ⟨r, 3, none⟩ = some (.int .i64 q.d) ∧ w'.cell? ⟨w1.heap.size, 0, none⟩ = some (.int .i64 q.a) ∧ w'.cell? ⟨w1.heap.size, 1, none⟩ = some (.int .i64 q.b) ∧ w'.cell? ⟨w1.heap.size, 2, none⟩ = some (.int .i64 q.c) ∧ w'.cell? ⟨w1.heap.size, 3, none⟩ = some (.int .i64 q.d))
                  (first | exact ⟨p0, p1, p2, p3, r0, r1, r2, r3, y0, y1, y2, y3⟩ | exact KD.out _ (by first | assumption | exact Below.drewR (by assumption)))
                  (first
                    | (go_at_call 27; refine (K1.out _ (by first | assumption | exact Below.drewR (by assumption))).mono ?_; rintro e w7 ⟨rfl, hb7⟩)
                    | (go_at_call 27; refine (K2.out _ (by first | assumption | exact Below.drewR (by assumption))).mono ?_; rintro e w7 ⟨rfl, hb7⟩))
                go_wp2_with fail
                go_meet
                exact ⟨rfl, (by first | assumption | exact Below.drewR (by assumption))⟩
              · have z1 : (f.a == q.a) = false := by simpa using hfa
                have z2 : (s == q.a) = false := by simpa using fun h => hfa (GS.out.1 h)
                have z3 : (cx == 0) = false := by simpa using fun h => hfa (G1.out.1 h)
                have z4 : (cn == 0) = false := by simpa using fun h => hfa (G2.out.1 h)
                clear hfa X1 Y1 B1 C1 C2 C3 H1 H2 H3 KK HE HF HQ HC HS HI BR G1 G2 G3 GS
                go_region_held3 (fun w' => w'.cell? ⟨p, 0, none⟩ = some (.int .i64 f.a) ∧ w'.cell? ⟨p, 1, none⟩ = some (.int .i64 q.b) ∧ w'.cell? ⟨p, 2, none⟩ = some (.int .i64 q.c) ∧ w'.cell? ⟨p, 3, none⟩ = some (.int .i64 q.d) ∧ w'.cell? ⟨r, 0, none⟩ = some (.int .i64 s) ∧ w'.cell? ⟨r, 1, none⟩ = some (.int .i64 q.b) ∧ w'.cell? ⟨r, 2, none⟩ = some (.int .i64 q.c) ∧ w'.cell? ⟨r, 3, none⟩ = some (.int .i64 q.d) ∧ w'.cell? ⟨w1.heap.size, 0, none⟩ = some (.int .i64 q.a) ∧ w'.cell? ⟨w1.heap.size, 1, none⟩ = some (.int .i64 q.b) ∧ w'.cell? ⟨w1.heap.size, 2, none⟩ = some (.int .i64 q.c) ∧ w'.cell? ⟨w1.heap.size, 3, none⟩ = some (.int .i64 q.d))
                  (first | exact ⟨p0, p1, p2, p3, r0, r1, r2, r3, y0, y1, y2, y3⟩ | exact KD.out _ (by first | assumption | exact Below.drewR (by assumption)))
                  (first
                    | (go_at_call 27; refine (K1.out _ (by first | assumption | exact Below.drewR (by assumption))).mono ?_; rintro e w7 ⟨rfl, hb7⟩)
                    | (go_at_call 27; refine (K2.out _ (by first | assumption | exact Below.drewR (by assumption))).mono ?_; rintro e w7 ⟨rfl, hb7⟩))
                go_wp2_with fail
                go_meet
                exact ⟨rfl, (by first | assumption | exact Below.drewR (by assumption))⟩
            case rest =>
              obtain ⟨rfl, hbd⟩ := hcut
              go_upto_region 23 with fail
              go_cut [103] (fun s103 wx => s103 = .bool false ∧ Below Wd.heap.size Wd wx)
              case first =>
                obtain ⟨p0, p1, p2, p3, r0, r1, r2, r3, y0, y1, y2, y3⟩ := KD.out _ hbd
                by_cases hfa : f.a = q.a
                · have z1 : (f.a == q.a) = true := by simpa using hfa
                  clear hfa X1 Y1 B1 C1 C2 C3 H1 H2 H3 KK HE HF HQ HC HS HI BR G1 G2 G3 GS
                  go_quiet (fail)
                  go_wp2_with fail
                  go_meet
                  exact ⟨rfl, hbd.trans ⟨rfl, rfl, rfl, Nat.le_refl _, fun _ _ => rfl⟩⟩
                · have z1 : (f.a == q.a) = false := by simpa using hfa
                  have K4 : Hid (Any29 Wd ⟨f.a, q.b, q.c, q.d⟩ (nm 0)) := Lib.hid (by have := K3.out; rwa [G3.out hfa] at this)
                  unfold nm at K4
                  have hix := nix0
                  clear hfa X1 Y1 B1 C1 C2 C3 H1 H2 H3 KK HE HF HQ HC HS HI BR G1 G2 G3 GS K3
                  go_region_held3 (fun w' => w'.cell? ⟨p, 0, none⟩ = some (.int .i64 f.a) ∧ w'.cell? ⟨p, 1, none⟩ = some (.int .i64 q.b) ∧ w'.cell? ⟨p, 2, none⟩ = some (.int .i64 q.c) ∧ w'.cell? ⟨p, 3, none⟩ = some (.int .i64 q.d) ∧ w'.cell? ⟨r, 0, none⟩ = some (.int .i64 s) ∧ w'.cell? ⟨r, 1, none⟩ = some (.int .i64 q.b) ∧ w'.cell? ⟨r, 2, none⟩ = some (.int .i64 q.c) ∧ w'.cell? ⟨r, 3, none⟩ = some (.int .i64 q.d) ∧ w'.cell? ⟨w1.heap.size, 0, none⟩ = some (.int .i64 q.a) ∧ w'.cell? ⟨w1.heap.size, 1, none⟩ = some (.int .i64 q.b) ∧ w'.cell? ⟨w1.heap.size, 2, none⟩ = some (.int .i64 q.c) ∧ w'.cell? ⟨w1.heap.size, 3, none⟩ = some (.int .i64 q.d))
                    (first | exact ⟨p0, p1, p2, p3, r0, r1, r2, r3, y0, y1, y2, y3⟩ | exact KD.out _ (by first | assumption | exact Below.drewR (by assumption)))
                    (first
                      | (go_at_call 29; refine (K4.out _ (by first | assumption | exact Below.drewR (by assumption))).mono ?_; rintro e w7 ⟨rfl, hb7⟩))
                  all_goals
                    go_wp2_with fail
                    go_meet
                    exact ⟨rfl, (by first | assumption | exact Below.drewR (by assumption))⟩
              case rest =>
                obtain ⟨rfl, hbe⟩ := hcut
                go_wp2_with fail
                go_roundw
                case rel => exact ⟨0 + 1, by omega, by go_num, DB.out.trans (hbe.mono DB.out.size)⟩
                case measure => simp [intOf]
          · have F1 : chk ⟨q.a, f.b, q.c, q.d⟩ = 0 ↔ f.b = q.b := (H1.out 1 (by omega)).trans (put_same q (by omega) _)
            have F2 : chk ⟨q.a, stepf q.b f.b, q.c, q.d⟩ = 0 ↔ f.b = q.b := (H2.out 1 (by omega)).trans ((put_same q (by omega) _).trans (stepf_same _ _))
            have F3 : f.b ≠ q.b → field ⟨q.a, f.b, q.c, q.d⟩ = nm 1 := fun hne => H3.out 1 (by omega) (fun e => hne ((put_same q (by omega) _).1 e))
            have hsr := stepf_in HQ.out.b0 HQ.out.b1 HF.out.b0 HF.out.b1
            have hss := stepf_same q.b f.b
            have ST := Lib.hid (pstep HQ.out.b0 HQ.out.b1 HF.out.b0 HF.out.b1 (wc.setCell ⟨p, 1, none⟩ (.int .i64 f.b)))
            have zp : wc.frozen? ⟨p, 1, none⟩ = false := free_of BP.out 1
            have zr : wc.frozen? ⟨r, 1, none⟩ = false := free_of BQ.out 1
            have vp : wc.cell? ⟨p, 1, none⟩ = some (.int .i64 q.b) := cell_of BP.out 1
            have vr : wc.cell? ⟨r, 1, none⟩ = some (.int .i64 q.b) := cell_of BQ.out 1
            have OX : Hid (Cf.ok ⟨q.a, f.b, q.c, q.d⟩) := Lib.hid (put_ok' HQ.out 1 HF.out.b0 HF.out.b1)
            have ON : Hid (Cf.ok ⟨q.a, stepf q.b f.b, q.c, q.d⟩) := Lib.hid (put_ok' HQ.out 1 hsr.1 hsr.2)
            have G1 := Lib.hid F1
            have G2 := Lib.hid F2
            have G3 := Lib.hid F3
            have GS := Lib.hid hss
            clear F1 F2 F3 hsr hss
            generalize stepf q.b f.b = s at *
            go_wp2_with fail
            refine (ST.out).mono ?_; rintro e w9 ⟨rfl, rfl⟩
            go_upto_region 21 with fail
            have DP : Hid (((wc.setCell ⟨p, 1, none⟩ (.int .i64 f.b)).setCell ⟨r, 1, none⟩ (.int .i64 s)).heap[p]? = some (.cells #[.int .i64 q.a, .int .i64 f.b, .int .i64 q.c, .int .i64 q.d] 25 (0, 0))) := Lib.hid (block_set (set_of BP.out 1 (.int .i64 f.b)) (by simp; omega) _)
            have DR : Hid (((wc.setCell ⟨p, 1, none⟩ (.int .i64 f.b)).setCell ⟨r, 1, none⟩ (.int .i64 s)).heap[r]? = some (.cells #[.int .i64 q.a, .int .i64 s, .int .i64 q.c, .int .i64 q.d] 25 (0, 0))) := Lib.hid (set_of (block_set BQ.out (by simp; omega) _) 1 (.int .i64 s))
            have DB : Hid (Below W.heap.size W ((wc.setCell ⟨p, 1, none⟩ (.int .i64 f.b)).setCell ⟨r, 1, none⟩ (.int .i64 s))) := Lib.hid ((HB8.out.setCell HP.out _).setCell HR.out _)
            clear ST BP BQ HB8 HP HR HPR zp zr vp vr x0 x1 x2 x3 y0 y1 y2 y3
            generalize (wc.setCell ⟨p, 1, none⟩ (.int .i64 f.b)).setCell ⟨r, 1, none⟩ (.int .i64 s) = Wd at *
            have KD : Hid (∀ w', Below Wd.heap.size Wd w' → w'.cell? ⟨p, 0, none⟩ = some (.int .i64 q.a) ∧ w'.cell? ⟨p, 1, none⟩ = some (.int .i64 f.b) ∧ w'.cell? ⟨p, 2, none⟩ = some (.int .i64 q.c) ∧ w'.cell? ⟨p, 3, none⟩ = some (.int .i64 q.d) ∧ w'.cell? ⟨r, 0, none⟩ = some (.int .i64 q.a) ∧ w'.cell? ⟨r, 1, none⟩ = some (.int .i64 s) ∧ w'.cell? ⟨r, 2, none⟩ = some (.int .i64 q.c) ∧ w'.cell? ⟨r, 3, none⟩ = some (.int .i64 q.d) ∧ w'.cell? ⟨w1.heap.size, 0, none⟩ = some (.int .i64 q.a) ∧ w'.cell? ⟨w1.heap.size, 1, none⟩ = some (.int .i64 q.b) ∧ w'.cell? ⟨w1.heap.size, 2, none⟩ = some (.int .i64 q.c) ∧ w'.cell? ⟨w1.heap.size, 3, none⟩ = some (.int .i64 q.d)) := Lib.hid (fun w' hb => by
              obtain ⟨a0, a1, a2, a3, b0, b1, b2, b3⟩ := At4.two (At4.of (f := ⟨q.a, f.b, q.c, q.d⟩) DP.out) (At4.of (f := (⟨q.a, s, q.c, q.d⟩ : Cf)) DR.out) (lt_of_block DP.out) (lt_of_block DR.out) hb
              obtain ⟨-, -, -, -, y0, y1, y2, y3⟩ := KK.out w' (DB.out.trans (hb.mono DB.out.size))
              exact ⟨a0, a1, a2, a3, b0, b1, b2, b3, y0, y1, y2, y3⟩)
            have HV := Lib.hid (HE.out.below (B1.out.trans (DB.out.mono B1.out.size)))
            have K1 := Lib.hid (any27 HV.out ⟨q.a, f.b, q.c, q.d⟩ OX.out)
            have K2 := Lib.hid (any27 HV.out (⟨q.a, s, q.c, q.d⟩ : Cf) ON.out)
            have K3 := Lib.hid (any29 HV.out ⟨q.a, f.b, q.c, q.d⟩ OX.out)
            have BD := Below.refl Wd.heap.size Wd
            clear OX ON HV
            generalize chk ⟨q.a, f.b, q.c, q.d⟩ = cx at *
            generalize chk (⟨q.a, s, q.c, q.d⟩ : Cf) = cn at *
            generalize field ⟨q.a, f.b, q.c, q.d⟩ = fx at *
            go_cut [92] (fun s92 wx => s92 = .bool false ∧ Below Wd.heap.size Wd wx)
            case first =>
              obtain ⟨p0, p1, p2, p3, r0, r1, r2, r3, y0, y1, y2, y3⟩ := KD.out Wd BD
              by_cases hfa : f.b = q.b
              · have z1 : (f.b == q.b) = true := by simpa using hfa
                have z2 : (s == q.b) = true := by simpa using GS.out.2 hfa
                have hx := G1.out.2 hfa
                have hn := G2.out.2 hfa
                subst hx
                subst hn
                clear hfa X1 Y1 B1 C1 C2 C3 H1 H2 H3 KK HE HF HQ HC HS HI BR G1 G2 G3 GS
                go_region_held3 (fun w' => w'.cell? ⟨p, 0, none⟩ = some (.int .i64 q.a) ∧ w'.cell? ⟨p, 1, none⟩ = some (.int .i64 f.b) ∧ w'.cell? ⟨p, 2, none⟩ = some (.int .i64 q.c) ∧ w'.cell? ⟨p, 3, none⟩ = some (.int .i64 q.d) ∧ w'.cell? ⟨r, 0, none⟩ = some (.int .i64 q.a) ∧ w'.cell? ⟨r, 1, none⟩ = some (.int .i64 s) ∧ w'.cell? ⟨r, 2, none⟩ = some (.int .i64 q.c) ∧ w'.cell? ⟨r, 3, none⟩ = some (.int .i64 q.d) ∧ w'.cell? ⟨w1.heap.size, 0, none⟩ = some (.int .i64 q.a) ∧ w'.cell? ⟨w1.heap.size, 1, none⟩ = some (.int .i64 q.b) ∧ w'.cell? ⟨w1.heap.size, 2, none⟩ = some (.int .i64 q.c) ∧ w'.cell? ⟨w1.heap.size, 3, none⟩ = some (.int .i64 q.d))
                  (first | exact ⟨p0, p1, p2, p3, r0, r1, r2, r3, y0, y1, y2, y3⟩ | exact KD.out _ (by first | assumption | exact Below.drewR (by assumption)))
                  (first
                    | (go_at_call 27; refine (K1.out _ (by first | assumption | exact Below.drewR (by assumption))).mono ?_; rintro e w7 ⟨rfl, hb7⟩)
                    | (go_at_call 27; refine (K2.out _ (by first | assumption | exact Below.drewR (by assumption))).mono ?_; rintro e w7 ⟨rfl, hb7⟩))
                go_wp2_with fail
                go_meet
                exact ⟨rfl, (by first | assumption | exact Below.drewR (by assumption))⟩
              · have z1 : (f.b == q.b) = false := by simpa using hfa
                have z2 : (s == q.b) = false := by simpa using fun h => hfa (GS.out.1 h)
                have z3 : (cx == 0) = false := by simpa using fun h => hfa (G1.out.1 h)
                have z4 : (cn == 0) = false := by simpa using fun h => hfa (G2.out.1 h)
                clear hfa X1 Y1 B1 C1 C2 C3 H1 H2 H3 KK HE HF HQ HC HS HI BR G1 G2 G3 GS
                go_region_held3 (fun w' => w'.cell? ⟨p, 0, none⟩ = some (.int .i64 q.a) ∧ w'.cell? ⟨p, 1, none⟩ = some (.int .i64 f.b) ∧ w'.cell? ⟨p, 2, none⟩ = some (.int .i64 q.c) ∧ w'.cell? ⟨p, 3, none⟩ = some (.int .i64 q.d) ∧ w'.cell? ⟨r, 0, none⟩ = some (.int .i64 q.a) ∧ w'.cell? ⟨r, 1, none⟩ = some (.int .i64 s) ∧ w'.cell? ⟨r, 2, none⟩ = some (.int .i64 q.c) ∧ w'.cell? ⟨r, 3, none⟩ = some (.int .i64 q.d) ∧ w'.cell? ⟨w1.heap.size, 0, none⟩ = some (.int .i64 q.a) ∧ w'.cell? ⟨w1.heap.size, 1, none⟩ = some (.int .i64 q.b) ∧ w'.cell? ⟨w1.heap.size, 2, none⟩ = some (.int .i64 q.c) ∧ w'.cell? ⟨w1.heap.size, 3, none⟩ = some (.int .i64 q.d))
                  (first | exact ⟨p0, p1, p2, p3, r0, r1, r2, r3, y0, y1, y2, y3⟩ | exact KD.out _ (by first | assumption | exact Below.drewR (by assumption)))
                  (first
                    | (go_at_call 27; refine (K1.out _ (by first | assumption | exact Below.drewR (by assumption))).mono ?_; rintro e w7 ⟨rfl, hb7⟩)
                    | (go_at_call 27; refine (K2.out _ (by first | assumption | exact Below.drewR (by assumption))).mono ?_; rintro e w7 ⟨rfl, hb7⟩))
                go_wp2_with fail
                go_meet
                exact ⟨rfl, (by first | assumption | exact Below.drewR (by assumption))⟩
            case rest =>
              obtain ⟨rfl, hbd⟩ := hcut
              go_upto_region 23 with fail
              go_cut [103] (fun s103 wx => s103 = .bool false ∧ Below Wd.heap.size Wd wx)
              case first =>
                obtain ⟨p0, p1, p2, p3, r0, r1, r2, r3, y0, y1, y2, y3⟩ := KD.out _ hbd
                by_cases hfa : f.b = q.b
                · have z1 : (f.b == q.b) = true := by simpa using hfa
                  clear hfa X1 Y1 B1 C1 C2 C3 H1 H2 H3 KK HE HF HQ HC HS HI BR G1 G2 G3 GS
                  go_quiet (fail)
                  go_wp2_with fail
                  go_meet
                  exact ⟨rfl, hbd.trans ⟨rfl, rfl, rfl, Nat.le_refl _, fun _ _ => rfl⟩⟩
                · have z1 : (f.b == q.b) = false := by simpa using hfa
                  have K4 : Hid (Any29 Wd ⟨q.a, f.b, q.c, q.d⟩ (nm 1)) := Lib.hid (by have := K3.out; rwa [G3.out hfa] at this)
                  unfold nm at K4
                  have hix := nix1
                  clear hfa X1 Y1 B1 C1 C2 C3 H1 H2 H3 KK HE HF HQ HC HS HI BR G1 G2 G3 GS K3
                  go_region_held3 (fun w' => w'.cell? ⟨p, 0, none⟩ = some (.int .i64 q.a) ∧ w'.cell? ⟨p, 1, none⟩ = some (.int .i64 f.b) ∧ w'.cell? ⟨p, 2, none⟩ = some (.int .i64 q.c) ∧ w'.cell? ⟨p, 3, none⟩ = some (.int .i64 q.d) ∧ w'.cell? ⟨r, 0, none⟩ = some (.int .i64 q.a) ∧ w'.cell? ⟨r, 1, none⟩ = some (.int .i64 s) ∧ w'.cell? ⟨r, 2, none⟩ = some (.int .i64 q.c) ∧ w'.cell? ⟨r, 3, none⟩ = some (.int .i64 q.d) ∧ w'.cell? ⟨w1.heap.size, 0, none⟩ = some (.int .i64 q.a) ∧ w'.cell? ⟨w1.heap.size, 1, none⟩ = some (.int .i64 q.b) ∧ w'.cell? ⟨w1.heap.size, 2, none⟩ = some (.int .i64 q.c) ∧ w'.cell? ⟨w1.heap.size, 3, none⟩ = some (.int .i64 q.d))
                    (first | exact ⟨p0, p1, p2, p3, r0, r1, r2, r3, y0, y1, y2, y3⟩ | exact KD.out _ (by first | assumption | exact Below.drewR (by assumption)))
                    (first
                      | (go_at_call 29; refine (K4.out _ (by first | assumption | exact Below.drewR (by assumption))).mono ?_; rintro e w7 ⟨rfl, hb7⟩))
                  all_goals
                    go_wp2_with fail
                    go_meet
                    exact ⟨rfl, (by first | assumption | exact Below.drewR (by assumption))⟩
              case rest =>
                obtain ⟨rfl, hbe⟩ := hcut
                go_wp2_with fail
                go_roundw
                case rel => exact ⟨1 + 1, by omega, by go_num, DB.out.trans (hbe.mono DB.out.size)⟩
                case measure => simp [intOf]
          · have F1 : chk ⟨q.a, q.b, f.c, q.d⟩ = 0 ↔ f.c = q.c := (H1.out 2 (by omega)).trans (put_same q (by omega) _)
            have F2 : chk ⟨q.a, q.b, stepf q.c f.c, q.d⟩ = 0 ↔ f.c = q.c := (H2.out 2 (by omega)).trans ((put_same q (by omega) _).trans (stepf_same _ _))
            have F3 : f.c ≠ q.c → field ⟨q.a, q.b, f.c, q.d⟩ = nm 2 := fun hne => H3.out 2 (by omega) (fun e => hne ((put_same q (by omega) _).1 e))
            have hsr := stepf_in HQ.out.c0 HQ.out.c1 HF.out.c0 HF.out.c1
            have hss := stepf_same q.c f.c
            have ST := Lib.hid (pstep HQ.out.c0 HQ.out.c1 HF.out.c0 HF.out.c1 (wc.setCell ⟨p, 2, none⟩ (.int .i64 f.c)))
            have zp : wc.frozen? ⟨p, 2, none⟩ = false := free_of BP.out 2
            have zr : wc.frozen? ⟨r, 2, none⟩ = false := free_of BQ.out 2
            have vp : wc.cell? ⟨p, 2, none⟩ = some (.int .i64 q.c) := cell_of BP.out 2
            have vr : wc.cell? ⟨r, 2, none⟩ = some (.int .i64 q.c) := cell_of BQ.out 2
            have OX : Hid (Cf.ok ⟨q.a, q.b, f.c, q.d⟩) := Lib.hid (put_ok' HQ.out 2 HF.out.c0 HF.out.c1)
            have ON : Hid (Cf.ok ⟨q.a, q.b, stepf q.c f.c, q.d⟩) := Lib.hid (put_ok' HQ.out 2 hsr.1 hsr.2)
            have G1 := Lib.hid F1
            have G2 := Lib.hid F2
            have G3 := Lib.hid F3
            have GS := Lib.hid hss
            clear F1 F2 F3 hsr hss
            generalize stepf q.c f.c = s at *
            go_wp2_with fail
            refine (ST.out).mono ?_; rintro e w9 ⟨rfl, rfl⟩
            go_upto_region 21 with fail
            have DP : Hid (((wc.setCell ⟨p, 2, none⟩ (.int .i64 f.c)).setCell ⟨r, 2, none⟩ (.int .i64 s)).heap[p]? = some (.cells #[.int .i64 q.a, .int .i64 q.b, .int .i64 f.c, .int .i64 q.d] 25 (0, 0))) := Lib.hid (block_set (set_of BP.out 2 (.int .i64 f.c)) (by simp; omega) _)
            have DR : Hid (((wc.setCell ⟨p, 2, none⟩ (.int .i64 f.c)).setCell ⟨r, 2, none⟩ (.int .i64 s)).heap[r]? = some (.cells #[.int .i64 q.a, .int .i64 q.b, .int .i64 s, .int .i64 q.d] 25 (0, 0))) := Lib.hid (set_of (block_set BQ.out (by simp; omega) _) 2 (.int .i64 s))
            have DB : Hid (Below W.heap.size W ((wc.setCell ⟨p, 2, none⟩ (.int .i64 f.c)).setCell ⟨r, 2, none⟩ (.int .i64 s))) := Lib.hid ((HB8.out.setCell HP.out _).setCell HR.out _)
            clear ST BP BQ HB8 HP HR HPR zp zr vp vr x0 x1 x2 x3 y0 y1 y2 y3
            generalize (wc.setCell ⟨p, 2, none⟩ (.int .i64 f.c)).setCell ⟨r, 2, none⟩ (.int .i64 s) = Wd at *
            have KD : Hid (∀ w', Below Wd.heap.size Wd w' → w'.cell? ⟨p, 0, none⟩ = some (.int .i64 q.a) ∧ w'.cell? ⟨p, 1, none⟩ = some (.int .i64 q.b) ∧ w'.cell? ⟨p, 2, none⟩ = some (.int .i64 f.c) ∧ w'.cell? ⟨p, 3, none⟩ = some (.int .i64 q.d) ∧ w'.cell? ⟨r, 0, none⟩ = some (.int .i64 q.a) ∧ w'.cell? ⟨r, 1, none⟩ = some (.int .i64 q.b) ∧ w'.cell? ⟨r, 2, none⟩ = some (.int .i64 s) ∧ w'.cell? ⟨r, 3, none⟩ = some (.int .i64 q.d) ∧ w'.cell? ⟨w1.heap.size, 0, none⟩ = some (.int .i64 q.a) ∧ w'.cell? ⟨w1.heap.size, 1, none⟩ = some (.int .i64 q.b) ∧ w'.cell? ⟨w1.heap.size, 2, none⟩ = some (.int .i64 q.c) ∧ w'.cell? ⟨w1.heap.size, 3, none⟩ = some (.int .i64 q.d)) := Lib.hid (fun w' hb => by
              obtain ⟨a0, a1, a2, a3, b0, b1, b2, b3⟩ := At4.two (At4.of (f := ⟨q.a, q.b, f.c, q.d⟩) DP.out) (At4.of (f := (⟨q.a, q.b, s, q.d⟩ : Cf)) DR.out) (lt_of_block DP.out) (lt_of_block DR.out) hb
              obtain ⟨-, -, -, -, y0, y1, y2, y3⟩ := KK.out w' (DB.out.trans (hb.mono DB.out.size))
              exact ⟨a0, a1, a2, a3, b0, b1, b2, b3, y0, y1, y2, y3⟩)
            have HV := Lib.hid (HE.out.below (B1.out.trans (DB.out.mono B1.out.size)))
            have K1 := Lib.hid (any27 HV.out ⟨q.a, q.b, f.c, q.d⟩ OX.out)
            have K2 := Lib.hid (any27 HV.out (⟨q.a, q.b, s, q.d⟩ : Cf) ON.out)
            have K3 := Lib.hid (any29 HV.out ⟨q.a, q.b, f.c, q.d⟩ OX.out)
            have BD := Below.refl Wd.heap.size Wd
            clear OX ON HV
            generalize chk ⟨q.a, q.b, f.c, q.d⟩ = cx at *
            generalize chk (⟨q.a, q.b, s, q.d⟩ : Cf) = cn at *
            generalize field ⟨q.a, q.b, f.c, q.d⟩ = fx at *
            go_cut [92] (fun s92 wx => s92 = .bool false ∧ Below Wd.heap.size Wd wx)
            case first =>
              obtain ⟨p0, p1, p2, p3, r0, r1, r2, r3, y0, y1, y2, y3⟩ := KD.out Wd BD
              by_cases hfa : f.c = q.c
              · have z1 : (f.c == q.c) = true := by simpa using hfa
                have z2 : (s == q.c) = true := by simpa using GS.out.2 hfa
                have hx := G1.out.2 hfa
                have hn := G2.out.2 hfa
                subst hx
                subst hn
                clear hfa X1 Y1 B1 C1 C2 C3 H1 H2 H3 KK HE HF HQ HC HS HI BR G1 G2 G3 GS
                go_region_held3 (fun w' => w'.cell? ⟨p, 0, none⟩ = some (.int .i64 q.a) ∧ w'.cell? ⟨p, 1, none⟩ = some (.int .i64 q.b) ∧ w'.cell? ⟨p, 2, none⟩ = some (.int .i64 f.c) ∧ w'.cell? ⟨p, 3, none⟩ = some (.int .i64 q.d) ∧ w'.cell? ⟨r, 0, none⟩ = some (.int .i64 q.a) ∧ w'.cell? ⟨r, 1, none⟩ = some (.int .i64 q.b) ∧ w'.cell? ⟨r, 2, none⟩ = some (.int .i64 s) ∧ w'.cell? ⟨r, 3, none⟩ = some (.int .i64 q.d) ∧ w'.cell? ⟨w1.heap.size, 0, none⟩ = some (.int .i64 q.a) ∧ w'.cell? ⟨w1.heap.size, 1, none⟩ = some (.int .i64 q.b) ∧ w'.cell? ⟨w1.heap.size, 2, none⟩ = some (.int .i64 q.c) ∧ w'.cell? ⟨w1.heap.size, 3, none⟩ = some (.int .i64 q.d))
                  (first | exact ⟨p0, p1, p2, p3, r0, r1, r2, r3, y0, y1, y2, y3⟩ | exact KD.out _ (by first | assumption | exact Below.drewR (by assumption)))
                  (first
                    | (go_at_call 27; refine (K1.out _ (by first | assumption | exact Below.drewR (by assumption))).mono ?_; rintro e w7 ⟨rfl, hb7⟩)
                    | (go_at_call 27; refine (K2.out _ (by first | assumption | exact Below.drewR (by assumption))).mono ?_; rintro e w7 ⟨rfl, hb7⟩))
                go_wp2_with fail
                go_meet
                exact ⟨rfl, (by first | assumption | exact Below.drewR (by assumption))⟩
              · have z1 : (f.c == q.c) = false := by simpa using hfa
                have z2 : (s == q.c) = false := by simpa using fun h => hfa (GS.out.1 h)
                have z3 : (cx == 0) = false := by simpa using fun h => hfa (G1.out.1 h)
                have z4 : (cn == 0) = false := by simpa using fun h => hfa (G2.out.1 h)
                clear hfa X1 Y1 B1 C1 C2 C3 H1 H2 H3 KK HE HF HQ HC HS HI BR G1 G2 G3 GS
                go_region_held3 (fun w' => w'.cell? ⟨p, 0, none⟩ = some (.int .i64 q.a) ∧ w'.cell? ⟨p, 1, none⟩ = some (.int .i64 q.b) ∧ w'.cell? ⟨p, 2, none⟩ = some (.int .i64 f.c) ∧ w'.cell? ⟨p, 3, none⟩ = some (.int .i64 q.d) ∧ w'.cell? ⟨r, 0, none⟩ = some (.int .i64 q.a) ∧ w'.cell? ⟨r, 1, none⟩ = some (.int .i64 q.b) ∧ w'.cell? ⟨r, 2, none⟩ = some (.int .i64 s) ∧ w'.cell? ⟨r, 3, none⟩ = some (.int .i64 q.d) ∧ w'.cell? ⟨w1.heap.size, 0, none⟩ = some (.int .i64 q.a) ∧ w'.cell? ⟨w1.heap.size, 1, none⟩ = some (.int .i64 q.b) ∧ w'.cell? ⟨w1.heap.size, 2, none⟩ = some (.int .i64 q.c) ∧ w'.cell? ⟨w1.heap.size, 3, none⟩ = some (.int .i64 q.d))
                  (first | exact ⟨p0, p1, p2, p3, r0, r1, r2, r3, y0, y1, y2, y3⟩ | exact KD.out _ (by first | assumption | exact Below.drewR (by assumption)))
                  (first
                    | (go_at_call 27; refine (K1.out _ (by first | assumption | exact Below.drewR (by assumption))).mono ?_; rintro e w7 ⟨rfl, hb7⟩)
                    | (go_at_call 27; refine (K2.out _ (by first | assumption | exact Below.drewR (by assumption))).mono ?_; rintro e w7 ⟨rfl, hb7⟩))
                go_wp2_with fail
                go_meet
                exact ⟨rfl, (by first | assumption | exact Below.drewR (by assumption))⟩
            case rest =>
              obtain ⟨rfl, hbd⟩ := hcut
              go_upto_region 23 with fail
              go_cut [103] (fun s103 wx => s103 = .bool false ∧ Below Wd.heap.size Wd wx)
              case first =>
                obtain ⟨p0, p1, p2, p3, r0, r1, r2, r3, y0, y1, y2, y3⟩ := KD.out _ hbd
                by_cases hfa : f.c = q.c
                · have z1 : (f.c == q.c) = true := by simpa using hfa
                  clear hfa X1 Y1 B1 C1 C2 C3 H1 H2 H3 KK HE HF HQ HC HS HI BR G1 G2 G3 GS
                  go_quiet (fail)
                  go_wp2_with fail
                  go_meet
                  exact ⟨rfl, hbd.trans ⟨rfl, rfl, rfl, Nat.le_refl _, fun _ _ => rfl⟩⟩
                · have z1 : (f.c == q.c) = false := by simpa using hfa
                  have K4 : Hid (Any29 Wd ⟨q.a, q.b, f.c, q.d⟩ (nm 2)) := Lib.hid (by have := K3.out; rwa [G3.out hfa] at this)
                  unfold nm at K4
                  have hix := nix2
                  clear hfa X1 Y1 B1 C1 C2 C3 H1 H2 H3 KK HE HF HQ HC HS HI BR G1 G2 G3 GS K3
                  go_region_held3 (fun w' => w'.cell? ⟨p, 0, none⟩ = some (.int .i64 q.a) ∧ w'.cell? ⟨p, 1, none⟩ = some (.int .i64 q.b) ∧ w'.cell? ⟨p, 2, none⟩ = some (.int .i64 f.c) ∧ w'.cell? ⟨p, 3, none⟩ = some (.int .i64 q.d) ∧ w'.cell? ⟨r, 0, none⟩ = some (.int .i64 q.a) ∧ w'.cell? ⟨r, 1, none⟩ = some (.int .i64 q.b) ∧ w'.cell? ⟨r, 2, none⟩ = some (.int .i64 s) ∧ w'.cell? ⟨r, 3, none⟩ = some (.int .i64 q.d) ∧ w'.cell? ⟨w1.heap.size, 0, none⟩ = some (.int .i64 q.a) ∧ w'.cell? ⟨w1.heap.size, 1, none⟩ = some (.int .i64 q.b) ∧ w'.cell? ⟨w1.heap.size, 2, none⟩ = some (.int .i64 q.c) ∧ w'.cell? ⟨w1.heap.size, 3, none⟩ = some (.int .i64 q.d))
                    (first | exact ⟨p0, p1, p2, p3, r0, r1, r2, r3, y0, y1, y2, y3⟩ | exact KD.out _ (by first | assumption | exact Below.drewR (by assumption)))
                    (first
                      | (go_at_call 29; refine (K4.out _ (by first | assumption | exact Below.drewR (by assumption))).mono ?_; rintro e w7 ⟨rfl, hb7⟩))
                  all_goals
                    go_wp2_with fail
                    go_meet
                    exact ⟨rfl, (by first | assumption | exact Below.drewR (by assumption))⟩
              case rest =>
                obtain ⟨rfl, hbe⟩ := hcut
                go_wp2_with fail
                go_roundw
                case rel => exact ⟨2 + 1, by omega, by go_num, DB.out.trans (hbe.mono DB.out.size)⟩
                case measure => simp [intOf]
          · have F1 : chk ⟨q.a, q.b, q.c, f.d⟩ = 0 ↔ f.d = q.d := (H1.out 3 (by omega)).trans (put_same q (by omega) _)
            have F2 : chk ⟨q.a, q.b, q.c, stepf q.d f.d⟩ = 0 ↔ f.d = q.d := (H2.out 3 (by omega)).trans ((put_same q (by omega) _).trans (stepf_same _ _))
            have F3 : f.d ≠ q.d → field ⟨q.a, q.b, q.c, f.d⟩ = nm 3 := fun hne => H3.out 3 (by omega) (fun e => hne ((put_same q (by omega) _).1 e))
            have hsr := stepf_in HQ.out.d0 HQ.out.d1 HF.out.d0 HF.out.d1
            have hss := stepf_same q.d f.d
            have ST := Lib.hid (pstep HQ.out.d0 HQ.out.d1 HF.out.d0 HF.out.d1 (wc.setCell ⟨p, 3, none⟩ (.int .i64 f.d)))
            have zp : wc.frozen? ⟨p, 3, none⟩ = false := free_of BP.out 3
            have zr : wc.frozen? ⟨r, 3, none⟩ = false := free_of BQ.out 3
            have vp : wc.cell? ⟨p, 3, none⟩ = some (.int .i64 q.d) := cell_of BP.out 3
            have vr : wc.cell? ⟨r, 3, none⟩ = some (.int .i64 q.d) := cell_of BQ.out 3
            have OX : Hid (Cf.ok ⟨q.a, q.b, q.c, f.d⟩) := Lib.hid (put_ok' HQ.out 3 HF.out.d0 HF.out.d1)
            have ON : Hid (Cf.ok ⟨q.a, q.b, q.c, stepf q.d f.d⟩) := Lib.hid (put_ok' HQ.out 3 hsr.1 hsr.2)
            have G1 := Lib.hid F1
            have G2 := Lib.hid F2
            have G3 := Lib.hid F3
            have GS := Lib.hid hss
            clear F1 F2 F3 hsr hss
            generalize stepf q.d f.d = s at *
            go_wp2_with fail
            refine (ST.out).mono ?_; rintro e w9 ⟨rfl, rfl⟩
            go_upto_region 21 with fail
            have DP : Hid (((wc.setCell ⟨p, 3, none⟩ (.int .i64 f.d)).setCell ⟨r, 3, none⟩ (.int .i64 s)).heap[p]? = some (.cells #[.int .i64 q.a, .int .i64 q.b, .int .i64 q.c, .int .i64 f.d] 25 (0, 0))) := Lib.hid (block_set (set_of BP.out 3 (.int .i64 f.d)) (by simp; omega) _)
            have DR : Hid (((wc.setCell ⟨p, 3, none⟩ (.int .i64 f.d)).setCell ⟨r, 3, none⟩ (.int .i64 s)).heap[r]? = some (.cells #[.int .i64 q.a, .int .i64 q.b, .int .i64 q.c, .int .i64 s] 25 (0, 0))) := Lib.hid (set_of (block_set BQ.out (by simp; omega) _) 3 (.int .i64 s))
            have DB : Hid (Below W.heap.size W ((wc.setCell ⟨p, 3, none⟩ (.int .i64 f.d)).setCell ⟨r, 3, none⟩ (.int .i64 s))) := Lib.hid ((HB8.out.setCell HP.out _).setCell HR.out _)
            clear ST BP BQ HB8 HP HR HPR zp zr vp vr x0 x1 x2 x3 y0 y1 y2 y3
            generalize (wc.setCell ⟨p, 3, none⟩ (.int .i64 f.d)).setCell ⟨r, 3, none⟩ (.int .i64 s) = Wd at *
            have KD : Hid (∀ w', Below Wd.heap.size Wd w' → w'.cell? ⟨p, 0, none⟩ = some (.int .i64 q.a) ∧ w'.cell? ⟨p, 1, none⟩ = some (.int .i64 q.b) ∧ w'.cell? ⟨p, 2, none⟩ = some (.int .i64 q.c) ∧ w'.cell? ⟨p, 3, none⟩ = some (.int .i64 f.d) ∧ w'.cell? ⟨r, 0, none⟩ = some (.int .i64 q.a) ∧ w'.cell? ⟨r, 1, none⟩ = some (.int .i64 q.b) ∧ w'.cell? ⟨r, 2, none⟩ = some (.int .i64 q.c) ∧ w'.cell? ⟨r, 3, none⟩ = some (.int .i64 s) ∧ w'.cell? ⟨w1.heap.size, 0, none⟩ = some (.int .i64 q.a) ∧ w'.cell? ⟨w1.heap.size, 1, none⟩ = some (.int .i64 q.b) ∧ w'.cell? ⟨w1.heap.size, 2, none⟩ = some (.int .i64 q.c) ∧ w'.cell? ⟨w1.heap.size, 3, none⟩ = some (.int .i64 q.d)) := Lib.hid (fun w' hb => by
              obtain ⟨a0, a1, a2, a3, b0, b1, b2, b3⟩ := At4.two (At4.of (f := ⟨q.a, q.b, q.c, f.d⟩) DP.out) (At4.of (f := (⟨q.a, q.b, q.c, s⟩ : Cf)) DR.out) (lt_of_block DP.out) (lt_of_block DR.out) hb
              obtain ⟨-, -, -, -, y0, y1, y2, y3⟩ := KK.out w' (DB.out.trans (hb.mono DB.out.size))
              exact ⟨a0, a1, a2, a3, b0, b1, b2, b3, y0, y1, y2, y3⟩)
            have HV := Lib.hid (HE.out.below (B1.out.trans (DB.out.mono B1.out.size)))
            have K1 := Lib.hid (any27 HV.out ⟨q.a, q.b, q.c, f.d⟩ OX.out)
            have K2 := Lib.hid (any27 HV.out (⟨q.a, q.b, q.c, s⟩ : Cf) ON.out)
            have K3 := Lib.hid (any29 HV.out ⟨q.a, q.b, q.c, f.d⟩ OX.out)
            have BD := Below.refl Wd.heap.size Wd
            clear OX ON HV
            generalize chk ⟨q.a, q.b, q.c, f.d⟩ = cx at *
            generalize chk (⟨q.a, q.b, q.c, s⟩ : Cf) = cn at *
            generalize field ⟨q.a, q.b, q.c, f.d⟩ = fx at *
            go_cut [92] (fun s92 wx => s92 = .bool false ∧ Below Wd.heap.size Wd wx)
            case first =>
              obtain ⟨p0, p1, p2, p3, r0, r1, r2, r3, y0, y1, y2, y3⟩ := KD.out Wd BD
              by_cases hfa : f.d = q.d
              · have z1 : (f.d == q.d) = true := by simpa using hfa
                have z2 : (s == q.d) = true := by simpa using GS.out.2 hfa
                have hx := G1.out.2 hfa
                have hn := G2.out.2 hfa
                subst hx
                subst hn
                clear hfa X1 Y1 B1 C1 C2 C3 H1 H2 H3 KK HE HF HQ HC HS HI BR G1 G2 G3 GS
                go_region_held3 (fun w' => w'.cell? ⟨p, 0, none⟩ = some (.int .i64 q.a) ∧ w'.cell? ⟨p, 1, none⟩ = some (.int .i64 q.b) ∧ w'.cell? ⟨p, 2, none⟩ = some (.int .i64 q.c) ∧ w'.cell? ⟨p, 3, none⟩ = some (.int .i64 f.d) ∧ w'.cell? ⟨r, 0, none⟩ = some (.int .i64 q.a) ∧ w'.cell? ⟨r, 1, none⟩ = some (.int .i64 q.b) ∧ w'.cell? ⟨r, 2, none⟩ = some (.int .i64 q.c) ∧ w'.cell? ⟨r, 3, none⟩ = some (.int .i64 s) ∧ w'.cell? ⟨w1.heap.size, 0, none⟩ = some (.int .i64 q.a) ∧ w'.cell? ⟨w1.heap.size, 1, none⟩ = some (.int .i64 q.b) ∧ w'.cell? ⟨w1.heap.size, 2, none⟩ = some (.int .i64 q.c) ∧ w'.cell? ⟨w1.heap.size, 3, none⟩ = some (.int .i64 q.d))
                  (first | exact ⟨p0, p1, p2, p3, r0, r1, r2, r3, y0, y1, y2, y3⟩ | exact KD.out _ (by first | assumption | exact Below.drewR (by assumption)))
                  (first
                    | (go_at_call 27; refine (K1.out _ (by first | assumption | exact Below.drewR (by assumption))).mono ?_; rintro e w7 ⟨rfl, hb7⟩)
                    | (go_at_call 27; refine (K2.out _ (by first | assumption | exact Below.drewR (by assumption))).mono ?_; rintro e w7 ⟨rfl, hb7⟩))
                go_wp2_with fail
                go_meet
                exact ⟨rfl, (by first | assumption | exact Below.drewR (by assumption))⟩
              · have z1 : (f.d == q.d) = false := by simpa using hfa
                have z2 : (s == q.d) = false := by simpa using fun h => hfa (GS.out.1 h)
                have z3 : (cx == 0) = false := by simpa using fun h => hfa (G1.out.1 h)
                have z4 : (cn == 0) = false := by simpa using fun h => hfa (G2.out.1 h)
                clear hfa X1 Y1 B1 C1 C2 C3 H1 H2 H3 KK HE HF HQ HC HS HI BR G1 G2 G3 GS
                go_region_held3 (fun w' => w'.cell? ⟨p, 0, none⟩ = some (.int .i64 q.a) ∧ w'.cell? ⟨p, 1, none⟩ = some (.int .i64 q.b) ∧ w'.cell? ⟨p, 2, none⟩ = some (.int .i64 q.c) ∧ w'.cell? ⟨p, 3, none⟩ = some (.int .i64 f.d) ∧ w'.cell? ⟨r, 0, none⟩ = some (.int .i64 q.a) ∧ w'.cell? ⟨r, 1, none⟩ = some (.int .i64 q.b) ∧ w'.cell? ⟨r, 2, none⟩ = some (.int .i64 q.c) ∧ w'.cell? ⟨r, 3, none⟩ = some (.int .i64 s) ∧ w'.cell? ⟨w1.heap.size, 0, none⟩ = some (.int .i64 q.a) ∧ w'.cell? ⟨w1.heap.size, 1, none⟩ = some (.int .i64 q.b) ∧ w'.cell? ⟨w1.heap.size, 2, none⟩ = some (.int .i64 q.c) ∧ w'.cell? ⟨w1.heap.size, 3, none⟩ = some (.int .i64 q.d))
                  (first | exact ⟨p0, p1, p2, p3, r0, r1, r2, r3, y0, y1, y2, y3⟩ | exact KD.out _ (by first | assumption | exact Below.drewR (by assumption)))
                  (first
                    | (go_at_call 27; refine (K1.out _ (by first | assumption | exact Below.drewR (by assumption))).mono ?_; rintro e w7 ⟨rfl, hb7⟩)
                    | (go_at_call 27; refine (K2.out _ (by first | assumption | exact Below.drewR (by assumption))).mono ?_; rintro e w7 ⟨rfl, hb7⟩))
                go_wp2_with fail
                go_meet
                exact ⟨rfl, (by first | assumption | exact Below.drewR (by assumption))⟩
            case rest =>
              obtain ⟨rfl, hbd⟩ := hcut
              go_upto_region 23 with fail
              go_cut [103] (fun s103 wx => s103 = .bool false ∧ Below Wd.heap.size Wd wx)
              case first =>
                obtain ⟨p0, p1, p2, p3, r0, r1, r2, r3, y0, y1, y2, y3⟩ := KD.out _ hbd
                by_cases hfa : f.d = q.d
                · have z1 : (f.d == q.d) = true := by simpa using hfa
                  clear hfa X1 Y1 B1 C1 C2 C3 H1 H2 H3 KK HE HF HQ HC HS HI BR G1 G2 G3 GS
                  go_quiet (fail)
                  go_wp2_with fail
                  go_meet
                  exact ⟨rfl, hbd.trans ⟨rfl, rfl, rfl, Nat.le_refl _, fun _ _ => rfl⟩⟩
                · have z1 : (f.d == q.d) = false := by simpa using hfa
                  have K4 : Hid (Any29 Wd ⟨q.a, q.b, q.c, f.d⟩ (nm 3)) := Lib.hid (by have := K3.out; rwa [G3.out hfa] at this)
                  unfold nm at K4
                  have hix := nix3
                  clear hfa X1 Y1 B1 C1 C2 C3 H1 H2 H3 KK HE HF HQ HC HS HI BR G1 G2 G3 GS K3
                  go_region_held3 (fun w' => w'.cell? ⟨p, 0, none⟩ = some (.int .i64 q.a) ∧ w'.cell? ⟨p, 1, none⟩ = some (.int .i64 q.b) ∧ w'.cell? ⟨p, 2, none⟩ = some (.int .i64 q.c) ∧ w'.cell? ⟨p, 3, none⟩ = some (.int .i64 f.d) ∧ w'.cell? ⟨r, 0, none⟩ = some (.int .i64 q.a) ∧ w'.cell? ⟨r, 1, none⟩ = some (.int .i64 q.b) ∧ w'.cell? ⟨r, 2, none⟩ = some (.int .i64 q.c) ∧ w'.cell? ⟨r, 3, none⟩ = some (.int .i64 s) ∧ w'.cell? ⟨w1.heap.size, 0, none⟩ = some (.int .i64 q.a) ∧ w'.cell? ⟨w1.heap.size, 1, none⟩ = some (.int .i64 q.b) ∧ w'.cell? ⟨w1.heap.size, 2, none⟩ = some (.int .i64 q.c) ∧ w'.cell? ⟨w1.heap.size, 3, none⟩ = some (.int .i64 q.d))
                    (first | exact ⟨p0, p1, p2, p3, r0, r1, r2, r3, y0, y1, y2, y3⟩ | exact KD.out _ (by first | assumption | exact Below.drewR (by assumption)))
                    (first
                      | (go_at_call 29; refine (K4.out _ (by first | assumption | exact Below.drewR (by assumption))).mono ?_; rintro e w7 ⟨rfl, hb7⟩))
                  all_goals
                    go_wp2_with fail
                    go_meet
                    exact ⟨rfl, (by first | assumption | exact Below.drewR (by assumption))⟩
              case rest =>
                obtain ⟨rfl, hbe⟩ := hcut
                go_wp2_with fail
                go_roundw
                case rel => exact ⟨3 + 1, by omega, by go_num, DB.out.trans (hbe.mono DB.out.size)⟩
                case measure => simp [intOf]

end Go.Proofs.YtabihdhgonnihaaDoor

/- visit, with the reader. -/
import Derived.Test.YthnoihdojinocaaV
import Derived.StillTailTactics
namespace Go.Proofs.Ythnoihdojinocaa
open Go.ChangeShapes Go.WideShapes Go.ChangeAt Go.RowKit
set_option linter.unusedSimpArgs false
set_option linter.unusedVariables false

theorem na_r (k : Nat) : (∀ w, (nilAhead 214 65 (.pointer (some ⟨k, 0, none⟩)) "seepage/codec.unsigned").run Try.prog w = .ok (some false) w) ∧ (∀ w, (nilAhead 214 65 (.pointer (some ⟨k, 0, none⟩)) "seepage/codec.signed").run Try.prog w = .ok (some false) w) ∧ (∀ w, (nilAhead 214 65 (.pointer (some ⟨k, 0, none⟩)) "seepage/codec.draws").run Try.prog w = .ok (some false) w) ∧ (∀ w, (nilAhead 214 65 (.pointer (some ⟨k, 0, none⟩)) "seepage/codec.bounds").run Try.prog w = .ok (some false) w) := ⟨fun _ => by kernel_rfl, fun _ => by kernel_rfl, fun _ => by kernel_rfl, fun _ => by kernel_rfl⟩
theorem me_r (k : Nat) : (∀ w, (method 214 65 (.pointer (some ⟨k, 0, none⟩)) "seepage/codec.unsigned").run Try.prog w = .ok (71, .pointer (some ⟨k, 0, none⟩)) w) ∧ (∀ w, (method 214 65 (.pointer (some ⟨k, 0, none⟩)) "seepage/codec.signed").run Try.prog w = .ok (70, .pointer (some ⟨k, 0, none⟩)) w) ∧ (∀ w, (method 214 65 (.pointer (some ⟨k, 0, none⟩)) "seepage/codec.draws").run Try.prog w = .ok (69, .pointer (some ⟨k, 0, none⟩)) w) ∧ (∀ w, (method 214 65 (.pointer (some ⟨k, 0, none⟩)) "seepage/codec.bounds").run Try.prog w = .ok (68, .pointer (some ⟨k, 0, none⟩)) w) := ⟨fun _ => by kernel_rfl, fun _ => by kernel_rfl, fun _ => by kernel_rfl, fun _ => by kernel_rfl⟩
/-- A command in block x and a reader in block k. -/
structure KX (w0 : World) (k x : Nat) (c : Cm) (r : List Nat) (wr : World) : Prop where
  rd : KR w0 k r wr
  cells : ∃ ad cd ab cb, wr.heap[x]? = some (.cells (cmV c (.slice ad c.d.length cd) (.slice ab c.b.length cb)) 27 (0, 0)) ∧ LsAt wr c ad cd ab cb ∧ (∀ y, ad = some y → w0.heap.size ≤ y.block) ∧ (∀ y, ab = some y → w0.heap.size ≤ y.block)
  ne : x ≠ k
  le : w0.heap.size ≤ x
theorem KX.drew {w0 wr : World} {k x : Nat} {c : Cm} {r : List Nat} (h : KX w0 k x c r wr) : KX w0 k x c r wr.drew := by
  obtain ⟨ad, cd, ab, cb, h1, h2, h3⟩ := h.cells
  exact ⟨h.rd.drew, ⟨ad, cd, ab, cb, h1, h2.keep (Below.refl _ _).drew, h3⟩, h.ne, h.le⟩
theorem KX.op {w0 wr : World} {k x : Nat} {c : Cm} {r : List Nat} (h : KX w0 k x c r wr) : wr.cell? ⟨x, 0, none⟩ = some (.int .i64 c.op) := by
  obtain ⟨ad, cd, ab, cb, h1, h2⟩ := h.cells
  exact cell_of h1 0
def KXp (w0 : World) (k x : Nat) (o : Option (Cm × List Nat)) (e : Ending) (w' : World) : Prop := match o with
  | none => e = PN ∧ Touch (fun i => i = k) w0 w'
  | some (c', r') => e = .returned (.tuple #[]) ∧ KX w0 k x c' r' w'
def VR (w0 : World) (k x : Nat) (o : Option (Cm × List Nat)) (e : Ending) (w' : World) : Prop := match o with
  | none => e = PN ∧ Touch (fun i => i = k) w0 w'
  | some (c', r') => e = .returned (.bool true) ∧ KX w0 k x c' r' w'
theorem vr_no {w0 w' : World} {k x : Nat} (h : Touch (fun i => i = k) w0 w') : VR w0 k x none PN w' := ⟨rfl, h⟩
theorem IsSl.none0 {ik : IntKind} {w w' : World} {a : Option Addr} {n c : Nat} {zs : List Int} (h : IsK ik w a n c zs) (hz : zs = []) : IsK ik w' a n c zs := ⟨h.hlen, h.hle, h.hmax, h.hnone, fun hne => absurd hz hne⟩
section
variable {w0 w : World} {k x : Nat} {r : List Nat} {c : Cm}
theorem kx_u (h : KX w0 k x c r w) (hd : c.d = []) (hb : c.b = []) : Calls Try.prog 71 #[.pointer (some ⟨k, 0, none⟩), .pointer (some ⟨x, 1, none⟩)] w (KXp w0 k x (getF c r .u)) := by
  obtain ⟨ad, cd, ab, cb, h1, h2, q1, q2⟩ := h.cells
  refine (kr_u h.rd h1 (o := 1) (by simp [cmV]) h.ne h.le).mono ?_
  intro e w' hh
  unfold KRu at hh
  unfold KXp
  simp only [getF]
  cases hg : gu r with
  | none => rw [hg] at hh; exact hh
  | some p =>
    obtain ⟨y, m⟩ := p
    rw [hg] at hh
    obtain ⟨h3, h4, h5, h6⟩ := hh
    exact ⟨h3, h4, ⟨ad, cd, ab, cb, h5, ⟨h2.d.none0 (by rw [hd]; rfl), h2.b.none0 hb⟩, q1, q2⟩, h.ne, h.le⟩
theorem nil_u {c1 : Cm} {r1 : List Nat} (hg : getF c r .u = some (c1, r1)) (hd : c.d = []) (hb : c.b = []) : c1.d = [] ∧ c1.b = [] := by
  simp only [getF] at hg
  split at hg
  · cases hg
  · cases hg; exact ⟨hd, hb⟩
theorem kx_v (h : KX w0 k x c r w) (hd : c.d = []) (hb : c.b = []) : Calls Try.prog 71 #[.pointer (some ⟨k, 0, none⟩), .pointer (some ⟨x, 2, none⟩)] w (KXp w0 k x (getF c r .v)) := by
  obtain ⟨ad, cd, ab, cb, h1, h2, q1, q2⟩ := h.cells
  refine (kr_u h.rd h1 (o := 2) (by simp [cmV]) h.ne h.le).mono ?_
  intro e w' hh
  unfold KRu at hh
  unfold KXp
  simp only [getF]
  cases hg : gu r with
  | none => rw [hg] at hh; exact hh
  | some p =>
    obtain ⟨y, m⟩ := p
    rw [hg] at hh
    obtain ⟨h3, h4, h5, h6⟩ := hh
    exact ⟨h3, h4, ⟨ad, cd, ab, cb, h5, ⟨h2.d.none0 (by rw [hd]; rfl), h2.b.none0 hb⟩, q1, q2⟩, h.ne, h.le⟩
theorem nil_v {c1 : Cm} {r1 : List Nat} (hg : getF c r .v = some (c1, r1)) (hd : c.d = []) (hb : c.b = []) : c1.d = [] ∧ c1.b = [] := by
  simp only [getF] at hg
  split at hg
  · cases hg
  · cases hg; exact ⟨hd, hb⟩
theorem kx_w (h : KX w0 k x c r w) (hd : c.d = []) (hb : c.b = []) : Calls Try.prog 70 #[.pointer (some ⟨k, 0, none⟩), .pointer (some ⟨x, 3, none⟩)] w (KXp w0 k x (getF c r .w)) := by
  obtain ⟨ad, cd, ab, cb, h1, h2, q1, q2⟩ := h.cells
  refine (kr_s h.rd h1 (o := 3) (by simp [cmV]) h.ne h.le).mono ?_
  intro e w' hh
  unfold KRu at hh
  unfold KXp
  simp only [getF]
  cases hg : gu r with
  | none => rw [hg] at hh; exact hh
  | some p =>
    obtain ⟨y, m⟩ := p
    rw [hg] at hh
    obtain ⟨h3, h4, h5, h6⟩ := hh
    exact ⟨h3, h4, ⟨ad, cd, ab, cb, h5, ⟨h2.d.none0 (by rw [hd]; rfl), h2.b.none0 hb⟩, q1, q2⟩, h.ne, h.le⟩
theorem nil_w {c1 : Cm} {r1 : List Nat} (hg : getF c r .w = some (c1, r1)) (hd : c.d = []) (hb : c.b = []) : c1.d = [] ∧ c1.b = [] := by
  simp only [getF] at hg
  split at hg
  · cases hg
  · cases hg; exact ⟨hd, hb⟩
theorem kx_t (h : KX w0 k x c r w) (hd : c.d = []) (hb : c.b = []) : Calls Try.prog 70 #[.pointer (some ⟨k, 0, none⟩), .pointer (some ⟨x, 4, none⟩)] w (KXp w0 k x (getF c r .t)) := by
  obtain ⟨ad, cd, ab, cb, h1, h2, q1, q2⟩ := h.cells
  refine (kr_s h.rd h1 (o := 4) (by simp [cmV]) h.ne h.le).mono ?_
  intro e w' hh
  unfold KRu at hh
  unfold KXp
  simp only [getF]
  cases hg : gu r with
  | none => rw [hg] at hh; exact hh
  | some p =>
    obtain ⟨y, m⟩ := p
    rw [hg] at hh
    obtain ⟨h3, h4, h5, h6⟩ := hh
    exact ⟨h3, h4, ⟨ad, cd, ab, cb, h5, ⟨h2.d.none0 (by rw [hd]; rfl), h2.b.none0 hb⟩, q1, q2⟩, h.ne, h.le⟩
theorem nil_t {c1 : Cm} {r1 : List Nat} (hg : getF c r .t = some (c1, r1)) (hd : c.d = []) (hb : c.b = []) : c1.d = [] ∧ c1.b = [] := by
  simp only [getF] at hg
  split at hg
  · cases hg
  · cases hg; exact ⟨hd, hb⟩
theorem kx_d (h : KX w0 k x c r w) (hd : c.d = []) (hb : c.b = []) : Calls Try.prog 69 #[.pointer (some ⟨k, 0, none⟩), .pointer (some ⟨x, 5, none⟩)] w (KXp w0 k x (getF c r .d)) := by
  obtain ⟨ad, cd, ab, cb, h1, h2, q1, q2⟩ := h.cells
  refine (kr_d h.rd h1 (o := 5) (by simp [cmV]) h.ne h.le).mono ?_
  intro e w' hh
  unfold KRd at hh
  unfold KXp
  simp only [getF]
  split at hh
  · rename_i hg; rw [hg]; exact hh
  · rename_i l r' hg
    rw [hg]
    obtain ⟨a, cp, h3, h4, h5, h6, q3⟩ := hh
    exact ⟨h3, h4, ⟨a, cp, ab, cb, h5, ⟨h6, h2.b.none0 hb⟩, q3, q2⟩, h.ne, h.le⟩
theorem kx_b (h : KX w0 k x c r w) (hd : c.d = []) (hb : c.b = []) : Calls Try.prog 68 #[.pointer (some ⟨k, 0, none⟩), .pointer (some ⟨x, 6, none⟩)] w (KXp w0 k x (getF c r .b)) := by
  obtain ⟨ad, cd, ab, cb, h1, h2, q1, q2⟩ := h.cells
  refine (kr_b h.rd h1 (o := 6) (by simp [cmV]) h.ne h.le).mono ?_
  intro e w' hh
  unfold KRd at hh
  unfold KXp
  simp only [getF]
  split at hh
  · rename_i hg; rw [hg]; exact hh
  · rename_i l r' hg
    rw [hg]
    obtain ⟨a, cp, h3, h4, h5, h6, q3⟩ := hh
    exact ⟨h3, h4, ⟨ad, cd, a, cp, h5, ⟨h2.d.none0 (by rw [hd]; rfl), h6⟩, q1, q3⟩, h.ne, h.le⟩
set_option maxRecDepth 100000 in
set_option maxHeartbeats 8000000 in
theorem pvr_1 (h : KX w0 k x c r w) (hd : c.d = []) (hb : c.b = []) (hop : c.op = 1) : Calls Try.prog 39 #[.pointer (some ⟨x, 0, none⟩), .iface 65 (.pointer (some ⟨k, 0, none⟩))] w (VR w0 k x (getFs [Fd.u, Fd.v, Fd.w, Fd.t] c r)) := by
  have K := Lib.hid h
  have x0 := h.op
  rw [hop] at x0
  clear h hop
  obtain ⟨n1, n2, n3, n4⟩ := na_r k
  obtain ⟨m1, m2, m3, m4⟩ := me_r k
  cases hg0 : getF c r .u with
  | none =>
    have hR : getFs [Fd.u, Fd.v, Fd.w, Fd.t] c r = none := by simp only [getFs, hg0]
    rw [hR]
    clear hR
    have HG0 := Lib.hid hg0; clear hg0
    go_enter Try.func39, Try.ntmps39
    go_wp2_with fail
    go_still_tail 7, (by kernel_rfl)
    go_wp2_with fail
    refine (kx_u (KX.drew K.out) hd hb).mono ?_
    intro e w1 hh; rw [HG0.out] at hh; obtain ⟨rfl, hbel⟩ := hh
    go_wp2_with fail
    exact ⟨rfl, vr_no hbel⟩
  | some p =>
    obtain ⟨c1, r1⟩ := p
    obtain ⟨hd1, hb1⟩ := nil_u hg0 hd hb
    cases hg1 : getF c1 r1 .v with
    | none =>
      have hR : getFs [Fd.u, Fd.v, Fd.w, Fd.t] c r = none := by simp only [getFs, hg0, hg1]
      rw [hR]
      clear hR
      have HG0 := Lib.hid hg0; clear hg0
      have HG1 := Lib.hid hg1; clear hg1
      go_enter Try.func39, Try.ntmps39
      go_wp2_with fail
      go_still_tail 7, (by kernel_rfl)
      go_wp2_with fail
      refine (kx_u (KX.drew K.out) hd hb).mono ?_
      intro e w1 hh; rw [HG0.out] at hh; obtain ⟨rfl, hk1⟩ := hh
      have K_ := Lib.hid hk1; clear hk1 K; have K := K_; clear K_
      go_wp2_with fail
      go_still_tail 7, (by kernel_rfl)
      go_wp2_with fail
      refine (kx_v (KX.drew K.out) hd1 hb1).mono ?_
      intro e w1 hh; rw [HG1.out] at hh; obtain ⟨rfl, hbel⟩ := hh
      go_wp2_with fail
      exact ⟨rfl, vr_no hbel⟩
    | some p =>
      obtain ⟨c2, r2⟩ := p
      obtain ⟨hd2, hb2⟩ := nil_v hg1 hd1 hb1
      cases hg2 : getF c2 r2 .w with
      | none =>
        have hR : getFs [Fd.u, Fd.v, Fd.w, Fd.t] c r = none := by simp only [getFs, hg0, hg1, hg2]
        rw [hR]
        clear hR
        have HG0 := Lib.hid hg0; clear hg0
        have HG1 := Lib.hid hg1; clear hg1
        have HG2 := Lib.hid hg2; clear hg2
        go_enter Try.func39, Try.ntmps39
        go_wp2_with fail
        go_still_tail 7, (by kernel_rfl)
        go_wp2_with fail
        refine (kx_u (KX.drew K.out) hd hb).mono ?_
        intro e w1 hh; rw [HG0.out] at hh; obtain ⟨rfl, hk1⟩ := hh
        have K_ := Lib.hid hk1; clear hk1 K; have K := K_; clear K_
        go_wp2_with fail
        go_still_tail 7, (by kernel_rfl)
        go_wp2_with fail
        refine (kx_v (KX.drew K.out) hd1 hb1).mono ?_
        intro e w1 hh; rw [HG1.out] at hh; obtain ⟨rfl, hk1⟩ := hh
        have K_ := Lib.hid hk1; clear hk1 K; have K := K_; clear K_
        go_wp2_with fail
        go_still_tail 7, (by kernel_rfl)
        go_wp2_with fail
        refine (kx_w (KX.drew K.out) hd2 hb2).mono ?_
        intro e w1 hh; rw [HG2.out] at hh; obtain ⟨rfl, hbel⟩ := hh
        go_wp2_with fail
        exact ⟨rfl, vr_no hbel⟩
      | some p =>
        obtain ⟨c3, r3⟩ := p
        obtain ⟨hd3, hb3⟩ := nil_w hg2 hd2 hb2
        cases hg3 : getF c3 r3 .t with
        | none =>
          have hR : getFs [Fd.u, Fd.v, Fd.w, Fd.t] c r = none := by simp only [getFs, hg0, hg1, hg2, hg3]
          rw [hR]
          clear hR
          have HG0 := Lib.hid hg0; clear hg0
          have HG1 := Lib.hid hg1; clear hg1
          have HG2 := Lib.hid hg2; clear hg2
          have HG3 := Lib.hid hg3; clear hg3
          go_enter Try.func39, Try.ntmps39
          go_wp2_with fail
          go_still_tail 7, (by kernel_rfl)
          go_wp2_with fail
          refine (kx_u (KX.drew K.out) hd hb).mono ?_
          intro e w1 hh; rw [HG0.out] at hh; obtain ⟨rfl, hk1⟩ := hh
          have K_ := Lib.hid hk1; clear hk1 K; have K := K_; clear K_
          go_wp2_with fail
          go_still_tail 7, (by kernel_rfl)
          go_wp2_with fail
          refine (kx_v (KX.drew K.out) hd1 hb1).mono ?_
          intro e w1 hh; rw [HG1.out] at hh; obtain ⟨rfl, hk1⟩ := hh
          have K_ := Lib.hid hk1; clear hk1 K; have K := K_; clear K_
          go_wp2_with fail
          go_still_tail 7, (by kernel_rfl)
          go_wp2_with fail
          refine (kx_w (KX.drew K.out) hd2 hb2).mono ?_
          intro e w1 hh; rw [HG2.out] at hh; obtain ⟨rfl, hk1⟩ := hh
          have K_ := Lib.hid hk1; clear hk1 K; have K := K_; clear K_
          go_wp2_with fail
          go_still_tail 7, (by kernel_rfl)
          go_wp2_with fail
          refine (kx_t (KX.drew K.out) hd3 hb3).mono ?_
          intro e w1 hh; rw [HG3.out] at hh; obtain ⟨rfl, hbel⟩ := hh
          go_wp2_with fail
          exact ⟨rfl, vr_no hbel⟩
        | some p =>
          obtain ⟨c4, r4⟩ := p
          have hR : getFs [Fd.u, Fd.v, Fd.w, Fd.t] c r = some (c4, r4) := by simp only [getFs, hg0, hg1, hg2, hg3]
          rw [hR]
          clear hR
          have HG0 := Lib.hid hg0; clear hg0
          have HG1 := Lib.hid hg1; clear hg1
          have HG2 := Lib.hid hg2; clear hg2
          have HG3 := Lib.hid hg3; clear hg3
          go_enter Try.func39, Try.ntmps39
          go_wp2_with fail
          go_still_tail 7, (by kernel_rfl)
          go_wp2_with fail
          refine (kx_u (KX.drew K.out) hd hb).mono ?_
          intro e w1 hh; rw [HG0.out] at hh; obtain ⟨rfl, hk1⟩ := hh
          have K_ := Lib.hid hk1; clear hk1 K; have K := K_; clear K_
          go_wp2_with fail
          go_still_tail 7, (by kernel_rfl)
          go_wp2_with fail
          refine (kx_v (KX.drew K.out) hd1 hb1).mono ?_
          intro e w1 hh; rw [HG1.out] at hh; obtain ⟨rfl, hk1⟩ := hh
          have K_ := Lib.hid hk1; clear hk1 K; have K := K_; clear K_
          go_wp2_with fail
          go_still_tail 7, (by kernel_rfl)
          go_wp2_with fail
          refine (kx_w (KX.drew K.out) hd2 hb2).mono ?_
          intro e w1 hh; rw [HG2.out] at hh; obtain ⟨rfl, hk1⟩ := hh
          have K_ := Lib.hid hk1; clear hk1 K; have K := K_; clear K_
          go_wp2_with fail
          go_still_tail 7, (by kernel_rfl)
          go_wp2_with fail
          refine (kx_t (KX.drew K.out) hd3 hb3).mono ?_
          intro e w1 hh; rw [HG3.out] at hh; obtain ⟨rfl, hk1⟩ := hh
          have K_ := Lib.hid hk1; clear hk1 K; have K := K_; clear K_
          go_wp2_with fail
          go_ret
          exact ⟨rfl, K.out⟩
set_option maxRecDepth 100000 in
set_option maxHeartbeats 8000000 in
theorem pvr_2 (h : KX w0 k x c r w) (hd : c.d = []) (hb : c.b = []) (hop : c.op = 2) : Calls Try.prog 39 #[.pointer (some ⟨x, 0, none⟩), .iface 65 (.pointer (some ⟨k, 0, none⟩))] w (VR w0 k x (getFs [Fd.t] c r)) := by
  have K := Lib.hid h
  have x0 := h.op
  rw [hop] at x0
  clear h hop
  obtain ⟨n1, n2, n3, n4⟩ := na_r k
  obtain ⟨m1, m2, m3, m4⟩ := me_r k
  cases hg0 : getF c r .t with
  | none =>
    have hR : getFs [Fd.t] c r = none := by simp only [getFs, hg0]
    rw [hR]
    clear hR
    have HG0 := Lib.hid hg0; clear hg0
    go_enter Try.func39, Try.ntmps39
    go_wp2_with fail
    go_still_tail 7, (by kernel_rfl)
    go_wp2_with fail
    refine (kx_t (KX.drew K.out) hd hb).mono ?_
    intro e w1 hh; rw [HG0.out] at hh; obtain ⟨rfl, hbel⟩ := hh
    go_wp2_with fail
    exact ⟨rfl, vr_no hbel⟩
  | some p =>
    obtain ⟨c1, r1⟩ := p
    have hR : getFs [Fd.t] c r = some (c1, r1) := by simp only [getFs, hg0]
    rw [hR]
    clear hR
    have HG0 := Lib.hid hg0; clear hg0
    go_enter Try.func39, Try.ntmps39
    go_wp2_with fail
    go_still_tail 7, (by kernel_rfl)
    go_wp2_with fail
    refine (kx_t (KX.drew K.out) hd hb).mono ?_
    intro e w1 hh; rw [HG0.out] at hh; obtain ⟨rfl, hk1⟩ := hh
    have K_ := Lib.hid hk1; clear hk1 K; have K := K_; clear K_
    go_wp2_with fail
    go_ret
    exact ⟨rfl, K.out⟩
set_option maxRecDepth 100000 in
set_option maxHeartbeats 8000000 in
theorem pvr_3 (h : KX w0 k x c r w) (hd : c.d = []) (hb : c.b = []) (hop : c.op = 3) : Calls Try.prog 39 #[.pointer (some ⟨x, 0, none⟩), .iface 65 (.pointer (some ⟨k, 0, none⟩))] w (VR w0 k x (getFs [Fd.u, Fd.v] c r)) := by
  have K := Lib.hid h
  have x0 := h.op
  rw [hop] at x0
  clear h hop
  obtain ⟨n1, n2, n3, n4⟩ := na_r k
  obtain ⟨m1, m2, m3, m4⟩ := me_r k
  cases hg0 : getF c r .u with
  | none =>
    have hR : getFs [Fd.u, Fd.v] c r = none := by simp only [getFs, hg0]
    rw [hR]
    clear hR
    have HG0 := Lib.hid hg0; clear hg0
    go_enter Try.func39, Try.ntmps39
    go_wp2_with fail
    go_still_tail 7, (by kernel_rfl)
    go_wp2_with fail
    refine (kx_u (KX.drew K.out) hd hb).mono ?_
    intro e w1 hh; rw [HG0.out] at hh; obtain ⟨rfl, hbel⟩ := hh
    go_wp2_with fail
    exact ⟨rfl, vr_no hbel⟩
  | some p =>
    obtain ⟨c1, r1⟩ := p
    obtain ⟨hd1, hb1⟩ := nil_u hg0 hd hb
    cases hg1 : getF c1 r1 .v with
    | none =>
      have hR : getFs [Fd.u, Fd.v] c r = none := by simp only [getFs, hg0, hg1]
      rw [hR]
      clear hR
      have HG0 := Lib.hid hg0; clear hg0
      have HG1 := Lib.hid hg1; clear hg1
      go_enter Try.func39, Try.ntmps39
      go_wp2_with fail
      go_still_tail 7, (by kernel_rfl)
      go_wp2_with fail
      refine (kx_u (KX.drew K.out) hd hb).mono ?_
      intro e w1 hh; rw [HG0.out] at hh; obtain ⟨rfl, hk1⟩ := hh
      have K_ := Lib.hid hk1; clear hk1 K; have K := K_; clear K_
      go_wp2_with fail
      go_still_tail 7, (by kernel_rfl)
      go_wp2_with fail
      refine (kx_v (KX.drew K.out) hd1 hb1).mono ?_
      intro e w1 hh; rw [HG1.out] at hh; obtain ⟨rfl, hbel⟩ := hh
      go_wp2_with fail
      exact ⟨rfl, vr_no hbel⟩
    | some p =>
      obtain ⟨c2, r2⟩ := p
      have hR : getFs [Fd.u, Fd.v] c r = some (c2, r2) := by simp only [getFs, hg0, hg1]
      rw [hR]
      clear hR
      have HG0 := Lib.hid hg0; clear hg0
      have HG1 := Lib.hid hg1; clear hg1
      go_enter Try.func39, Try.ntmps39
      go_wp2_with fail
      go_still_tail 7, (by kernel_rfl)
      go_wp2_with fail
      refine (kx_u (KX.drew K.out) hd hb).mono ?_
      intro e w1 hh; rw [HG0.out] at hh; obtain ⟨rfl, hk1⟩ := hh
      have K_ := Lib.hid hk1; clear hk1 K; have K := K_; clear K_
      go_wp2_with fail
      go_still_tail 7, (by kernel_rfl)
      go_wp2_with fail
      refine (kx_v (KX.drew K.out) hd1 hb1).mono ?_
      intro e w1 hh; rw [HG1.out] at hh; obtain ⟨rfl, hk1⟩ := hh
      have K_ := Lib.hid hk1; clear hk1 K; have K := K_; clear K_
      go_wp2_with fail
      go_ret
      exact ⟨rfl, K.out⟩
set_option maxRecDepth 100000 in
set_option maxHeartbeats 8000000 in
theorem pvr_4 (h : KX w0 k x c r w) (hd : c.d = []) (hb : c.b = []) (hop : c.op = 4) : Calls Try.prog 39 #[.pointer (some ⟨x, 0, none⟩), .iface 65 (.pointer (some ⟨k, 0, none⟩))] w (VR w0 k x (getFs [Fd.u] c r)) := by
  have K := Lib.hid h
  have x0 := h.op
  rw [hop] at x0
  clear h hop
  obtain ⟨n1, n2, n3, n4⟩ := na_r k
  obtain ⟨m1, m2, m3, m4⟩ := me_r k
  cases hg0 : getF c r .u with
  | none =>
    have hR : getFs [Fd.u] c r = none := by simp only [getFs, hg0]
    rw [hR]
    clear hR
    have HG0 := Lib.hid hg0; clear hg0
    go_enter Try.func39, Try.ntmps39
    go_wp2_with fail
    go_still_tail 7, (by kernel_rfl)
    go_wp2_with fail
    refine (kx_u (KX.drew K.out) hd hb).mono ?_
    intro e w1 hh; rw [HG0.out] at hh; obtain ⟨rfl, hbel⟩ := hh
    go_wp2_with fail
    exact ⟨rfl, vr_no hbel⟩
  | some p =>
    obtain ⟨c1, r1⟩ := p
    have hR : getFs [Fd.u] c r = some (c1, r1) := by simp only [getFs, hg0]
    rw [hR]
    clear hR
    have HG0 := Lib.hid hg0; clear hg0
    go_enter Try.func39, Try.ntmps39
    go_wp2_with fail
    go_still_tail 7, (by kernel_rfl)
    go_wp2_with fail
    refine (kx_u (KX.drew K.out) hd hb).mono ?_
    intro e w1 hh; rw [HG0.out] at hh; obtain ⟨rfl, hk1⟩ := hh
    have K_ := Lib.hid hk1; clear hk1 K; have K := K_; clear K_
    go_wp2_with fail
    go_ret
    exact ⟨rfl, K.out⟩
set_option maxRecDepth 100000 in
set_option maxHeartbeats 8000000 in
theorem pvr_5 (h : KX w0 k x c r w) (hd : c.d = []) (hb : c.b = []) (hop : c.op = 5) : Calls Try.prog 39 #[.pointer (some ⟨x, 0, none⟩), .iface 65 (.pointer (some ⟨k, 0, none⟩))] w (VR w0 k x (getFs [] c r)) := by
  have K := Lib.hid h
  have x0 := h.op
  rw [hop] at x0
  clear h hop
  obtain ⟨n1, n2, n3, n4⟩ := na_r k
  obtain ⟨m1, m2, m3, m4⟩ := me_r k
  have hR : getFs [] c r = some (c, r) := by simp only [getFs]
  rw [hR]
  clear hR
  go_enter Try.func39, Try.ntmps39
  go_wp2_with fail
  go_ret
  exact ⟨rfl, K.out⟩
set_option maxRecDepth 100000 in
set_option maxHeartbeats 8000000 in
theorem pvr_6 (h : KX w0 k x c r w) (hd : c.d = []) (hb : c.b = []) (hop : c.op = 6) : Calls Try.prog 39 #[.pointer (some ⟨x, 0, none⟩), .iface 65 (.pointer (some ⟨k, 0, none⟩))] w (VR w0 k x (getFs [Fd.u, Fd.w] c r)) := by
  have K := Lib.hid h
  have x0 := h.op
  rw [hop] at x0
  clear h hop
  obtain ⟨n1, n2, n3, n4⟩ := na_r k
  obtain ⟨m1, m2, m3, m4⟩ := me_r k
  cases hg0 : getF c r .u with
  | none =>
    have hR : getFs [Fd.u, Fd.w] c r = none := by simp only [getFs, hg0]
    rw [hR]
    clear hR
    have HG0 := Lib.hid hg0; clear hg0
    go_enter Try.func39, Try.ntmps39
    go_wp2_with fail
    go_still_tail 7, (by kernel_rfl)
    go_wp2_with fail
    refine (kx_u (KX.drew K.out) hd hb).mono ?_
    intro e w1 hh; rw [HG0.out] at hh; obtain ⟨rfl, hbel⟩ := hh
    go_wp2_with fail
    exact ⟨rfl, vr_no hbel⟩
  | some p =>
    obtain ⟨c1, r1⟩ := p
    obtain ⟨hd1, hb1⟩ := nil_u hg0 hd hb
    cases hg1 : getF c1 r1 .w with
    | none =>
      have hR : getFs [Fd.u, Fd.w] c r = none := by simp only [getFs, hg0, hg1]
      rw [hR]
      clear hR
      have HG0 := Lib.hid hg0; clear hg0
      have HG1 := Lib.hid hg1; clear hg1
      go_enter Try.func39, Try.ntmps39
      go_wp2_with fail
      go_still_tail 7, (by kernel_rfl)
      go_wp2_with fail
      refine (kx_u (KX.drew K.out) hd hb).mono ?_
      intro e w1 hh; rw [HG0.out] at hh; obtain ⟨rfl, hk1⟩ := hh
      have K_ := Lib.hid hk1; clear hk1 K; have K := K_; clear K_
      go_wp2_with fail
      go_still_tail 7, (by kernel_rfl)
      go_wp2_with fail
      refine (kx_w (KX.drew K.out) hd1 hb1).mono ?_
      intro e w1 hh; rw [HG1.out] at hh; obtain ⟨rfl, hbel⟩ := hh
      go_wp2_with fail
      exact ⟨rfl, vr_no hbel⟩
    | some p =>
      obtain ⟨c2, r2⟩ := p
      have hR : getFs [Fd.u, Fd.w] c r = some (c2, r2) := by simp only [getFs, hg0, hg1]
      rw [hR]
      clear hR
      have HG0 := Lib.hid hg0; clear hg0
      have HG1 := Lib.hid hg1; clear hg1
      go_enter Try.func39, Try.ntmps39
      go_wp2_with fail
      go_still_tail 7, (by kernel_rfl)
      go_wp2_with fail
      refine (kx_u (KX.drew K.out) hd hb).mono ?_
      intro e w1 hh; rw [HG0.out] at hh; obtain ⟨rfl, hk1⟩ := hh
      have K_ := Lib.hid hk1; clear hk1 K; have K := K_; clear K_
      go_wp2_with fail
      go_still_tail 7, (by kernel_rfl)
      go_wp2_with fail
      refine (kx_w (KX.drew K.out) hd1 hb1).mono ?_
      intro e w1 hh; rw [HG1.out] at hh; obtain ⟨rfl, hk1⟩ := hh
      have K_ := Lib.hid hk1; clear hk1 K; have K := K_; clear K_
      go_wp2_with fail
      go_ret
      exact ⟨rfl, K.out⟩
set_option maxRecDepth 100000 in
set_option maxHeartbeats 8000000 in
theorem pvr_7 (h : KX w0 k x c r w) (hd : c.d = []) (hb : c.b = []) (hop : c.op = 7) : Calls Try.prog 39 #[.pointer (some ⟨x, 0, none⟩), .iface 65 (.pointer (some ⟨k, 0, none⟩))] w (VR w0 k x (getFs [Fd.w] c r)) := by
  have K := Lib.hid h
  have x0 := h.op
  rw [hop] at x0
  clear h hop
  obtain ⟨n1, n2, n3, n4⟩ := na_r k
  obtain ⟨m1, m2, m3, m4⟩ := me_r k
  cases hg0 : getF c r .w with
  | none =>
    have hR : getFs [Fd.w] c r = none := by simp only [getFs, hg0]
    rw [hR]
    clear hR
    have HG0 := Lib.hid hg0; clear hg0
    go_enter Try.func39, Try.ntmps39
    go_wp2_with fail
    go_still_tail 7, (by kernel_rfl)
    go_wp2_with fail
    refine (kx_w (KX.drew K.out) hd hb).mono ?_
    intro e w1 hh; rw [HG0.out] at hh; obtain ⟨rfl, hbel⟩ := hh
    go_wp2_with fail
    exact ⟨rfl, vr_no hbel⟩
  | some p =>
    obtain ⟨c1, r1⟩ := p
    have hR : getFs [Fd.w] c r = some (c1, r1) := by simp only [getFs, hg0]
    rw [hR]
    clear hR
    have HG0 := Lib.hid hg0; clear hg0
    go_enter Try.func39, Try.ntmps39
    go_wp2_with fail
    go_still_tail 7, (by kernel_rfl)
    go_wp2_with fail
    refine (kx_w (KX.drew K.out) hd hb).mono ?_
    intro e w1 hh; rw [HG0.out] at hh; obtain ⟨rfl, hk1⟩ := hh
    have K_ := Lib.hid hk1; clear hk1 K; have K := K_; clear K_
    go_wp2_with fail
    go_ret
    exact ⟨rfl, K.out⟩
set_option maxRecDepth 100000 in
set_option maxHeartbeats 8000000 in
theorem pvr_8 (h : KX w0 k x c r w) (hd : c.d = []) (hb : c.b = []) (hop : c.op = 8) : Calls Try.prog 39 #[.pointer (some ⟨x, 0, none⟩), .iface 65 (.pointer (some ⟨k, 0, none⟩))] w (VR w0 k x (getFs [Fd.u, Fd.v] c r)) := by
  have K := Lib.hid h
  have x0 := h.op
  rw [hop] at x0
  clear h hop
  obtain ⟨n1, n2, n3, n4⟩ := na_r k
  obtain ⟨m1, m2, m3, m4⟩ := me_r k
  cases hg0 : getF c r .u with
  | none =>
    have hR : getFs [Fd.u, Fd.v] c r = none := by simp only [getFs, hg0]
    rw [hR]
    clear hR
    have HG0 := Lib.hid hg0; clear hg0
    go_enter Try.func39, Try.ntmps39
    go_wp2_with fail
    go_still_tail 7, (by kernel_rfl)
    go_wp2_with fail
    refine (kx_u (KX.drew K.out) hd hb).mono ?_
    intro e w1 hh; rw [HG0.out] at hh; obtain ⟨rfl, hbel⟩ := hh
    go_wp2_with fail
    exact ⟨rfl, vr_no hbel⟩
  | some p =>
    obtain ⟨c1, r1⟩ := p
    obtain ⟨hd1, hb1⟩ := nil_u hg0 hd hb
    cases hg1 : getF c1 r1 .v with
    | none =>
      have hR : getFs [Fd.u, Fd.v] c r = none := by simp only [getFs, hg0, hg1]
      rw [hR]
      clear hR
      have HG0 := Lib.hid hg0; clear hg0
      have HG1 := Lib.hid hg1; clear hg1
      go_enter Try.func39, Try.ntmps39
      go_wp2_with fail
      go_still_tail 7, (by kernel_rfl)
      go_wp2_with fail
      refine (kx_u (KX.drew K.out) hd hb).mono ?_
      intro e w1 hh; rw [HG0.out] at hh; obtain ⟨rfl, hk1⟩ := hh
      have K_ := Lib.hid hk1; clear hk1 K; have K := K_; clear K_
      go_wp2_with fail
      go_still_tail 7, (by kernel_rfl)
      go_wp2_with fail
      refine (kx_v (KX.drew K.out) hd1 hb1).mono ?_
      intro e w1 hh; rw [HG1.out] at hh; obtain ⟨rfl, hbel⟩ := hh
      go_wp2_with fail
      exact ⟨rfl, vr_no hbel⟩
    | some p =>
      obtain ⟨c2, r2⟩ := p
      have hR : getFs [Fd.u, Fd.v] c r = some (c2, r2) := by simp only [getFs, hg0, hg1]
      rw [hR]
      clear hR
      have HG0 := Lib.hid hg0; clear hg0
      have HG1 := Lib.hid hg1; clear hg1
      go_enter Try.func39, Try.ntmps39
      go_wp2_with fail
      go_still_tail 7, (by kernel_rfl)
      go_wp2_with fail
      refine (kx_u (KX.drew K.out) hd hb).mono ?_
      intro e w1 hh; rw [HG0.out] at hh; obtain ⟨rfl, hk1⟩ := hh
      have K_ := Lib.hid hk1; clear hk1 K; have K := K_; clear K_
      go_wp2_with fail
      go_still_tail 7, (by kernel_rfl)
      go_wp2_with fail
      refine (kx_v (KX.drew K.out) hd1 hb1).mono ?_
      intro e w1 hh; rw [HG1.out] at hh; obtain ⟨rfl, hk1⟩ := hh
      have K_ := Lib.hid hk1; clear hk1 K; have K := K_; clear K_
      go_wp2_with fail
      go_ret
      exact ⟨rfl, K.out⟩
set_option maxRecDepth 100000 in
set_option maxHeartbeats 8000000 in
theorem pvr_9 (h : KX w0 k x c r w) (hd : c.d = []) (hb : c.b = []) (hop : c.op = 9) : Calls Try.prog 39 #[.pointer (some ⟨x, 0, none⟩), .iface 65 (.pointer (some ⟨k, 0, none⟩))] w (VR w0 k x (getFs [] c r)) := by
  have K := Lib.hid h
  have x0 := h.op
  rw [hop] at x0
  clear h hop
  obtain ⟨n1, n2, n3, n4⟩ := na_r k
  obtain ⟨m1, m2, m3, m4⟩ := me_r k
  have hR : getFs [] c r = some (c, r) := by simp only [getFs]
  rw [hR]
  clear hR
  go_enter Try.func39, Try.ntmps39
  go_wp2_with fail
  go_ret
  exact ⟨rfl, K.out⟩
set_option maxRecDepth 100000 in
set_option maxHeartbeats 8000000 in
theorem pvr_10 (h : KX w0 k x c r w) (hd : c.d = []) (hb : c.b = []) (hop : c.op = 10) : Calls Try.prog 39 #[.pointer (some ⟨x, 0, none⟩), .iface 65 (.pointer (some ⟨k, 0, none⟩))] w (VR w0 k x (getFs [] c r)) := by
  have K := Lib.hid h
  have x0 := h.op
  rw [hop] at x0
  clear h hop
  obtain ⟨n1, n2, n3, n4⟩ := na_r k
  obtain ⟨m1, m2, m3, m4⟩ := me_r k
  have hR : getFs [] c r = some (c, r) := by simp only [getFs]
  rw [hR]
  clear hR
  go_enter Try.func39, Try.ntmps39
  go_wp2_with fail
  go_ret
  exact ⟨rfl, K.out⟩
set_option maxRecDepth 100000 in
set_option maxHeartbeats 8000000 in
theorem pvr_11 (h : KX w0 k x c r w) (hd : c.d = []) (hb : c.b = []) (hop : c.op = 11) : Calls Try.prog 39 #[.pointer (some ⟨x, 0, none⟩), .iface 65 (.pointer (some ⟨k, 0, none⟩))] w (VR w0 k x (getFs [Fd.d] c r)) := by
  have K := Lib.hid h
  have x0 := h.op
  rw [hop] at x0
  clear h hop
  obtain ⟨n1, n2, n3, n4⟩ := na_r k
  obtain ⟨m1, m2, m3, m4⟩ := me_r k
  cases hg0 : getF c r .d with
  | none =>
    have hR : getFs [Fd.d] c r = none := by simp only [getFs, hg0]
    rw [hR]
    clear hR
    have HG0 := Lib.hid hg0; clear hg0
    go_enter Try.func39, Try.ntmps39
    go_wp2_with fail
    go_still_tail 7, (by kernel_rfl)
    go_wp2_with fail
    refine (kx_d (KX.drew K.out) hd hb).mono ?_
    intro e w1 hh; rw [HG0.out] at hh; obtain ⟨rfl, hbel⟩ := hh
    go_wp2_with fail
    exact ⟨rfl, vr_no hbel⟩
  | some p =>
    obtain ⟨c1, r1⟩ := p
    have hR : getFs [Fd.d] c r = some (c1, r1) := by simp only [getFs, hg0]
    rw [hR]
    clear hR
    have HG0 := Lib.hid hg0; clear hg0
    go_enter Try.func39, Try.ntmps39
    go_wp2_with fail
    go_still_tail 7, (by kernel_rfl)
    go_wp2_with fail
    refine (kx_d (KX.drew K.out) hd hb).mono ?_
    intro e w1 hh; rw [HG0.out] at hh; obtain ⟨rfl, hk1⟩ := hh
    have K_ := Lib.hid hk1; clear hk1 K; have K := K_; clear K_
    go_wp2_with fail
    go_ret
    exact ⟨rfl, K.out⟩
set_option maxRecDepth 100000 in
set_option maxHeartbeats 8000000 in
theorem pvr_12 (h : KX w0 k x c r w) (hd : c.d = []) (hb : c.b = []) (hop : c.op = 12) : Calls Try.prog 39 #[.pointer (some ⟨x, 0, none⟩), .iface 65 (.pointer (some ⟨k, 0, none⟩))] w (VR w0 k x (getFs [Fd.w, Fd.b] c r)) := by
  have K := Lib.hid h
  have x0 := h.op
  rw [hop] at x0
  clear h hop
  obtain ⟨n1, n2, n3, n4⟩ := na_r k
  obtain ⟨m1, m2, m3, m4⟩ := me_r k
  cases hg0 : getF c r .w with
  | none =>
    have hR : getFs [Fd.w, Fd.b] c r = none := by simp only [getFs, hg0]
    rw [hR]
    clear hR
    have HG0 := Lib.hid hg0; clear hg0
    go_enter Try.func39, Try.ntmps39
    go_wp2_with fail
    go_still_tail 7, (by kernel_rfl)
    go_wp2_with fail
    refine (kx_w (KX.drew K.out) hd hb).mono ?_
    intro e w1 hh; rw [HG0.out] at hh; obtain ⟨rfl, hbel⟩ := hh
    go_wp2_with fail
    exact ⟨rfl, vr_no hbel⟩
  | some p =>
    obtain ⟨c1, r1⟩ := p
    obtain ⟨hd1, hb1⟩ := nil_w hg0 hd hb
    cases hg1 : getF c1 r1 .b with
    | none =>
      have hR : getFs [Fd.w, Fd.b] c r = none := by simp only [getFs, hg0, hg1]
      rw [hR]
      clear hR
      have HG0 := Lib.hid hg0; clear hg0
      have HG1 := Lib.hid hg1; clear hg1
      go_enter Try.func39, Try.ntmps39
      go_wp2_with fail
      go_still_tail 7, (by kernel_rfl)
      go_wp2_with fail
      refine (kx_w (KX.drew K.out) hd hb).mono ?_
      intro e w1 hh; rw [HG0.out] at hh; obtain ⟨rfl, hk1⟩ := hh
      have K_ := Lib.hid hk1; clear hk1 K; have K := K_; clear K_
      go_wp2_with fail
      go_still_tail 7, (by kernel_rfl)
      go_wp2_with fail
      refine (kx_b (KX.drew K.out) hd1 hb1).mono ?_
      intro e w1 hh; rw [HG1.out] at hh; obtain ⟨rfl, hbel⟩ := hh
      go_wp2_with fail
      exact ⟨rfl, vr_no hbel⟩
    | some p =>
      obtain ⟨c2, r2⟩ := p
      have hR : getFs [Fd.w, Fd.b] c r = some (c2, r2) := by simp only [getFs, hg0, hg1]
      rw [hR]
      clear hR
      have HG0 := Lib.hid hg0; clear hg0
      have HG1 := Lib.hid hg1; clear hg1
      go_enter Try.func39, Try.ntmps39
      go_wp2_with fail
      go_still_tail 7, (by kernel_rfl)
      go_wp2_with fail
      refine (kx_w (KX.drew K.out) hd hb).mono ?_
      intro e w1 hh; rw [HG0.out] at hh; obtain ⟨rfl, hk1⟩ := hh
      have K_ := Lib.hid hk1; clear hk1 K; have K := K_; clear K_
      go_wp2_with fail
      go_still_tail 7, (by kernel_rfl)
      go_wp2_with fail
      refine (kx_b (KX.drew K.out) hd1 hb1).mono ?_
      intro e w1 hh; rw [HG1.out] at hh; obtain ⟨rfl, hk1⟩ := hh
      have K_ := Lib.hid hk1; clear hk1 K; have K := K_; clear K_
      go_wp2_with fail
      go_ret
      exact ⟨rfl, K.out⟩
set_option maxRecDepth 100000 in
set_option maxHeartbeats 8000000 in
theorem pvr_13 (h : KX w0 k x c r w) (hd : c.d = []) (hb : c.b = []) (hop : c.op = 13) : Calls Try.prog 39 #[.pointer (some ⟨x, 0, none⟩), .iface 65 (.pointer (some ⟨k, 0, none⟩))] w (VR w0 k x (getFs [] c r)) := by
  have K := Lib.hid h
  have x0 := h.op
  rw [hop] at x0
  clear h hop
  obtain ⟨n1, n2, n3, n4⟩ := na_r k
  obtain ⟨m1, m2, m3, m4⟩ := me_r k
  have hR : getFs [] c r = some (c, r) := by simp only [getFs]
  rw [hR]
  clear hR
  go_enter Try.func39, Try.ntmps39
  go_wp2_with fail
  go_ret
  exact ⟨rfl, K.out⟩
set_option maxRecDepth 100000 in
set_option maxHeartbeats 8000000 in
theorem pvr_14 (h : KX w0 k x c r w) (hd : c.d = []) (hb : c.b = []) (hop : c.op = 14) : Calls Try.prog 39 #[.pointer (some ⟨x, 0, none⟩), .iface 65 (.pointer (some ⟨k, 0, none⟩))] w (VR w0 k x (getFs [] c r)) := by
  have K := Lib.hid h
  have x0 := h.op
  rw [hop] at x0
  clear h hop
  obtain ⟨n1, n2, n3, n4⟩ := na_r k
  obtain ⟨m1, m2, m3, m4⟩ := me_r k
  have hR : getFs [] c r = some (c, r) := by simp only [getFs]
  rw [hR]
  clear hR
  go_enter Try.func39, Try.ntmps39
  go_wp2_with fail
  go_ret
  exact ⟨rfl, K.out⟩
set_option maxRecDepth 100000 in
set_option maxHeartbeats 8000000 in
theorem pvr_15 (h : KX w0 k x c r w) (hd : c.d = []) (hb : c.b = []) (hop : c.op = 15) : Calls Try.prog 39 #[.pointer (some ⟨x, 0, none⟩), .iface 65 (.pointer (some ⟨k, 0, none⟩))] w (VR w0 k x (getFs [] c r)) := by
  have K := Lib.hid h
  have x0 := h.op
  rw [hop] at x0
  clear h hop
  obtain ⟨n1, n2, n3, n4⟩ := na_r k
  obtain ⟨m1, m2, m3, m4⟩ := me_r k
  have hR : getFs [] c r = some (c, r) := by simp only [getFs]
  rw [hR]
  clear hR
  go_enter Try.func39, Try.ntmps39
  go_wp2_with fail
  go_ret
  exact ⟨rfl, K.out⟩
set_option maxRecDepth 100000 in
set_option maxHeartbeats 8000000 in
theorem pvr_no (h : KX w0 k x c r w) (hu : uses c.op = none) : Calls Try.prog 39 #[.pointer (some ⟨x, 0, none⟩), .iface 65 (.pointer (some ⟨k, 0, none⟩))] w (fun e w' => e = .returned (.bool false) ∧ KX w0 k x c r w') := by
  have b1 : (c.op == 1) = false := by simp; intro e; rw [e] at hu; exact absurd hu (by decide)
  have b2 : (c.op == 2) = false := by simp; intro e; rw [e] at hu; exact absurd hu (by decide)
  have b3 : (c.op == 3) = false := by simp; intro e; rw [e] at hu; exact absurd hu (by decide)
  have b4 : (c.op == 4) = false := by simp; intro e; rw [e] at hu; exact absurd hu (by decide)
  have b5 : (c.op == 5) = false := by simp; intro e; rw [e] at hu; exact absurd hu (by decide)
  have b6 : (c.op == 6) = false := by simp; intro e; rw [e] at hu; exact absurd hu (by decide)
  have b7 : (c.op == 7) = false := by simp; intro e; rw [e] at hu; exact absurd hu (by decide)
  have b8 : (c.op == 8) = false := by simp; intro e; rw [e] at hu; exact absurd hu (by decide)
  have b9 : (c.op == 9) = false := by simp; intro e; rw [e] at hu; exact absurd hu (by decide)
  have b10 : (c.op == 10) = false := by simp; intro e; rw [e] at hu; exact absurd hu (by decide)
  have b11 : (c.op == 11) = false := by simp; intro e; rw [e] at hu; exact absurd hu (by decide)
  have b12 : (c.op == 12) = false := by simp; intro e; rw [e] at hu; exact absurd hu (by decide)
  have b13 : (c.op == 13) = false := by simp; intro e; rw [e] at hu; exact absurd hu (by decide)
  have b14 : (c.op == 14) = false := by simp; intro e; rw [e] at hu; exact absurd hu (by decide)
  have b15 : (c.op == 15) = false := by simp; intro e; rw [e] at hu; exact absurd hu (by decide)
  have K := Lib.hid h
  have x0 := h.op
  clear h hu
  generalize c.op = z at *
  go_enter Try.func39, Try.ntmps39
  go_wp2_with fail
  go_ret
  exact ⟨rfl, K.out⟩
theorem pvr (h : KX w0 k x c r w) (hd : c.d = []) (hb : c.b = []) {fs : List Fd} (hu : uses c.op = some fs) : Calls Try.prog 39 #[.pointer (some ⟨x, 0, none⟩), .iface 65 (.pointer (some ⟨k, 0, none⟩))] w (VR w0 k x (getFs fs c r)) := by
  have hr := (uses_some hu).1
  have hc : c.op = 1 ∨ c.op = 2 ∨ c.op = 3 ∨ c.op = 4 ∨ c.op = 5 ∨ c.op = 6 ∨ c.op = 7 ∨ c.op = 8 ∨ c.op = 9 ∨ c.op = 10 ∨ c.op = 11 ∨ c.op = 12 ∨ c.op = 13 ∨ c.op = 14 ∨ c.op = 15 := by omega
  rcases hc with hop | hop | hop | hop | hop | hop | hop | hop | hop | hop | hop | hop | hop | hop | hop
  · rw [hop] at hu; obtain rfl : fs = [Fd.u, Fd.v, Fd.w, Fd.t] := (Option.some.inj ((show uses 1 = some [Fd.u, Fd.v, Fd.w, Fd.t] by decide).symm.trans hu)).symm
    exact pvr_1 h hd hb hop
  · rw [hop] at hu; obtain rfl : fs = [Fd.t] := (Option.some.inj ((show uses 2 = some [Fd.t] by decide).symm.trans hu)).symm
    exact pvr_2 h hd hb hop
  · rw [hop] at hu; obtain rfl : fs = [Fd.u, Fd.v] := (Option.some.inj ((show uses 3 = some [Fd.u, Fd.v] by decide).symm.trans hu)).symm
    exact pvr_3 h hd hb hop
  · rw [hop] at hu; obtain rfl : fs = [Fd.u] := (Option.some.inj ((show uses 4 = some [Fd.u] by decide).symm.trans hu)).symm
    exact pvr_4 h hd hb hop
  · rw [hop] at hu; obtain rfl : fs = [] := (Option.some.inj ((show uses 5 = some [] by decide).symm.trans hu)).symm
    exact pvr_5 h hd hb hop
  · rw [hop] at hu; obtain rfl : fs = [Fd.u, Fd.w] := (Option.some.inj ((show uses 6 = some [Fd.u, Fd.w] by decide).symm.trans hu)).symm
    exact pvr_6 h hd hb hop
  · rw [hop] at hu; obtain rfl : fs = [Fd.w] := (Option.some.inj ((show uses 7 = some [Fd.w] by decide).symm.trans hu)).symm
    exact pvr_7 h hd hb hop
  · rw [hop] at hu; obtain rfl : fs = [Fd.u, Fd.v] := (Option.some.inj ((show uses 8 = some [Fd.u, Fd.v] by decide).symm.trans hu)).symm
    exact pvr_8 h hd hb hop
  · rw [hop] at hu; obtain rfl : fs = [] := (Option.some.inj ((show uses 9 = some [] by decide).symm.trans hu)).symm
    exact pvr_9 h hd hb hop
  · rw [hop] at hu; obtain rfl : fs = [] := (Option.some.inj ((show uses 10 = some [] by decide).symm.trans hu)).symm
    exact pvr_10 h hd hb hop
  · rw [hop] at hu; obtain rfl : fs = [Fd.d] := (Option.some.inj ((show uses 11 = some [Fd.d] by decide).symm.trans hu)).symm
    exact pvr_11 h hd hb hop
  · rw [hop] at hu; obtain rfl : fs = [Fd.w, Fd.b] := (Option.some.inj ((show uses 12 = some [Fd.w, Fd.b] by decide).symm.trans hu)).symm
    exact pvr_12 h hd hb hop
  · rw [hop] at hu; obtain rfl : fs = [] := (Option.some.inj ((show uses 13 = some [] by decide).symm.trans hu)).symm
    exact pvr_13 h hd hb hop
  · rw [hop] at hu; obtain rfl : fs = [] := (Option.some.inj ((show uses 14 = some [] by decide).symm.trans hu)).symm
    exact pvr_14 h hd hb hop
  · rw [hop] at hu; obtain rfl : fs = [] := (Option.some.inj ((show uses 15 = some [] by decide).symm.trans hu)).symm
    exact pvr_15 h hd hb hop
end
end Go.Proofs.Ythnoihdojinocaa

/- visit, with the clearer. -/
import Derived.Test.YthnoihdojinocaaJ
namespace Go.Proofs.Ythnoihdojinocaa
open Go.ChangeShapes Go.WideShapes Go.ChangeAt Go.RowKit
set_option linter.unusedVariables false
set_option linter.unusedSimpArgs false

def lgF (c : Cm) (lg : Bool) : Fd → Bool
  | .d => lg || decide ((16384 : Int) < (c.d.length : Int))
  | .b => lg || decide ((1024 : Int) < (c.b.length : Int))
  | _ => lg
/-- The flag behind the fields. -/
def lgs : List Fd → Cm → Bool → Bool
  | [], _, lg => lg
  | f :: fs, c, lg => lgs fs (clr c f) (lgF c lg f)
def VC (w0 : World) (k x : Nat) (c : Cm) (lg : Bool) (ok : Bool) (e : Ending) (w' : World) : Prop := e = .returned (.bool ok) ∧ KC w0 k x c lg w'
section
variable {w0 w : World} {k x : Nat} {c : Cm} {lg : Bool}
set_option maxRecDepth 100000 in
set_option maxHeartbeats 8000000 in
theorem pvc_1 (h : KC w0 k x c lg w) (hop : c.op = 1) : Calls Try.prog 39 #[.pointer (some ⟨x, 0, none⟩), .iface 61 (.pointer (some ⟨k, 0, none⟩))] w (VC w0 k x ([Fd.u, Fd.v, Fd.w, Fd.t].foldl clr c) (lgs [Fd.u, Fd.v, Fd.w, Fd.t] c lg) true) := by
  have K := Lib.hid h
  have x0 := h.op
  rw [hop] at x0
  clear h
  obtain ⟨n1, n2, n3, n4⟩ := na_c k
  obtain ⟨m1, m2, m3, m4⟩ := me_c k
  go_enter Try.func39, Try.ntmps39
  go_wp2_with fail
  go_region_with (go_at_call 67; refine (kc_u (KC.drew K.out)).mono ?_; rintro e w1 ⟨rfl, hk1⟩)
  have K_ := Lib.hid hk1; clear hk1 K; have K := K_; clear K_
  go_wp2_with fail
  go_region_with (go_at_call 67; refine (kc_v (KC.drew K.out)).mono ?_; rintro e w1 ⟨rfl, hk1⟩)
  have K_ := Lib.hid hk1; clear hk1 K; have K := K_; clear K_
  go_wp2_with fail
  go_region_with (go_at_call 66; refine (kc_w (KC.drew K.out)).mono ?_; rintro e w1 ⟨rfl, hk1⟩)
  have K_ := Lib.hid hk1; clear hk1 K; have K := K_; clear K_
  go_wp2_with fail
  go_region_with (go_at_call 66; refine (kc_t (KC.drew K.out)).mono ?_; rintro e w1 ⟨rfl, hk1⟩)
  have K_ := Lib.hid hk1; clear hk1 K; have K := K_; clear K_
  go_wp2_with fail
  go_ret
  exact ⟨rfl, K.out⟩
set_option maxRecDepth 100000 in
set_option maxHeartbeats 8000000 in
theorem pvc_2 (h : KC w0 k x c lg w) (hop : c.op = 2) : Calls Try.prog 39 #[.pointer (some ⟨x, 0, none⟩), .iface 61 (.pointer (some ⟨k, 0, none⟩))] w (VC w0 k x ([Fd.t].foldl clr c) (lgs [Fd.t] c lg) true) := by
  have K := Lib.hid h
  have x0 := h.op
  rw [hop] at x0
  clear h
  obtain ⟨n1, n2, n3, n4⟩ := na_c k
  obtain ⟨m1, m2, m3, m4⟩ := me_c k
  go_enter Try.func39, Try.ntmps39
  go_wp2_with fail
  go_region_with (go_at_call 66; refine (kc_t (KC.drew K.out)).mono ?_; rintro e w1 ⟨rfl, hk1⟩)
  have K_ := Lib.hid hk1; clear hk1 K; have K := K_; clear K_
  go_wp2_with fail
  go_ret
  exact ⟨rfl, K.out⟩
set_option maxRecDepth 100000 in
set_option maxHeartbeats 8000000 in
theorem pvc_3 (h : KC w0 k x c lg w) (hop : c.op = 3) : Calls Try.prog 39 #[.pointer (some ⟨x, 0, none⟩), .iface 61 (.pointer (some ⟨k, 0, none⟩))] w (VC w0 k x ([Fd.u, Fd.v].foldl clr c) (lgs [Fd.u, Fd.v] c lg) true) := by
  have K := Lib.hid h
  have x0 := h.op
  rw [hop] at x0
  clear h
  obtain ⟨n1, n2, n3, n4⟩ := na_c k
  obtain ⟨m1, m2, m3, m4⟩ := me_c k
  go_enter Try.func39, Try.ntmps39
  go_wp2_with fail
  go_region_with (go_at_call 67; refine (kc_u (KC.drew K.out)).mono ?_; rintro e w1 ⟨rfl, hk1⟩)
  have K_ := Lib.hid hk1; clear hk1 K; have K := K_; clear K_
  go_wp2_with fail
  go_region_with (go_at_call 67; refine (kc_v (KC.drew K.out)).mono ?_; rintro e w1 ⟨rfl, hk1⟩)
  have K_ := Lib.hid hk1; clear hk1 K; have K := K_; clear K_
  go_wp2_with fail
  go_ret
  exact ⟨rfl, K.out⟩
set_option maxRecDepth 100000 in
set_option maxHeartbeats 8000000 in
theorem pvc_4 (h : KC w0 k x c lg w) (hop : c.op = 4) : Calls Try.prog 39 #[.pointer (some ⟨x, 0, none⟩), .iface 61 (.pointer (some ⟨k, 0, none⟩))] w (VC w0 k x ([Fd.u].foldl clr c) (lgs [Fd.u] c lg) true) := by
  have K := Lib.hid h
  have x0 := h.op
  rw [hop] at x0
  clear h
  obtain ⟨n1, n2, n3, n4⟩ := na_c k
  obtain ⟨m1, m2, m3, m4⟩ := me_c k
  go_enter Try.func39, Try.ntmps39
  go_wp2_with fail
  go_region_with (go_at_call 67; refine (kc_u (KC.drew K.out)).mono ?_; rintro e w1 ⟨rfl, hk1⟩)
  have K_ := Lib.hid hk1; clear hk1 K; have K := K_; clear K_
  go_wp2_with fail
  go_ret
  exact ⟨rfl, K.out⟩
set_option maxRecDepth 100000 in
set_option maxHeartbeats 8000000 in
theorem pvc_5 (h : KC w0 k x c lg w) (hop : c.op = 5) : Calls Try.prog 39 #[.pointer (some ⟨x, 0, none⟩), .iface 61 (.pointer (some ⟨k, 0, none⟩))] w (VC w0 k x ([].foldl clr c) (lgs [] c lg) true) := by
  have K := Lib.hid h
  have x0 := h.op
  rw [hop] at x0
  clear h
  obtain ⟨n1, n2, n3, n4⟩ := na_c k
  obtain ⟨m1, m2, m3, m4⟩ := me_c k
  go_enter Try.func39, Try.ntmps39
  go_wp2_with fail
  go_ret
  exact ⟨rfl, K.out⟩
set_option maxRecDepth 100000 in
set_option maxHeartbeats 8000000 in
theorem pvc_6 (h : KC w0 k x c lg w) (hop : c.op = 6) : Calls Try.prog 39 #[.pointer (some ⟨x, 0, none⟩), .iface 61 (.pointer (some ⟨k, 0, none⟩))] w (VC w0 k x ([Fd.u, Fd.w].foldl clr c) (lgs [Fd.u, Fd.w] c lg) true) := by
  have K := Lib.hid h
  have x0 := h.op
  rw [hop] at x0
  clear h
  obtain ⟨n1, n2, n3, n4⟩ := na_c k
  obtain ⟨m1, m2, m3, m4⟩ := me_c k
  go_enter Try.func39, Try.ntmps39
  go_wp2_with fail
  go_region_with (go_at_call 67; refine (kc_u (KC.drew K.out)).mono ?_; rintro e w1 ⟨rfl, hk1⟩)
  have K_ := Lib.hid hk1; clear hk1 K; have K := K_; clear K_
  go_wp2_with fail
  go_region_with (go_at_call 66; refine (kc_w (KC.drew K.out)).mono ?_; rintro e w1 ⟨rfl, hk1⟩)
  have K_ := Lib.hid hk1; clear hk1 K; have K := K_; clear K_
  go_wp2_with fail
  go_ret
  exact ⟨rfl, K.out⟩
set_option maxRecDepth 100000 in
set_option maxHeartbeats 8000000 in
theorem pvc_7 (h : KC w0 k x c lg w) (hop : c.op = 7) : Calls Try.prog 39 #[.pointer (some ⟨x, 0, none⟩), .iface 61 (.pointer (some ⟨k, 0, none⟩))] w (VC w0 k x ([Fd.w].foldl clr c) (lgs [Fd.w] c lg) true) := by
  have K := Lib.hid h
  have x0 := h.op
  rw [hop] at x0
  clear h
  obtain ⟨n1, n2, n3, n4⟩ := na_c k
  obtain ⟨m1, m2, m3, m4⟩ := me_c k
  go_enter Try.func39, Try.ntmps39
  go_wp2_with fail
  go_region_with (go_at_call 66; refine (kc_w (KC.drew K.out)).mono ?_; rintro e w1 ⟨rfl, hk1⟩)
  have K_ := Lib.hid hk1; clear hk1 K; have K := K_; clear K_
  go_wp2_with fail
  go_ret
  exact ⟨rfl, K.out⟩
set_option maxRecDepth 100000 in
set_option maxHeartbeats 8000000 in
theorem pvc_8 (h : KC w0 k x c lg w) (hop : c.op = 8) : Calls Try.prog 39 #[.pointer (some ⟨x, 0, none⟩), .iface 61 (.pointer (some ⟨k, 0, none⟩))] w (VC w0 k x ([Fd.u, Fd.v].foldl clr c) (lgs [Fd.u, Fd.v] c lg) true) := by
  have K := Lib.hid h
  have x0 := h.op
  rw [hop] at x0
  clear h
  obtain ⟨n1, n2, n3, n4⟩ := na_c k
  obtain ⟨m1, m2, m3, m4⟩ := me_c k
  go_enter Try.func39, Try.ntmps39
  go_wp2_with fail
  go_region_with (go_at_call 67; refine (kc_u (KC.drew K.out)).mono ?_; rintro e w1 ⟨rfl, hk1⟩)
  have K_ := Lib.hid hk1; clear hk1 K; have K := K_; clear K_
  go_wp2_with fail
  go_region_with (go_at_call 67; refine (kc_v (KC.drew K.out)).mono ?_; rintro e w1 ⟨rfl, hk1⟩)
  have K_ := Lib.hid hk1; clear hk1 K; have K := K_; clear K_
  go_wp2_with fail
  go_ret
  exact ⟨rfl, K.out⟩
set_option maxRecDepth 100000 in
set_option maxHeartbeats 8000000 in
theorem pvc_9 (h : KC w0 k x c lg w) (hop : c.op = 9) : Calls Try.prog 39 #[.pointer (some ⟨x, 0, none⟩), .iface 61 (.pointer (some ⟨k, 0, none⟩))] w (VC w0 k x ([].foldl clr c) (lgs [] c lg) true) := by
  have K := Lib.hid h
  have x0 := h.op
  rw [hop] at x0
  clear h
  obtain ⟨n1, n2, n3, n4⟩ := na_c k
  obtain ⟨m1, m2, m3, m4⟩ := me_c k
  go_enter Try.func39, Try.ntmps39
  go_wp2_with fail
  go_ret
  exact ⟨rfl, K.out⟩
set_option maxRecDepth 100000 in
set_option maxHeartbeats 8000000 in
theorem pvc_10 (h : KC w0 k x c lg w) (hop : c.op = 10) : Calls Try.prog 39 #[.pointer (some ⟨x, 0, none⟩), .iface 61 (.pointer (some ⟨k, 0, none⟩))] w (VC w0 k x ([].foldl clr c) (lgs [] c lg) true) := by
  have K := Lib.hid h
  have x0 := h.op
  rw [hop] at x0
  clear h
  obtain ⟨n1, n2, n3, n4⟩ := na_c k
  obtain ⟨m1, m2, m3, m4⟩ := me_c k
  go_enter Try.func39, Try.ntmps39
  go_wp2_with fail
  go_ret
  exact ⟨rfl, K.out⟩
set_option maxRecDepth 100000 in
set_option maxHeartbeats 8000000 in
theorem pvc_11 (h : KC w0 k x c lg w) (hop : c.op = 11) : Calls Try.prog 39 #[.pointer (some ⟨x, 0, none⟩), .iface 61 (.pointer (some ⟨k, 0, none⟩))] w (VC w0 k x ([Fd.d].foldl clr c) (lgs [Fd.d] c lg) true) := by
  have K := Lib.hid h
  have x0 := h.op
  rw [hop] at x0
  clear h
  obtain ⟨n1, n2, n3, n4⟩ := na_c k
  obtain ⟨m1, m2, m3, m4⟩ := me_c k
  go_enter Try.func39, Try.ntmps39
  go_wp2_with fail
  go_region_with (go_at_call 65; refine (kc_d (KC.drew K.out)).mono ?_; rintro e w1 ⟨rfl, hk1⟩)
  have K_ := Lib.hid hk1; clear hk1 K; have K := K_; clear K_
  go_wp2_with fail
  go_ret
  exact ⟨rfl, K.out⟩
set_option maxRecDepth 100000 in
set_option maxHeartbeats 8000000 in
theorem pvc_12 (h : KC w0 k x c lg w) (hop : c.op = 12) : Calls Try.prog 39 #[.pointer (some ⟨x, 0, none⟩), .iface 61 (.pointer (some ⟨k, 0, none⟩))] w (VC w0 k x ([Fd.w, Fd.b].foldl clr c) (lgs [Fd.w, Fd.b] c lg) true) := by
  have K := Lib.hid h
  have x0 := h.op
  rw [hop] at x0
  clear h
  obtain ⟨n1, n2, n3, n4⟩ := na_c k
  obtain ⟨m1, m2, m3, m4⟩ := me_c k
  go_enter Try.func39, Try.ntmps39
  go_wp2_with fail
  go_region_with (go_at_call 66; refine (kc_w (KC.drew K.out)).mono ?_; rintro e w1 ⟨rfl, hk1⟩)
  have K_ := Lib.hid hk1; clear hk1 K; have K := K_; clear K_
  go_wp2_with fail
  go_region_with (go_at_call 64; refine (kc_b (KC.drew K.out)).mono ?_; rintro e w1 ⟨rfl, hk1⟩)
  have K_ := Lib.hid hk1; clear hk1 K; have K := K_; clear K_
  go_wp2_with fail
  go_ret
  exact ⟨rfl, K.out⟩
set_option maxRecDepth 100000 in
set_option maxHeartbeats 8000000 in
theorem pvc_13 (h : KC w0 k x c lg w) (hop : c.op = 13) : Calls Try.prog 39 #[.pointer (some ⟨x, 0, none⟩), .iface 61 (.pointer (some ⟨k, 0, none⟩))] w (VC w0 k x ([].foldl clr c) (lgs [] c lg) true) := by
  have K := Lib.hid h
  have x0 := h.op
  rw [hop] at x0
  clear h
  obtain ⟨n1, n2, n3, n4⟩ := na_c k
  obtain ⟨m1, m2, m3, m4⟩ := me_c k
  go_enter Try.func39, Try.ntmps39
  go_wp2_with fail
  go_ret
  exact ⟨rfl, K.out⟩
set_option maxRecDepth 100000 in
set_option maxHeartbeats 8000000 in
theorem pvc_14 (h : KC w0 k x c lg w) (hop : c.op = 14) : Calls Try.prog 39 #[.pointer (some ⟨x, 0, none⟩), .iface 61 (.pointer (some ⟨k, 0, none⟩))] w (VC w0 k x ([].foldl clr c) (lgs [] c lg) true) := by
  have K := Lib.hid h
  have x0 := h.op
  rw [hop] at x0
  clear h
  obtain ⟨n1, n2, n3, n4⟩ := na_c k
  obtain ⟨m1, m2, m3, m4⟩ := me_c k
  go_enter Try.func39, Try.ntmps39
  go_wp2_with fail
  go_ret
  exact ⟨rfl, K.out⟩
set_option maxRecDepth 100000 in
set_option maxHeartbeats 8000000 in
theorem pvc_15 (h : KC w0 k x c lg w) (hop : c.op = 15) : Calls Try.prog 39 #[.pointer (some ⟨x, 0, none⟩), .iface 61 (.pointer (some ⟨k, 0, none⟩))] w (VC w0 k x ([].foldl clr c) (lgs [] c lg) true) := by
  have K := Lib.hid h
  have x0 := h.op
  rw [hop] at x0
  clear h
  obtain ⟨n1, n2, n3, n4⟩ := na_c k
  obtain ⟨m1, m2, m3, m4⟩ := me_c k
  go_enter Try.func39, Try.ntmps39
  go_wp2_with fail
  go_ret
  exact ⟨rfl, K.out⟩
set_option maxRecDepth 100000 in
set_option maxHeartbeats 8000000 in
theorem pvc_no (h : KC w0 k x c lg w) (hu : uses c.op = none) : Calls Try.prog 39 #[.pointer (some ⟨x, 0, none⟩), .iface 61 (.pointer (some ⟨k, 0, none⟩))] w (VC w0 k x c lg false) := by
  have b1 : (c.op == 1) = false := by simp; intro e; rw [e] at hu; exact absurd hu (by decide)
  have b2 : (c.op == 2) = false := by simp; intro e; rw [e] at hu; exact absurd hu (by decide)
  have b3 : (c.op == 3) = false := by simp; intro e; rw [e] at hu; exact absurd hu (by decide)
  have b4 : (c.op == 4) = false := by simp; intro e; rw [e] at hu; exact absurd hu (by decide)
  have b5 : (c.op == 5) = false := by simp; intro e; rw [e] at hu; exact absurd hu (by decide)
  have b6 : (c.op == 6) = false := by simp; intro e; rw [e] at hu; exact absurd hu (by decide)
  have b7 : (c.op == 7) = false := by simp; intro e; rw [e] at hu; exact absurd hu (by decide)
  have b8 : (c.op == 8) = false := by simp; intro e; rw [e] at hu; exact absurd hu (by decide)
  have b9 : (c.op == 9) = false := by simp; intro e; rw [e] at hu; exact absurd hu (by decide)
  have b10 : (c.op == 10) = false := by simp; intro e; rw [e] at hu; exact absurd hu (by decide)
  have b11 : (c.op == 11) = false := by simp; intro e; rw [e] at hu; exact absurd hu (by decide)
  have b12 : (c.op == 12) = false := by simp; intro e; rw [e] at hu; exact absurd hu (by decide)
  have b13 : (c.op == 13) = false := by simp; intro e; rw [e] at hu; exact absurd hu (by decide)
  have b14 : (c.op == 14) = false := by simp; intro e; rw [e] at hu; exact absurd hu (by decide)
  have b15 : (c.op == 15) = false := by simp; intro e; rw [e] at hu; exact absurd hu (by decide)
  have K := Lib.hid h
  have x0 := h.op
  clear h hu
  generalize c.op = z at *
  go_enter Try.func39, Try.ntmps39
  go_wp2_with fail
  go_ret
  exact ⟨rfl, K.out⟩
theorem pvc (h : KC w0 k x c lg w) {fs : List Fd} (hu : uses c.op = some fs) : Calls Try.prog 39 #[.pointer (some ⟨x, 0, none⟩), .iface 61 (.pointer (some ⟨k, 0, none⟩))] w (VC w0 k x (fs.foldl clr c) (lgs fs c lg) true) := by
  have hr := (uses_some hu).1
  have hc : c.op = 1 ∨ c.op = 2 ∨ c.op = 3 ∨ c.op = 4 ∨ c.op = 5 ∨ c.op = 6 ∨ c.op = 7 ∨ c.op = 8 ∨ c.op = 9 ∨ c.op = 10 ∨ c.op = 11 ∨ c.op = 12 ∨ c.op = 13 ∨ c.op = 14 ∨ c.op = 15 := by omega
  rcases hc with hop | hop | hop | hop | hop | hop | hop | hop | hop | hop | hop | hop | hop | hop | hop
  · rw [hop] at hu; obtain rfl : fs = [Fd.u, Fd.v, Fd.w, Fd.t] := (Option.some.inj ((show uses 1 = some [Fd.u, Fd.v, Fd.w, Fd.t] by decide).symm.trans hu)).symm
    exact pvc_1 h hop
  · rw [hop] at hu; obtain rfl : fs = [Fd.t] := (Option.some.inj ((show uses 2 = some [Fd.t] by decide).symm.trans hu)).symm
    exact pvc_2 h hop
  · rw [hop] at hu; obtain rfl : fs = [Fd.u, Fd.v] := (Option.some.inj ((show uses 3 = some [Fd.u, Fd.v] by decide).symm.trans hu)).symm
    exact pvc_3 h hop
  · rw [hop] at hu; obtain rfl : fs = [Fd.u] := (Option.some.inj ((show uses 4 = some [Fd.u] by decide).symm.trans hu)).symm
    exact pvc_4 h hop
  · rw [hop] at hu; obtain rfl : fs = [] := (Option.some.inj ((show uses 5 = some [] by decide).symm.trans hu)).symm
    exact pvc_5 h hop
  · rw [hop] at hu; obtain rfl : fs = [Fd.u, Fd.w] := (Option.some.inj ((show uses 6 = some [Fd.u, Fd.w] by decide).symm.trans hu)).symm
    exact pvc_6 h hop
  · rw [hop] at hu; obtain rfl : fs = [Fd.w] := (Option.some.inj ((show uses 7 = some [Fd.w] by decide).symm.trans hu)).symm
    exact pvc_7 h hop
  · rw [hop] at hu; obtain rfl : fs = [Fd.u, Fd.v] := (Option.some.inj ((show uses 8 = some [Fd.u, Fd.v] by decide).symm.trans hu)).symm
    exact pvc_8 h hop
  · rw [hop] at hu; obtain rfl : fs = [] := (Option.some.inj ((show uses 9 = some [] by decide).symm.trans hu)).symm
    exact pvc_9 h hop
  · rw [hop] at hu; obtain rfl : fs = [] := (Option.some.inj ((show uses 10 = some [] by decide).symm.trans hu)).symm
    exact pvc_10 h hop
  · rw [hop] at hu; obtain rfl : fs = [Fd.d] := (Option.some.inj ((show uses 11 = some [Fd.d] by decide).symm.trans hu)).symm
    exact pvc_11 h hop
  · rw [hop] at hu; obtain rfl : fs = [Fd.w, Fd.b] := (Option.some.inj ((show uses 12 = some [Fd.w, Fd.b] by decide).symm.trans hu)).symm
    exact pvc_12 h hop
  · rw [hop] at hu; obtain rfl : fs = [] := (Option.some.inj ((show uses 13 = some [] by decide).symm.trans hu)).symm
    exact pvc_13 h hop
  · rw [hop] at hu; obtain rfl : fs = [] := (Option.some.inj ((show uses 14 = some [] by decide).symm.trans hu)).symm
    exact pvc_14 h hop
  · rw [hop] at hu; obtain rfl : fs = [] := (Option.some.inj ((show uses 15 = some [] by decide).symm.trans hu)).symm
    exact pvc_15 h hop
end
end Go.Proofs.Ythnoihdojinocaa

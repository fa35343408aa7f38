/- visit, with the writer. -/
import Derived.Test.YthnoihdojinocaaQ
namespace Go.Proofs.Ythnoihdojinocaa
open Go.ChangeShapes Go.WideShapes Go.ChangeAt Go.RowKit
set_option linter.unusedVariables false
set_option linter.unusedSimpArgs false

theorem na_w (k : Nat) : (∀ w, (nilAhead 214 73 (.pointer (some ⟨k, 0, none⟩)) "seepage/codec.unsigned").run Try.prog w = .ok (some false) w) ∧ (∀ w, (nilAhead 214 73 (.pointer (some ⟨k, 0, none⟩)) "seepage/codec.signed").run Try.prog w = .ok (some false) w) ∧ (∀ w, (nilAhead 214 73 (.pointer (some ⟨k, 0, none⟩)) "seepage/codec.draws").run Try.prog w = .ok (some false) w) ∧ (∀ w, (nilAhead 214 73 (.pointer (some ⟨k, 0, none⟩)) "seepage/codec.bounds").run Try.prog w = .ok (some false) w) := ⟨fun _ => by kernel_rfl, fun _ => by kernel_rfl, fun _ => by kernel_rfl, fun _ => by kernel_rfl⟩
theorem me_w (k : Nat) : (∀ w, (method 214 73 (.pointer (some ⟨k, 0, none⟩)) "seepage/codec.unsigned").run Try.prog w = .ok (77, .pointer (some ⟨k, 0, none⟩)) w) ∧ (∀ w, (method 214 73 (.pointer (some ⟨k, 0, none⟩)) "seepage/codec.signed").run Try.prog w = .ok (76, .pointer (some ⟨k, 0, none⟩)) w) ∧ (∀ w, (method 214 73 (.pointer (some ⟨k, 0, none⟩)) "seepage/codec.draws").run Try.prog w = .ok (75, .pointer (some ⟨k, 0, none⟩)) w) ∧ (∀ w, (method 214 73 (.pointer (some ⟨k, 0, none⟩)) "seepage/codec.bounds").run Try.prog w = .ok (74, .pointer (some ⟨k, 0, none⟩)) w) := ⟨fun _ => by kernel_rfl, fun _ => by kernel_rfl, fun _ => by kernel_rfl, fun _ => by kernel_rfl⟩
def VW (w0 : World) (B k : Nat) (zs : List Nat) (e : Ending) (w' : World) : Prop := e = .returned (.bool true) ∧ KW w0 B k zs w'
section
variable {w0 w : World} {B k x : Nat} {zs : List Nat} {c : Cm}
set_option maxRecDepth 100000 in
set_option maxHeartbeats 8000000 in
theorem pvw_1 (hC : CmAt w0 B x c) (h : KWb w0 B k zs 1000 w) (hop : c.op = 1) : Calls Try.prog 39 #[.pointer (some ⟨x, 0, none⟩), .iface 73 (.pointer (some ⟨k, 0, none⟩))] w (VW w0 B k (zs ++ [Fd.u, Fd.v, Fd.w, Fd.t].flatMap (encF c))) := by
  have C := Lib.hid hC
  have K := Lib.hid h
  have x0 := hC.op h
  rw [hop] at x0
  clear h hC
  obtain ⟨n1, n2, n3, n4⟩ := na_w k
  obtain ⟨m1, m2, m3, m4⟩ := me_w k
  go_enter Try.func39, Try.ntmps39
  go_wp2_with fail
  go_region_with (go_at_call 77; refine (kwf_u C.out (by decide) (KWb.drew K.out)).mono ?_; rintro e w1 ⟨rfl, hk1⟩)
  have K_ := Lib.hid hk1; clear hk1 K; have K := K_; clear K_
  go_wp2_with fail
  go_region_with (go_at_call 77; refine (kwf_v C.out (by decide) (KWb.drew K.out)).mono ?_; rintro e w1 ⟨rfl, hk1⟩)
  have K_ := Lib.hid hk1; clear hk1 K; have K := K_; clear K_
  go_wp2_with fail
  go_region_with (go_at_call 76; refine (kwf_w C.out (by decide) (KWb.drew K.out)).mono ?_; rintro e w1 ⟨rfl, hk1⟩)
  have K_ := Lib.hid hk1; clear hk1 K; have K := K_; clear K_
  go_wp2_with fail
  go_region_with (go_at_call 76; refine (kwf_t C.out (by decide) (KWb.drew K.out)).mono ?_; rintro e w1 ⟨rfl, hk1⟩)
  have K_ := Lib.hid hk1; clear hk1 K; have K := K_; clear K_
  go_wp2_with fail
  go_ret
  exact ⟨rfl, by simpa [List.append_assoc] using K.out.1⟩
set_option maxRecDepth 100000 in
set_option maxHeartbeats 8000000 in
theorem pvw_2 (hC : CmAt w0 B x c) (h : KWb w0 B k zs 1000 w) (hop : c.op = 2) : Calls Try.prog 39 #[.pointer (some ⟨x, 0, none⟩), .iface 73 (.pointer (some ⟨k, 0, none⟩))] w (VW w0 B k (zs ++ [Fd.t].flatMap (encF c))) := by
  have C := Lib.hid hC
  have K := Lib.hid h
  have x0 := hC.op h
  rw [hop] at x0
  clear h hC
  obtain ⟨n1, n2, n3, n4⟩ := na_w k
  obtain ⟨m1, m2, m3, m4⟩ := me_w k
  go_enter Try.func39, Try.ntmps39
  go_wp2_with fail
  go_region_with (go_at_call 76; refine (kwf_t C.out (by decide) (KWb.drew K.out)).mono ?_; rintro e w1 ⟨rfl, hk1⟩)
  have K_ := Lib.hid hk1; clear hk1 K; have K := K_; clear K_
  go_wp2_with fail
  go_ret
  exact ⟨rfl, by simpa [List.append_assoc] using K.out.1⟩
set_option maxRecDepth 100000 in
set_option maxHeartbeats 8000000 in
theorem pvw_3 (hC : CmAt w0 B x c) (h : KWb w0 B k zs 1000 w) (hop : c.op = 3) : Calls Try.prog 39 #[.pointer (some ⟨x, 0, none⟩), .iface 73 (.pointer (some ⟨k, 0, none⟩))] w (VW w0 B k (zs ++ [Fd.u, Fd.v].flatMap (encF c))) := by
  have C := Lib.hid hC
  have K := Lib.hid h
  have x0 := hC.op h
  rw [hop] at x0
  clear h hC
  obtain ⟨n1, n2, n3, n4⟩ := na_w k
  obtain ⟨m1, m2, m3, m4⟩ := me_w k
  go_enter Try.func39, Try.ntmps39
  go_wp2_with fail
  go_region_with (go_at_call 77; refine (kwf_u C.out (by decide) (KWb.drew K.out)).mono ?_; rintro e w1 ⟨rfl, hk1⟩)
  have K_ := Lib.hid hk1; clear hk1 K; have K := K_; clear K_
  go_wp2_with fail
  go_region_with (go_at_call 77; refine (kwf_v C.out (by decide) (KWb.drew K.out)).mono ?_; rintro e w1 ⟨rfl, hk1⟩)
  have K_ := Lib.hid hk1; clear hk1 K; have K := K_; clear K_
  go_wp2_with fail
  go_ret
  exact ⟨rfl, by simpa [List.append_assoc] using K.out.1⟩
set_option maxRecDepth 100000 in
set_option maxHeartbeats 8000000 in
theorem pvw_4 (hC : CmAt w0 B x c) (h : KWb w0 B k zs 1000 w) (hop : c.op = 4) : Calls Try.prog 39 #[.pointer (some ⟨x, 0, none⟩), .iface 73 (.pointer (some ⟨k, 0, none⟩))] w (VW w0 B k (zs ++ [Fd.u].flatMap (encF c))) := by
  have C := Lib.hid hC
  have K := Lib.hid h
  have x0 := hC.op h
  rw [hop] at x0
  clear h hC
  obtain ⟨n1, n2, n3, n4⟩ := na_w k
  obtain ⟨m1, m2, m3, m4⟩ := me_w k
  go_enter Try.func39, Try.ntmps39
  go_wp2_with fail
  go_region_with (go_at_call 77; refine (kwf_u C.out (by decide) (KWb.drew K.out)).mono ?_; rintro e w1 ⟨rfl, hk1⟩)
  have K_ := Lib.hid hk1; clear hk1 K; have K := K_; clear K_
  go_wp2_with fail
  go_ret
  exact ⟨rfl, by simpa [List.append_assoc] using K.out.1⟩
set_option maxRecDepth 100000 in
set_option maxHeartbeats 8000000 in
theorem pvw_5 (hC : CmAt w0 B x c) (h : KWb w0 B k zs 1000 w) (hop : c.op = 5) : Calls Try.prog 39 #[.pointer (some ⟨x, 0, none⟩), .iface 73 (.pointer (some ⟨k, 0, none⟩))] w (VW w0 B k (zs ++ [].flatMap (encF c))) := by
  have C := Lib.hid hC
  have K := Lib.hid h
  have x0 := hC.op h
  rw [hop] at x0
  clear h hC
  obtain ⟨n1, n2, n3, n4⟩ := na_w k
  obtain ⟨m1, m2, m3, m4⟩ := me_w k
  go_enter Try.func39, Try.ntmps39
  go_wp2_with fail
  go_ret
  exact ⟨rfl, by simpa [List.append_assoc] using K.out.1⟩
set_option maxRecDepth 100000 in
set_option maxHeartbeats 8000000 in
theorem pvw_6 (hC : CmAt w0 B x c) (h : KWb w0 B k zs 1000 w) (hop : c.op = 6) : Calls Try.prog 39 #[.pointer (some ⟨x, 0, none⟩), .iface 73 (.pointer (some ⟨k, 0, none⟩))] w (VW w0 B k (zs ++ [Fd.u, Fd.w].flatMap (encF c))) := by
  have C := Lib.hid hC
  have K := Lib.hid h
  have x0 := hC.op h
  rw [hop] at x0
  clear h hC
  obtain ⟨n1, n2, n3, n4⟩ := na_w k
  obtain ⟨m1, m2, m3, m4⟩ := me_w k
  go_enter Try.func39, Try.ntmps39
  go_wp2_with fail
  go_region_with (go_at_call 77; refine (kwf_u C.out (by decide) (KWb.drew K.out)).mono ?_; rintro e w1 ⟨rfl, hk1⟩)
  have K_ := Lib.hid hk1; clear hk1 K; have K := K_; clear K_
  go_wp2_with fail
  go_region_with (go_at_call 76; refine (kwf_w C.out (by decide) (KWb.drew K.out)).mono ?_; rintro e w1 ⟨rfl, hk1⟩)
  have K_ := Lib.hid hk1; clear hk1 K; have K := K_; clear K_
  go_wp2_with fail
  go_ret
  exact ⟨rfl, by simpa [List.append_assoc] using K.out.1⟩
set_option maxRecDepth 100000 in
set_option maxHeartbeats 8000000 in
theorem pvw_7 (hC : CmAt w0 B x c) (h : KWb w0 B k zs 1000 w) (hop : c.op = 7) : Calls Try.prog 39 #[.pointer (some ⟨x, 0, none⟩), .iface 73 (.pointer (some ⟨k, 0, none⟩))] w (VW w0 B k (zs ++ [Fd.w].flatMap (encF c))) := by
  have C := Lib.hid hC
  have K := Lib.hid h
  have x0 := hC.op h
  rw [hop] at x0
  clear h hC
  obtain ⟨n1, n2, n3, n4⟩ := na_w k
  obtain ⟨m1, m2, m3, m4⟩ := me_w k
  go_enter Try.func39, Try.ntmps39
  go_wp2_with fail
  go_region_with (go_at_call 76; refine (kwf_w C.out (by decide) (KWb.drew K.out)).mono ?_; rintro e w1 ⟨rfl, hk1⟩)
  have K_ := Lib.hid hk1; clear hk1 K; have K := K_; clear K_
  go_wp2_with fail
  go_ret
  exact ⟨rfl, by simpa [List.append_assoc] using K.out.1⟩
set_option maxRecDepth 100000 in
set_option maxHeartbeats 8000000 in
theorem pvw_8 (hC : CmAt w0 B x c) (h : KWb w0 B k zs 1000 w) (hop : c.op = 8) : Calls Try.prog 39 #[.pointer (some ⟨x, 0, none⟩), .iface 73 (.pointer (some ⟨k, 0, none⟩))] w (VW w0 B k (zs ++ [Fd.u, Fd.v].flatMap (encF c))) := by
  have C := Lib.hid hC
  have K := Lib.hid h
  have x0 := hC.op h
  rw [hop] at x0
  clear h hC
  obtain ⟨n1, n2, n3, n4⟩ := na_w k
  obtain ⟨m1, m2, m3, m4⟩ := me_w k
  go_enter Try.func39, Try.ntmps39
  go_wp2_with fail
  go_region_with (go_at_call 77; refine (kwf_u C.out (by decide) (KWb.drew K.out)).mono ?_; rintro e w1 ⟨rfl, hk1⟩)
  have K_ := Lib.hid hk1; clear hk1 K; have K := K_; clear K_
  go_wp2_with fail
  go_region_with (go_at_call 77; refine (kwf_v C.out (by decide) (KWb.drew K.out)).mono ?_; rintro e w1 ⟨rfl, hk1⟩)
  have K_ := Lib.hid hk1; clear hk1 K; have K := K_; clear K_
  go_wp2_with fail
  go_ret
  exact ⟨rfl, by simpa [List.append_assoc] using K.out.1⟩
set_option maxRecDepth 100000 in
set_option maxHeartbeats 8000000 in
theorem pvw_9 (hC : CmAt w0 B x c) (h : KWb w0 B k zs 1000 w) (hop : c.op = 9) : Calls Try.prog 39 #[.pointer (some ⟨x, 0, none⟩), .iface 73 (.pointer (some ⟨k, 0, none⟩))] w (VW w0 B k (zs ++ [].flatMap (encF c))) := by
  have C := Lib.hid hC
  have K := Lib.hid h
  have x0 := hC.op h
  rw [hop] at x0
  clear h hC
  obtain ⟨n1, n2, n3, n4⟩ := na_w k
  obtain ⟨m1, m2, m3, m4⟩ := me_w k
  go_enter Try.func39, Try.ntmps39
  go_wp2_with fail
  go_ret
  exact ⟨rfl, by simpa [List.append_assoc] using K.out.1⟩
set_option maxRecDepth 100000 in
set_option maxHeartbeats 8000000 in
theorem pvw_10 (hC : CmAt w0 B x c) (h : KWb w0 B k zs 1000 w) (hop : c.op = 10) : Calls Try.prog 39 #[.pointer (some ⟨x, 0, none⟩), .iface 73 (.pointer (some ⟨k, 0, none⟩))] w (VW w0 B k (zs ++ [].flatMap (encF c))) := by
  have C := Lib.hid hC
  have K := Lib.hid h
  have x0 := hC.op h
  rw [hop] at x0
  clear h hC
  obtain ⟨n1, n2, n3, n4⟩ := na_w k
  obtain ⟨m1, m2, m3, m4⟩ := me_w k
  go_enter Try.func39, Try.ntmps39
  go_wp2_with fail
  go_ret
  exact ⟨rfl, by simpa [List.append_assoc] using K.out.1⟩
set_option maxRecDepth 100000 in
set_option maxHeartbeats 8000000 in
theorem pvw_11 (hC : CmAt w0 B x c) (h : KWb w0 B k zs 1000 w) (hop : c.op = 11) : Calls Try.prog 39 #[.pointer (some ⟨x, 0, none⟩), .iface 73 (.pointer (some ⟨k, 0, none⟩))] w (VW w0 B k (zs ++ [Fd.d].flatMap (encF c))) := by
  have C := Lib.hid hC
  have K := Lib.hid h
  have x0 := hC.op h
  rw [hop] at x0
  clear h hC
  obtain ⟨n1, n2, n3, n4⟩ := na_w k
  obtain ⟨m1, m2, m3, m4⟩ := me_w k
  go_enter Try.func39, Try.ntmps39
  go_wp2_with fail
  go_region_with (go_at_call 75; refine (kwf_d C.out (by decide) (KWb.drew K.out)).mono ?_; rintro e w1 ⟨rfl, hk1⟩)
  have K_ := Lib.hid hk1; clear hk1 K; have K := K_; clear K_
  go_wp2_with fail
  go_ret
  exact ⟨rfl, by simpa [List.append_assoc] using K.out.1⟩
set_option maxRecDepth 100000 in
set_option maxHeartbeats 8000000 in
theorem pvw_12 (hC : CmAt w0 B x c) (h : KWb w0 B k zs 1000 w) (hop : c.op = 12) : Calls Try.prog 39 #[.pointer (some ⟨x, 0, none⟩), .iface 73 (.pointer (some ⟨k, 0, none⟩))] w (VW w0 B k (zs ++ [Fd.w, Fd.b].flatMap (encF c))) := by
  have C := Lib.hid hC
  have K := Lib.hid h
  have x0 := hC.op h
  rw [hop] at x0
  clear h hC
  obtain ⟨n1, n2, n3, n4⟩ := na_w k
  obtain ⟨m1, m2, m3, m4⟩ := me_w k
  go_enter Try.func39, Try.ntmps39
  go_wp2_with fail
  go_region_with (go_at_call 76; refine (kwf_w C.out (by decide) (KWb.drew K.out)).mono ?_; rintro e w1 ⟨rfl, hk1⟩)
  have K_ := Lib.hid hk1; clear hk1 K; have K := K_; clear K_
  go_wp2_with fail
  go_region_with (go_at_call 74; refine (kwf_b C.out (by decide) (KWb.drew K.out)).mono ?_; rintro e w1 ⟨rfl, hk1⟩)
  have K_ := Lib.hid hk1; clear hk1 K; have K := K_; clear K_
  go_wp2_with fail
  go_ret
  exact ⟨rfl, by simpa [List.append_assoc] using K.out.1⟩
set_option maxRecDepth 100000 in
set_option maxHeartbeats 8000000 in
theorem pvw_13 (hC : CmAt w0 B x c) (h : KWb w0 B k zs 1000 w) (hop : c.op = 13) : Calls Try.prog 39 #[.pointer (some ⟨x, 0, none⟩), .iface 73 (.pointer (some ⟨k, 0, none⟩))] w (VW w0 B k (zs ++ [].flatMap (encF c))) := by
  have C := Lib.hid hC
  have K := Lib.hid h
  have x0 := hC.op h
  rw [hop] at x0
  clear h hC
  obtain ⟨n1, n2, n3, n4⟩ := na_w k
  obtain ⟨m1, m2, m3, m4⟩ := me_w k
  go_enter Try.func39, Try.ntmps39
  go_wp2_with fail
  go_ret
  exact ⟨rfl, by simpa [List.append_assoc] using K.out.1⟩
set_option maxRecDepth 100000 in
set_option maxHeartbeats 8000000 in
theorem pvw_14 (hC : CmAt w0 B x c) (h : KWb w0 B k zs 1000 w) (hop : c.op = 14) : Calls Try.prog 39 #[.pointer (some ⟨x, 0, none⟩), .iface 73 (.pointer (some ⟨k, 0, none⟩))] w (VW w0 B k (zs ++ [].flatMap (encF c))) := by
  have C := Lib.hid hC
  have K := Lib.hid h
  have x0 := hC.op h
  rw [hop] at x0
  clear h hC
  obtain ⟨n1, n2, n3, n4⟩ := na_w k
  obtain ⟨m1, m2, m3, m4⟩ := me_w k
  go_enter Try.func39, Try.ntmps39
  go_wp2_with fail
  go_ret
  exact ⟨rfl, by simpa [List.append_assoc] using K.out.1⟩
set_option maxRecDepth 100000 in
set_option maxHeartbeats 8000000 in
theorem pvw_15 (hC : CmAt w0 B x c) (h : KWb w0 B k zs 1000 w) (hop : c.op = 15) : Calls Try.prog 39 #[.pointer (some ⟨x, 0, none⟩), .iface 73 (.pointer (some ⟨k, 0, none⟩))] w (VW w0 B k (zs ++ [].flatMap (encF c))) := by
  have C := Lib.hid hC
  have K := Lib.hid h
  have x0 := hC.op h
  rw [hop] at x0
  clear h hC
  obtain ⟨n1, n2, n3, n4⟩ := na_w k
  obtain ⟨m1, m2, m3, m4⟩ := me_w k
  go_enter Try.func39, Try.ntmps39
  go_wp2_with fail
  go_ret
  exact ⟨rfl, by simpa [List.append_assoc] using K.out.1⟩
theorem pvw (hC : CmAt w0 B x c) (h : KWb w0 B k zs 1000 w) {fs : List Fd} (hu : uses c.op = some fs) : Calls Try.prog 39 #[.pointer (some ⟨x, 0, none⟩), .iface 73 (.pointer (some ⟨k, 0, none⟩))] w (VW w0 B k (zs ++ fs.flatMap (encF c))) := by
  have hr := (uses_some hu).1
  have hc : c.op = 1 ∨ c.op = 2 ∨ c.op = 3 ∨ c.op = 4 ∨ c.op = 5 ∨ c.op = 6 ∨ c.op = 7 ∨ c.op = 8 ∨ c.op = 9 ∨ c.op = 10 ∨ c.op = 11 ∨ c.op = 12 ∨ c.op = 13 ∨ c.op = 14 ∨ c.op = 15 := by omega
  rcases hc with hop | hop | hop | hop | hop | hop | hop | hop | hop | hop | hop | hop | hop | hop | hop
  · rw [hop] at hu; obtain rfl : fs = [Fd.u, Fd.v, Fd.w, Fd.t] := (Option.some.inj ((show uses 1 = some [Fd.u, Fd.v, Fd.w, Fd.t] by decide).symm.trans hu)).symm
    exact pvw_1 hC h hop
  · rw [hop] at hu; obtain rfl : fs = [Fd.t] := (Option.some.inj ((show uses 2 = some [Fd.t] by decide).symm.trans hu)).symm
    exact pvw_2 hC h hop
  · rw [hop] at hu; obtain rfl : fs = [Fd.u, Fd.v] := (Option.some.inj ((show uses 3 = some [Fd.u, Fd.v] by decide).symm.trans hu)).symm
    exact pvw_3 hC h hop
  · rw [hop] at hu; obtain rfl : fs = [Fd.u] := (Option.some.inj ((show uses 4 = some [Fd.u] by decide).symm.trans hu)).symm
    exact pvw_4 hC h hop
  · rw [hop] at hu; obtain rfl : fs = [] := (Option.some.inj ((show uses 5 = some [] by decide).symm.trans hu)).symm
    exact pvw_5 hC h hop
  · rw [hop] at hu; obtain rfl : fs = [Fd.u, Fd.w] := (Option.some.inj ((show uses 6 = some [Fd.u, Fd.w] by decide).symm.trans hu)).symm
    exact pvw_6 hC h hop
  · rw [hop] at hu; obtain rfl : fs = [Fd.w] := (Option.some.inj ((show uses 7 = some [Fd.w] by decide).symm.trans hu)).symm
    exact pvw_7 hC h hop
  · rw [hop] at hu; obtain rfl : fs = [Fd.u, Fd.v] := (Option.some.inj ((show uses 8 = some [Fd.u, Fd.v] by decide).symm.trans hu)).symm
    exact pvw_8 hC h hop
  · rw [hop] at hu; obtain rfl : fs = [] := (Option.some.inj ((show uses 9 = some [] by decide).symm.trans hu)).symm
    exact pvw_9 hC h hop
  · rw [hop] at hu; obtain rfl : fs = [] := (Option.some.inj ((show uses 10 = some [] by decide).symm.trans hu)).symm
    exact pvw_10 hC h hop
  · rw [hop] at hu; obtain rfl : fs = [Fd.d] := (Option.some.inj ((show uses 11 = some [Fd.d] by decide).symm.trans hu)).symm
    exact pvw_11 hC h hop
  · rw [hop] at hu; obtain rfl : fs = [Fd.w, Fd.b] := (Option.some.inj ((show uses 12 = some [Fd.w, Fd.b] by decide).symm.trans hu)).symm
    exact pvw_12 hC h hop
  · rw [hop] at hu; obtain rfl : fs = [] := (Option.some.inj ((show uses 13 = some [] by decide).symm.trans hu)).symm
    exact pvw_13 hC h hop
  · rw [hop] at hu; obtain rfl : fs = [] := (Option.some.inj ((show uses 14 = some [] by decide).symm.trans hu)).symm
    exact pvw_14 hC h hop
  · rw [hop] at hu; obtain rfl : fs = [] := (Option.some.inj ((show uses 15 = some [] by decide).symm.trans hu)).symm
    exact pvw_15 hC h hop
end
end Go.Proofs.Ythnoihdojinocaa

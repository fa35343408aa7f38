/- Equal lists; Check of both. -/
import Derived.Test.YtejleobpohpdpaaDoorE
namespace Go.Proofs.YtejleobpohpdpaaDoor
open Go.ChangeShapes Go.WideShapes Go.ChangeAt Go.RowKit

def SameRel (w : World) (len : Nat) (vi : Value) (wr : World) : Prop := ∃ k : Nat, k ≤ len ∧ vi = .int .i64 k ∧ Below w.heap.size w wr
theorem same_yes {w : World} {aa ab : Option Addr} {la lb ca cb : Nat} {zs : List Int} (ha : IsK .i64 w aa la ca zs) (hb : IsK .i64 w ab lb cb zs) :
    Calls Tryd.prog 17 #[.slice aa la ca, .slice ab lb cb] w fun e w' => e = .returned (.bool true) ∧ Below w.heap.size w w' := by
  have hal := ha.hlen; have hac := ha.hle; have ham := ha.hmax; have hbl := hb.hlen; have hbc := hb.hle; have hbm := hb.hmax
  unfold maxLen at ham hbm
  obtain rfl : la = lb := by omega
  have HA := Lib.hid ha; have HB := Lib.hid hb; have HAL := Lib.hid hal
  clear ha hb hal hbl
  go_enter Tryd.func17, Tryd.ntmps17
  go_wp2_with fail
  go_loopw [5] (fun vi wr => SameRel w la vi wr) (fun vi _ => la - (intOf vi).toNat)
  case atStart => exact ⟨0, Nat.zero_le _, rfl, Below.refl _ _⟩
  case round =>
    obtain ⟨k, hk, rfl, hbl⟩ := hrel
    have BL := Lib.hid hbl; clear hbl
    by_cases hlt : k < la
    · have hkl : k < zs.length := by have := HAL.out; omega
      obtain ⟨b, off, rfl, _, _⟩ := HA.out.at_ (by intro h; rw [h] at hkl; simp at hkl)
      obtain ⟨b', off', rfl, _, _⟩ := HB.out.at_ (by intro h; rw [h] at hkl; simp at hkl)
      have x0 := (HA.out.below BL.out).cellK hkl
      have y0 := (HB.out.below BL.out).cellK hkl
      generalize zs.getD k 0 = x at *
      go_wp2_with fail
      go_quiet (fail)
      go_wp2_with fail
      go_roundw
      case rel => exact ⟨k + 1, by omega, by go_num, below_drewN BL.out _⟩
      case measure => simp [intOf]; omega
    · go_wp2_with fail
      go_ret
      exact ⟨rfl, BL.out⟩
theorem samed_yes {w : World} {aa ab : Option Addr} {la lb ca cb : Nat} {zs : List Int} (ha : IsK .u64 w aa la ca zs) (hb : IsK .u64 w ab lb cb zs) :
    Calls Tryd.prog 31 #[.slice aa la ca, .slice ab lb cb] w fun e w' => e = .returned (.bool true) ∧ Below w.heap.size w w' := by
  have hal := ha.hlen; have hac := ha.hle; have ham := ha.hmax; have hbl := hb.hlen; have hbc := hb.hle; have hbm := hb.hmax
  unfold maxLen at ham hbm
  obtain rfl : la = lb := by omega
  have HA := Lib.hid ha; have HB := Lib.hid hb; have HAL := Lib.hid hal
  clear ha hb hal hbl
  go_enter Tryd.func31, Tryd.ntmps31
  go_wp2_with fail
  go_loopw [5] (fun vi wr => SameRel w la vi wr) (fun vi _ => la - (intOf vi).toNat)
  case atStart => exact ⟨0, Nat.zero_le _, rfl, Below.refl _ _⟩
  case round =>
    obtain ⟨k, hk, rfl, hbl⟩ := hrel
    have BL := Lib.hid hbl; clear hbl
    by_cases hlt : k < la
    · have hkl : k < zs.length := by have := HAL.out; omega
      obtain ⟨b, off, rfl, _, _⟩ := HA.out.at_ (by intro h; rw [h] at hkl; simp at hkl)
      obtain ⟨b', off', rfl, _, _⟩ := HB.out.at_ (by intro h; rw [h] at hkl; simp at hkl)
      have x0 := (HA.out.below BL.out).cellK hkl
      have y0 := (HB.out.below BL.out).cellK hkl
      generalize zs.getD k 0 = x at *
      go_wp2_with fail
      go_quiet (fail)
      go_wp2_with fail
      go_roundw
      case rel => exact ⟨k + 1, by omega, by go_num, below_drewN BL.out _⟩
      case measure => simp [intOf]; omega
    · go_wp2_with fail
      go_ret
      exact ⟨rfl, BL.out⟩
/-- Flags as cells. -/
def bls (G : List Bool) : Array Value := (G.map Value.bool).toArray
theorem bls_0 (n : Nat) : madeCells #[Value.bool false] n = bls (List.replicate n false) := by
  apply Array.ext
  · simp [madeCells, bls]
  · intro i h1 h2; simp [madeCells, bls, Nat.mod_one]
theorem bls_set (G : List Bool) (j : Nat) (b : Bool) : (bls G).setIfInBounds j (.bool b) = bls (G.set j b) := by
  simp [bls, List.map_set]
theorem bls_cell {G : List Bool} {i : Nat} (hi : i < G.length) : (bls G)[i]? = some (.bool (G.getD i true)) := by
  simp [bls, hi]
theorem make_b (n : Nat) (hn : n ≤ 1099511627776) : ∀ w, (Instr.makeSlice 45 (.int .i64 (n : Int)) (.int .i64 (n : Int))).run Tryd.prog w = .ok (.slice (some ⟨w.heap.size, 0, none⟩) n n) (w.alloc (.cells (madeCells #[Value.bool false] n) 4)) :=
  run_make_row' (P := Tryd.prog) 45 4 (.bool false) 1 Tryd.underlying45 info4 rfl .i64 .i64 n (by omega) (by omega)
/-- A list of numbers that is a permutation, and not too long. -/
def okP (zs : List Int) : Bool := decide (zs.length ≤ 16384) && (zs.all (fun x => decide (0 ≤ x) && decide (x < zs.length)) && decide zs.Nodup)
def chk (zs : List Int) : Int := if okP zs = true then 0 else 2
theorem ns_nodup {p : List Nat} : (ns p).Nodup ↔ p.Nodup := by
  rw [List.nodup_iff_pairwise_ne, List.nodup_iff_pairwise_ne, ns, List.pairwise_map]
  constructor <;> intro h <;> refine h.imp ?_ <;> intro a b hab
  · intro e; exact hab (by rw [e])
  · intro e; exact hab (by omega)
theorem okP_iff {zs : List Int} : okP zs = true ↔ zs.length ≤ 16384 ∧ (∀ x ∈ zs, 0 ≤ x ∧ x < zs.length) ∧ zs.Nodup := by
  simp [okP, List.all_eq_true]
theorem okP_ns {p : List Nat} (h : IsP p) (hl : p.length ≤ 16384) : okP (ns p) = true := by
  rw [okP_iff, ns_len]
  refine ⟨hl, fun x hx => ?_, ns_nodup.2 h.nd⟩
  simp only [ns, List.mem_map] at hx
  obtain ⟨n, hn, rfl⟩ := hx
  have := h.lt n hn
  omega
theorem okP_yes {zs : List Int} (h : okP zs = true) : ∃ p, IsP p ∧ zs = ns p ∧ p.length ≤ 16384 := by
  obtain ⟨h1, h2, h3⟩ := okP_iff.1 h
  have e : zs = ns (zs.map Int.toNat) := by
    simp only [ns, List.map_map]
    symm
    conv => rhs; rw [← List.map_id zs]
    apply List.map_congr_left
    intro x hx
    have := h2 x hx
    simp; omega
  refine ⟨zs.map Int.toNat, ⟨fun x hx => ?_, ?_⟩, e, by simpa using h1⟩
  · obtain ⟨y, hy, rfl⟩ := List.mem_map.1 hx
    have := h2 y hy
    simp; omega
  · rw [← ns_nodup, ← e]; exact h3
theorem take_snoc {zs : List Int} {j : Nat} (h : j < zs.length) : zs.take (j + 1) = zs.take j ++ [zs.getD j 0] := by
  rw [List.take_succ_eq_append_getElem h]; simp [h]
theorem nodup_snoc {l : List Int} {x : Int} : (l ++ [x]).Nodup ↔ l.Nodup ∧ x ∉ l := by
  rw [List.nodup_append]
  constructor
  · rintro ⟨h1, _, h3⟩
    exact ⟨h1, fun h => h3 x h x (by simp) rfl⟩
  · rintro ⟨h1, h2⟩
    exact ⟨h1, by simp, fun a ha b hb e => by simp at hb; subst hb; exact h2 (e ▸ ha)⟩
/-- The flags of what was met. -/
structure Met (zs : List Int) (k : Nat) (G : List Bool) : Prop where
  len : G.length = zs.length
  rng : ∀ x ∈ zs.take k, 0 ≤ x ∧ x < zs.length
  nd : (zs.take k).Nodup
  fl : ∀ y : Nat, y < zs.length → (G.getD y true = true ↔ (y : Int) ∈ zs.take k)
theorem Met.start (zs : List Int) : Met zs 0 (List.replicate zs.length false) := ⟨by simp, fun x hx => by simp at hx, by simp, fun y hy => by simp [hy]⟩
theorem Met.next {zs : List Int} {k m : Nat} {G : List Bool} (h : Met zs k G) (hk : k < zs.length) (hx : zs.getD k 0 = (m : Int)) (hm : m < zs.length) (hf : G.getD m true = false) : Met zs (k + 1) (G.set m true) := by
  have hn : (m : Int) ∉ zs.take k := fun hh => by rw [(h.fl m hm).2 hh] at hf; cases hf
  refine ⟨by simp [h.len], fun x hx' => ?_, ?_, fun y hy => ?_⟩
  · rw [take_snoc hk, hx] at hx'
    rcases List.mem_append.1 hx' with h1 | h1
    · exact h.rng x h1
    · simp at h1; omega
  · rw [take_snoc hk, hx, nodup_snoc]; exact ⟨h.nd, hn⟩
  · rw [take_snoc hk, hx, flag_get (by rw [h.len]; exact hm), List.mem_append]
    by_cases e : y = m
    · subst e; simp
    · rw [if_neg e, h.fl y hy]
      simp; omega
theorem Met.all {zs : List Int} {G : List Bool} (h : Met zs zs.length G) (hl : zs.length ≤ 16384) : okP zs = true := by
  have h2 := h.rng; have h3 := h.nd
  rw [List.take_length] at h2 h3
  exact okP_iff.2 ⟨hl, h2, h3⟩
theorem Met.out {zs : List Int} {k : Nat} (hk : k < zs.length) (hx : zs.getD k 0 < 0 ∨ (zs.length : Int) ≤ zs.getD k 0) : okP zs = false := by
  cases h : okP zs
  · rfl
  · have := (okP_iff.1 h).2.1 (zs.getD k 0) (by simp [hk])
    omega
theorem Met.twice {zs : List Int} {k m : Nat} {G : List Bool} (h : Met zs k G) (hk : k < zs.length) (hx : zs.getD k 0 = (m : Int)) (hm : m < zs.length) (hf : G.getD m true = true) : okP zs = false := by
  cases hh : okP zs
  · rfl
  · have h1 := (okP_iff.1 hh).2.2
    have h2 : (zs.take (k + 1)).Nodup := List.Nodup.sublist (List.take_sublist _ _) h1
    rw [take_snoc hk, hx, nodup_snoc] at h2
    exact absurd ((h.fl m hm).1 hf) h2.2
theorem chk_yes {zs : List Int} (h : okP zs = true) : chk zs = 0 := by unfold chk; rw [if_pos h]
theorem chk_no {zs : List Int} (h : okP zs = false) : chk zs = 2 := by unfold chk; rw [if_neg (by rw [h]; decide)]
def ChkRel (w : World) (zs : List Int) (vi : Value) (wr : World) : Prop :=
  ∃ (k : Nat) (G : List Bool), k ≤ zs.length ∧ vi = .int .i64 k ∧ Met zs k G ∧ wr.heap[w.heap.size]? = some (.cells (bls G) 4 (0, 0)) ∧ Below w.heap.size w wr
set_option maxRecDepth 100000 in
set_option maxHeartbeats 2000000 in
theorem pcheck {w : World} {aa : Option Addr} {la ca : Nat} {zs : List Int} (h : IsK .i64 w aa la ca zs) :
    Calls Tryd.prog 21 #[.slice aa la ca] w fun e w' => e = .returned (.int .i64 (chk zs)) ∧ Below w.heap.size w w' := by
  have hal := h.hlen; have hac := h.hle; have ham := h.hmax
  unfold maxLen at ham
  by_cases hlong : 16384 < la
  · have hc : chk zs = 2 := chk_no (by
      cases hh : okP zs
      · rfl
      · have := (okP_iff.1 hh).1; omega)
    rw [hc]
    clear hc h
    go_enter Tryd.func21, Tryd.ntmps21
    go_wp2_with fail
    go_ret
    exact ⟨rfl, Below.refl _ _⟩
  · have H := Lib.hid h
    have HAL := Lib.hid hal
    generalize hres : chk zs = res at *
    have HR := Lib.hid hres
    obtain ⟨CI, hCI⟩ : ∃ C, C = madeCells #[Value.bool false] la := ⟨_, rfl⟩
    have m1 := make_b la (by omega)
    rw [← hCI] at m1
    have HCI := Lib.hid hCI
    clear h hal hres hCI
    go_enter Tryd.func21, Tryd.ntmps21
    go_wp2_with fail
    go_loopw [5, 14] (fun _ vi wr => ChkRel w zs vi wr) (fun _ vi _ => la - (intOf vi).toNat)
    case atStart =>
      refine ⟨0, _, Nat.zero_le _, rfl, Met.start zs, ?_, Below.alloc (Below.refl _ _) (Nat.le_refl _) _⟩
      rw [HCI.out, ← HAL.out, ← bls_0]
      exact block_new _ _
    case round =>
      clear m1
      obtain ⟨k, G, hk, rfl, hm, hg, hbl⟩ := hrel
      have HG := Lib.hid hg; have BL := Lib.hid hbl; have HM := Lib.hid hm
      clear hg hbl hm
      by_cases hlt : k < la
      · have hkz : k < zs.length := by have := HAL.out; omega
        obtain ⟨b, off, rfl, _, _⟩ := H.out.at_ (by intro h; rw [h] at hkz; simp at hkz)
        have x0 := (H.out.below BL.out).cellK hkz
        generalize hx : zs.getD k 0 = x at *
        have HX := Lib.hid hx
        clear hx
        by_cases hx0 : x < 0
        · have HRR := Lib.hid (show res = 2 by rw [← HR.out]; exact chk_no (Met.out hkz (by rw [HX.out]; omega)))
          go_wp2_with fail
          go_ret
          exact ⟨ret_int HRR.out.symm, BL.out⟩
        · obtain ⟨m, rfl⟩ := Int.eq_ofNat_of_zero_le (show 0 ≤ x by omega)
          clear hx0
          have hm0 : ¬ (m : Int) < 0 := by omega
          by_cases hml : m < la
          · have cg : wr.cell? ⟨w.heap.size, m, none⟩ = some (.bool (G.getD m true)) := by rw [cell_of HG.out, bls_cell (by have := HM.out.len; have := HAL.out; omega)]
            have fg := free_of HG.out m
            cases hf : G.getD m true
            · rw [hf] at cg
              have HN := Lib.hid (HM.out.next hkz HX.out (by have := HAL.out; omega) hf)
              have hG4 := set_of HG.out m (.bool true)
              rw [bls_set] at hG4
              have HG4 := Lib.hid hG4
              have BL4 := Lib.hid (BL.out.setCell (p := ⟨w.heap.size, m, none⟩) (Nat.le_refl _) (.bool true))
              clear hG4 hf
              go_wp2_with fail
              go_roundw
              case rel => exact ⟨k + 1, G.set m true, by omega, by go_num, HN.out, HG4.out, BL4.out⟩
              case measure => simp [intOf]; omega
            · rw [hf] at cg
              have HRR := Lib.hid (show res = 2 by rw [← HR.out]; exact chk_no (Met.twice HM.out hkz HX.out (by have := HAL.out; omega) hf))
              clear hf
              go_wp2_with fail
              go_ret
              exact ⟨ret_int HRR.out.symm, BL.out⟩
          · have HRR := Lib.hid (show res = 2 by rw [← HR.out]; exact chk_no (Met.out hkz (by rw [HX.out]; have := HAL.out; omega)))
            go_wp2_with fail
            go_ret
            exact ⟨ret_int HRR.out.symm, BL.out⟩
      · have hkk : k = zs.length := by have := HAL.out; omega
        have HRR := Lib.hid (show res = 0 by rw [← HR.out]; exact chk_yes (Met.all (by have := HM.out; rwa [hkk] at this) (by have := HAL.out; omega)))
        clear hkk
        go_wp2_with fail
        go_ret
        exact ⟨ret_int HRR.out.symm, BL.out⟩
set_option maxRecDepth 100000 in
set_option maxHeartbeats 2000000 in
theorem rcheck {w : World} {aa : Option Addr} {la ca : Nat} {zs : List Int} (h : IsK .i64 w aa la ca zs) :
    Calls Tryd.prog 29 #[.slice aa la ca] w fun e w' => e = .returned (.int .i64 (chk zs)) ∧ Below w.heap.size w w' := by
  have hal := h.hlen; have hac := h.hle; have ham := h.hmax
  unfold maxLen at ham
  by_cases hlong : 16384 < la
  · have hc : chk zs = 2 := chk_no (by
      cases hh : okP zs
      · rfl
      · have := (okP_iff.1 hh).1; omega)
    rw [hc]
    clear hc h
    go_enter Tryd.func29, Tryd.ntmps29
    go_wp2_with fail
    go_ret
    exact ⟨rfl, Below.refl _ _⟩
  · have H := Lib.hid h
    have HAL := Lib.hid hal
    generalize hres : chk zs = res at *
    have HR := Lib.hid hres
    obtain ⟨CI, hCI⟩ : ∃ C, C = madeCells #[Value.bool false] la := ⟨_, rfl⟩
    have m1 := make_b la (by omega)
    rw [← hCI] at m1
    have HCI := Lib.hid hCI
    clear h hal hres hCI
    go_enter Tryd.func29, Tryd.ntmps29
    go_wp2_with fail
    go_loopw [4] (fun vi wr => ChkRel w zs vi wr) (fun vi _ => la - (intOf vi).toNat)
    case atStart =>
      refine ⟨0, _, Nat.zero_le _, rfl, Met.start zs, ?_, Below.alloc (Below.refl _ _) (Nat.le_refl _) _⟩
      rw [HCI.out, ← HAL.out, ← bls_0]
      exact block_new _ _
    case round =>
      clear m1
      obtain ⟨k, G, hk, rfl, hm, hg, hbl⟩ := hrel
      have HG := Lib.hid hg; have BL := Lib.hid hbl; have HM := Lib.hid hm
      clear hg hbl hm
      by_cases hlt : k < la
      · have hkz : k < zs.length := by have := HAL.out; omega
        obtain ⟨b, off, rfl, _, _⟩ := H.out.at_ (by intro h; rw [h] at hkz; simp at hkz)
        have x0 := (H.out.below BL.out).cellK hkz
        generalize hx : zs.getD k 0 = x at *
        have HX := Lib.hid hx
        clear hx
        by_cases hx0 : x < 0
        · have HRR := Lib.hid (show res = 2 by rw [← HR.out]; exact chk_no (Met.out hkz (by rw [HX.out]; omega)))
          go_wp2_with fail
          go_ret
          exact ⟨ret_int HRR.out.symm, BL.out⟩
        · obtain ⟨m, rfl⟩ := Int.eq_ofNat_of_zero_le (show 0 ≤ x by omega)
          clear hx0
          have hm0 : ¬ (m : Int) < 0 := by omega
          by_cases hml : m < la
          · have cg : wr.cell? ⟨w.heap.size, m, none⟩ = some (.bool (G.getD m true)) := by rw [cell_of HG.out, bls_cell (by have := HM.out.len; have := HAL.out; omega)]
            have fg := free_of HG.out m
            cases hf : G.getD m true
            · rw [hf] at cg
              have HN := Lib.hid (HM.out.next hkz HX.out (by have := HAL.out; omega) hf)
              have hG4 := set_of HG.out m (.bool true)
              rw [bls_set] at hG4
              have HG4 := Lib.hid hG4
              have BL4 := Lib.hid (BL.out.setCell (p := ⟨w.heap.size, m, none⟩) (Nat.le_refl _) (.bool true))
              clear hG4 hf
              go_wp2_with fail
              go_roundw
              case rel => exact ⟨k + 1, G.set m true, by omega, by go_num, HN.out, HG4.out, BL4.out⟩
              case measure => simp [intOf]; omega
            · rw [hf] at cg
              have HRR := Lib.hid (show res = 2 by rw [← HR.out]; exact chk_no (Met.twice HM.out hkz HX.out (by have := HAL.out; omega) hf))
              clear hf
              go_wp2_with fail
              go_ret
              exact ⟨ret_int HRR.out.symm, BL.out⟩
          · have HRR := Lib.hid (show res = 2 by rw [← HR.out]; exact chk_no (Met.out hkz (by rw [HX.out]; have := HAL.out; omega)))
            go_wp2_with fail
            go_ret
            exact ⟨ret_int HRR.out.symm, BL.out⟩
      · have hkk : k = zs.length := by have := HAL.out; omega
        have HRR := Lib.hid (show res = 0 by rw [← HR.out]; exact chk_yes (Met.all (by have := HM.out; rwa [hkk] at this) (by have := HAL.out; omega)))
        clear hkk
        go_wp2_with fail
        go_ret
        exact ⟨ret_int HRR.out.symm, BL.out⟩
end Go.Proofs.YtejleobpohpdpaaDoor

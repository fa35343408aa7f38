/- The laws ShuffleBack and ShuffleExtra. -/
import Derived.Test.YtejleobpohpdpaaDoorT
namespace Go.Proofs.YtejleobpohpdpaaDoor
open Go.ChangeShapes Go.WideShapes Go.ChangeAt Go.RowKit

/-- An append of a slice of numbers to a row of the call's own. -/
theorem wpList_appS {P : Program} {w : World} {ops : Array Oper} {rest : List Oper} {o : Oper} {a : Act} {Q : Exit → Act → World → Prop} (hgd : o.guard = none) (s x : Operand) (t : TypeId)
    (ho : o.op = .call { callee := .builtin .append, args := #[s, x], argTypes := #[t, t] })
    (e : TypeId) (i : TypeInfo) (k : IntKind) (bytes : Nat) (ht : P.underlying t = some (.slice e)) (hi : P.info? e = some i) (hz : i.zero = some (.int k 0))
    (hsize : i.size = 1) (hby : i.bytes = bytes) (hb8 : bytes ≤ 8)
    {B : Nat} {v : Value} {zs ds : List Int} {sp : Option Addr} {m c : Nat} (hs : a.eval s = v) (hO : OutR 1 (encK k) e w B v zs) (hB : B ≤ w.heap.size) (hS : IsK k w sp m c ds)
    (hx : a.eval x = .slice sp m c) (hlen : zs.length + m ≤ 1099511627776)
    (h : ∀ v' w', OutR 1 (encK k) e w' B v' (zs ++ ds) → Touch (fun b => v.ownBlock = some b) w w' → Below B w w' → (∀ g, v'.ownBlock = some g → v.ownBlock = some g ∨ w.heap.size ≤ g) → wpList P ops Q rest (a.put o.dst v') w') :
    wpList P ops Q (o :: rest) a w := by
  have hal := hS.hlen
  refine wpList_append_slice _ hgd s x t ho e i (.int k 0) 1 bytes ht hi hz hsize hby rfl (by decide) v zs.length (flat (encK k) zs) hs hO.row sp m c (flat (encK k) ds) hx ?_ ?_ ?_ (flat_one (encK_one k) _) ?_ ?_ ?_
  · rw [flat_length (encK_len k), hal]
  · intro hn; exact ⟨by have := hS.hle; have := hS.hnone hn; omega, hS.hnone hn⟩
  · intro a ha
    subst ha
    exact slNews (encK_len k) hS
  · unfold maxLen; omega
  · have := Nat.mul_le_mul (Nat.le_refl (zs.length + m)) hb8; omega
  · intro v1 w1 hr1 hg1 hn1
    rw [hal] at hr1
    obtain ⟨h1, h2, h3, h4⟩ := hO.grow (ys := ds) (Below.refl _ _) hB hr1 hg1 hn1
    exact h v1 w1 h1 h2 h3 h4
theorem lit_wf {p : List Nat} {n : Nat} (h : ∀ x ∈ p, x < n) (hn : n ≤ 1000000) : ∀ x ∈ ns p, (Lit.int .u64 x).wf = true := fun x hx => by
  simp only [ns, List.mem_map] at hx
  obtain ⟨y, hy, rfl⟩ := hx
  have := h y hy
  have e : (Lit.int .u64 (y : Int)).wf = (decide ((0 : Int) ≤ y) && decide ((y : Int) ≤ 18446744073709551615)) := rfl
  rw [e]; simp; omega
theorem nat_ns (p : List Nat) : nat (ns p) = p := by
  unfold nat ns
  rw [List.map_map]
  conv => rhs; rw [← List.map_id p]
  apply List.map_congr_left
  intro x _
  rfl
def BackLoop (w : World) (n : Nat) (vi : Value) (wr : World) : Prop := ∃ k : Nat, k ≤ n - 1 ∧ vi = .int .i64 k ∧ Below w.heap.size w wr
set_option maxRecDepth 100000 in
set_option maxHeartbeats 4000000 in
theorem back_law (s : Int) (aa : Option Addr) (la ca : Nat) (ds : List Int) (w : World) (ht : Tab w) (hs : (Lit.int .u8 s).wf = true) (h : IsInts .u64 w aa la ca ds) :
    Calls Tryd.prog 5 #[.int .u8 s, .slice aa la ca] w fun e w' => e = .returned (.bool true) ∧ Below w.heap.size w w' := by
  have HT := Lib.hid ht
  have hb' := bounds_u8 hs
  obtain ⟨s, rfl⟩ := Int.eq_ofNat_of_zero_le hb'.1
  have hs2 : s < 256 := by have := hb'.2; omega
  have DN := Lib.hid (drawn_any hs2 h)
  have hac := h.sl.hle; have ham := h.sl.hmax
  unfold maxLen at ham
  obtain ⟨hp, hl⟩ := dp_ok s ds
  have hm := Nat.mod_lt s (show 0 < 101 by decide)
  have CK := Lib.hid (fun w a c (h : IsK .i64 w a (s % 101) c (ns (dp s ds))) => pcheck h)
  rw [chk_yes (okP_ns hp (by omega))] at CK
  have hdl := drs_len (dp s ds) (s % 101 - 1)
  have PD : Hid (∀ w a c, IsK .i64 w a (s % 101) c (ns (dp s ds)) → Calls Tryd.prog 22 #[.slice a (s % 101) c] w (LN .u64 (ns (drs (dp s ds) (s % 101 - 1))) (s % 101 - 1) 0 w)) := Lib.hid (fun w a c h => by
    have := pdrs_ok hp (by omega) h
    rw [hl] at this
    refine this.mono ?_
    rintro e w' ⟨v, he, ho, hb⟩
    exact LN.out he ho hdl hb)
  have hDget : ∀ i, i < s % 101 - 1 → (ns (drs (dp s ds) (s % 101 - 1))).getD i 0 = (((nat ds).getD i 0 % (s % 101 - i) : Nat) : Int) := fun i hi => by
    rw [ns_get]; unfold dp; rw [draws_draw hi]
  have hlt : ∀ x ∈ drs (dp s ds) (s % 101 - 1), x < 101 := fun x hx => by
    obtain ⟨i, hi, rfl⟩ := List.mem_iff_getElem.1 hx
    rw [← gD hi]
    rw [hdl] at hi
    have := hDget i hi
    rw [ns_get] at this
    have h2 := Nat.mod_lt ((nat ds).getD i 0) (show 0 < s % 101 - i by omega)
    omega
  have hback : drw (s % 101) (drs (dp s ds) (s % 101 - 1)) (s % 101 - 1) = dp s ds := by
    have := draw_draws hp
    rwa [hl] at this
  have DR : Hid (∀ w a c, IsK .u64 w a (s % 101 - 1) c (ns (drs (dp s ds) (s % 101 - 1))) → Calls Tryd.prog 15 #[.int .i64 ((s % 101 : Nat) : Int), .slice a (s % 101 - 1) c] w (LN .i64 (ns (dp s ds)) (s % 101) 0 w)) := Lib.hid (fun w a c h => by
    have := draw_n (n := s % 101) (by omega) ⟨h, lit_wf hlt (by omega)⟩ (by omega)
    rw [nat_ns, hback] at this
    exact this)
  have HD := Lib.hid hDget
  have HDL : Hid ((ns (drs (dp s ds) (s % 101 - 1))).length = s % 101 - 1) := Lib.hid (by rw [ns_len, hdl])
  have H := Lib.hid h.sl; have HW := Lib.hid h.wf; have HAL := Lib.hid h.sl.hlen
  unfold DnPost at DN
  have hnot : ∀ (x : Bool) (w : World), (Op.unary .not (.bool x)).run Tryd.prog w = .ok (.bool (!x)) w := fun _ _ => rfl
  clear h ht hs hp hl hdl hDget hlt hback hb'
  generalize ns (dp s ds) = zp at *
  generalize ns (drs (dp s ds) (s % 101 - 1)) = zd at *
  generalize s % 101 = n at *
  go_enter Tryd.func5, Tryd.ntmps5
  go_wp2_with fail
  refine (DN.out).mono ?_; rintro e w1 ⟨ap, cp, rfl, hs, hb⟩
  have B := Lib.hid hb
  have Sp := Lib.hid hs
  have hxp := hs.hle; have hyp := hs.hmax; unfold maxLen at hyp
  clear hs hb
  go_wp2_with fail
  refine (CK.out _ _ _ Sp.out).mono ?_; rintro e w2 ⟨rfl, hb⟩
  have Sp_ := Lib.hid (Sp.out.below hb); clear Sp; have Sp := Sp_; clear Sp_
  have B_ := Lib.hid (B.out.trans (hb.mono B.out.size)); clear B; have B := B_; clear B_
  clear hb
  go_wp2_with fail
  refine (PD.out _ _ _ Sp.out).mono ?_; rintro e w3 ⟨ad, cd, rfl, hs, hb⟩
  have Sp_ := Lib.hid (Sp.out.below hb); clear Sp; have Sp := Sp_; clear Sp_
  have B_ := Lib.hid (B.out.trans (hb.mono B.out.size)); clear B; have B := B_; clear B_
  have Sd := Lib.hid hs
  have hxd := hs.hle; have hyd := hs.hmax; unfold maxLen at hyd
  clear hs hb
  have hif : (if (1 : Int) < (n : Int) then (n : Int) - 1 else 0) = ((n - 1 : Nat) : Int) := by split <;> omega
  go_wp2_with fail
  clear hif
  go_loopw [9, 10, 11] (fun vi _ _ wr => BackLoop w3 n vi wr) (fun vi _ _ _ => n - (intOf vi).toNat)
  case atStart => exact ⟨0, Nat.zero_le _, rfl, Below.refl _ _⟩
  case round =>
    obtain ⟨k, hk, rfl, hbl⟩ := hrel
    have BL := Lib.hid hbl; clear hbl
    by_cases hlt : k < n - 1
    · have hkz : k < zd.length := by have := HDL.out; omega
      obtain ⟨b, off, rfl, _, _⟩ := Sd.out.at_ (by intro h; rw [h] at hkz; simp at hkz)
      have x0 := (Sd.out.below BL.out).cellK hkz
      rw [HD.out k hlt] at x0
      by_cases hka : k < la
      · have hkd : k < ds.length := by have := HAL.out; omega
        obtain ⟨b2, off2, rfl, _, _⟩ := H.out.at_ (by intro h; rw [h] at hkd; simp at hkd)
        have y0 := (H.out.below (B.out.trans (BL.out.mono B.out.size))).cellK hkd
        have hyw := bounds_u64 (HW.out _ (show ds.getD k 0 ∈ ds by simp [hkd]))
        have hy := nat_get hkd
        generalize ds.getD k 0 = y at *
        obtain ⟨y, rfl⟩ := Int.eq_ofNat_of_zero_le hyw.1
        rw [hy, Int.toNat_natCast] at x0
        have hr1 : (y : Int) % ((n : Int) - (k : Int)) = ((y % (n - k) : Nat) : Int) := by
          rw [show (n : Int) - (k : Int) = ((n - k : Nat) : Int) by omega]; rfl
        clear hy
        generalize y % (n - k) = r at *
        go_wp2_with fail
        go_roundw
        case rel => exact ⟨k + 1, by omega, by go_num, BL.out⟩
        case measure => simp [intOf]; omega
      · have hz : (nat ds).getD k 0 = 0 := by simp [nat, show ds.length ≤ k by have := HAL.out; omega]
        rw [hz, Nat.zero_mod] at x0
        clear hz
        go_wp2_with fail
        go_roundw
        case rel => exact ⟨k + 1, by omega, by go_num, BL.out⟩
        case measure => simp [intOf]; omega
    · have B4 := Lib.hid (B.out.trans (BL.out.mono B.out.size))
      have P4 := Lib.hid (Sp.out.below BL.out)
      go_wp2_with fail
      refine (DR.out _ _ _ (Sd.out.below BL.out)).mono ?_; rintro e w5 ⟨a5, c5, rfl, hs5, hb⟩
      have P5 := Lib.hid (P4.out.below hb); have Q5 := Lib.hid hs5; have B5 := Lib.hid (B4.out.trans (hb.mono B4.out.size))
      clear hs5 hb
      go_wp2_with fail
      refine (same_yes P5.out Q5.out).mono ?_; rintro e w6 ⟨rfl, hb⟩
      have B6 := Lib.hid (B5.out.trans (hb.mono B5.out.size))
      clear hb
      go_wp2_with fail
      refine (works_any (HT.out.below B6.out)).mono ?_; rintro e w9 ⟨rfl, hb⟩
      have B9 := Lib.hid (B6.out.trans (hb.mono B6.out.size))
      clear hb
      go_wp2_with fail
      go_ret
      exact ⟨rfl, B9.out⟩
end Go.Proofs.YtejleobpohpdpaaDoor

/- CodecPutsAll: the walk. -/
import Derived.Test.YthnoihdojinocaaZx
namespace Go.Proofs.Ythnoihdojinocaa
open Go.ChangeShapes Go.WideShapes Go.ChangeAt Go.RowKit
set_option linter.unusedVariables false
set_option linter.unusedSimpArgs false

def fs0 (l : List Cm) : List Nat := if chks l = 0 then frms l else []
def PaS (w : World) (l : List Cm) (e : Ending) (w' : World) : Prop := ∃ a n cp, e = .returned (.tuple #[.slice a n cp, .int .i64 (chks l)]) ∧ IsK .u8 w' a n cp (ns (fs0 l)) ∧ Below w.heap.size w w' ∧ (chks l ≠ 0 → n = 0)
theorem pa_sl {w w' : World} {l : List Cm} {e : Ending} (h : PaR w l e w') : PaS w l e w' := by
  obtain ⟨v, rfl, hb, h1, h2⟩ := h
  by_cases hk : chks l = 0
  · obtain ⟨a, cp, rfl, hs⟩ := (h1 hk).sl
    exact ⟨a, _, cp, rfl, by unfold fs0; rw [if_pos hk]; exact hs, hb, fun h => absurd hk h⟩
  · rw [h2 hk]
    exact ⟨none, 0, 0, rfl, by unfold fs0; rw [if_neg hk]; exact IsSl.nil _, hb, fun _ => rfl⟩
theorem encF_small {c : Cm} (hc : c.ok) (hd : c.d.length ≤ 100) (hb : c.b.length ≤ 100) (f : Fd) : (encF c f).length ≤ 1010 := by
  cases f
  · have := vi_len hc.u; simp only [encF]; omega
  · have := vi_len hc.v; simp only [encF]; omega
  · have := vi_len (fold_lt hc.w); simp only [encF, vf]; omega
  · have := vi_len (fold_lt hc.t); simp only [encF, vf]; omega
  · have h1 := flat_le (g := vi) c.d (fun x hx => vi_len (hc.d x hx))
    have h2 := vi_len (x := c.d.length) (by omega)
    simp only [encF, encL, List.length_append]; omega
  · have h1 := flat_le (g := vf) c.b (fun x hx => vi_len (fold_lt (hc.b x hx)))
    have h2 := vi_len (x := c.b.length) (by omega)
    simp only [encF, encL, List.length_append]; omega
theorem frm_small {c : Cm} (hc : c.ok) (hd : c.d.length ≤ 100) (hb : c.b.length ≤ 100) : (frm c).length ≤ 5000 := by
  unfold frm
  cases hu : uses c.op with
  | none => simp
  | some fs =>
    have h := encF_small hc hd hb
    have h1 := h .u; have h2 := h .v; have h3 := h .w; have h4 := h .t; have h5 := h .d; have h6 := h .b
    have hp : (pay c fs).length ≤ 4041 := by
      rcases (uses_some hu).2 with rfl | rfl | rfl | rfl | rfl | rfl | rfl | rfl | rfl <;> simp [pay] <;> omega
    have hv := vi_len (x := (pay c fs).length) (by omega)
    show (vi (pay c fs).length ++ pay c fs).length ≤ 5000
    rw [List.length_append]; omega
theorem frms_small : ∀ {l : List Cm}, (∀ c ∈ l, (frm c).length ≤ 5000) → (frms l).length ≤ 5000 * l.length
  | [], _ => by simp [frms]
  | c :: l, h => by
    have h1 := frms_small (fun x hx => h x (List.mem_cons_of_mem _ hx))
    have h2 := h c (by simp)
    rw [frms_cons, List.length_append, List.length_cons]; omega
/-- The lists of the commands up to i are short. -/
def LoRel (w : World) (zs : List RV) (n : Nat) (v3 : Value) (wr : World) : Prop := ∃ i : Nat, i ≤ n ∧ v3 = .int .i64 (i : Int) ∧ w = wr ∧ ∀ j (h : j < zs.length), j < i → zs[j].c.d.length ≤ 100 ∧ zs[j].c.b.length ≤ 100
set_option maxRecDepth 100000 in
set_option maxHeartbeats 16000000 in
theorem putsall_law (a : Option Addr) (n cap : Nat) (zs : List RV) (w : World) (h : Cms w a n cap zs) :
    Calls Try.prog 11 #[.slice a n cap] w fun e w' => e = .returned (.bool true) ∧ Below w.heap.size w w' := by
  have hn := h.sl.hlen
  have hle := h.sl.hle; have hmx := h.sl.hmax
  unfold maxLen at hmx
  have H := Lib.hid h; have HN := Lib.hid hn
  have W := Lib.hid (works_any w)
  clear h hn
  by_cases hl : 40 < n
  · have e1 : decide ((40 : Int) < (n : Int)) = true := by simp; omega
    have e2 : decide (40 < n) = true := by simp; omega
    go_enter Try.func11, Try.ntmps11
    go_wp2_with fail
    refine (W.out).mono ?_; rintro e w1 ⟨rfl, hb⟩
    have B := Lib.hid hb
    clear hb
    go_wp2_with fail
    go_ret
    exact ⟨rfl, B.out⟩
  · have e1 : decide ((40 : Int) < (n : Int)) = false := by simp; omega
    have e2 : decide (40 < n) = false := by simp; omega
    go_enter Try.func11, Try.ntmps11
    go_wp2_with fail
    go_loopw [3] (fun v3 wr => LoRel w zs n v3 wr) (fun v3 _ => n - (intOf v3).toNat)
    case atStart => exact ⟨0, Nat.zero_le _, rfl, rfl, fun j _ hj => absurd hj (by omega)⟩
    case round =>
      obtain ⟨i, hin, rfl, rfl, hsm⟩ := hrel
      have SM := Lib.hid hsm
      clear hsm
      by_cases hlt : i < n
      · have h1 : i < zs.length := by have := HN.out; omega
        obtain ⟨b, off, rfl, -, -⟩ := H.out.sl.at_ (by intro e; rw [e] at h1; simp at h1)
        obtain ⟨-, -, -, -, -, x5, x6⟩ := cell7 H.out.sl h1
        have NX : Hid ((zs[i].c.d.length ≤ 100 ∧ zs[i].c.b.length ≤ 100) → ∀ j (h : j < zs.length), j < i + 1 → zs[j].c.d.length ≤ 100 ∧ zs[j].c.b.length ≤ 100) := Lib.hid (fun hh j hj hji => by
          rcases Nat.lt_or_ge j i with h | h
          · exact SM.out j hj h
          · obtain rfl : j = i := by omega
            exact hh)
        generalize zs[i].c.d.length = dl at *
        generalize zs[i].c.b.length = bl at *
        generalize zs[i] = r at *
        obtain ⟨c, ad, cd, ab, cb⟩ := r
        simp only at x5 x6
        clear h1
        by_cases hd : 100 < dl
        · have f1 : decide ((100 : Int) < (dl : Int)) = true := by simp; omega
          have f2 : decide (100 < dl) = true := by simp; omega
          go_wp2_with fail
          refine (W.out).mono ?_; rintro e w1 ⟨rfl, hb⟩
          have B := Lib.hid hb
          clear hb
          go_wp2_with fail
          go_ret
          exact ⟨rfl, B.out⟩
        · have f1 : decide ((100 : Int) < (dl : Int)) = false := by simp; omega
          have f2 : decide (100 < dl) = false := by simp; omega
          by_cases hb : 100 < bl
          · have f3 : decide ((100 : Int) < (bl : Int)) = true := by simp; omega
            have f4 : decide (100 < bl) = true := by simp; omega
            go_wp2_with fail
            refine (W.out).mono ?_; rintro e w1 ⟨rfl, hb⟩
            have B := Lib.hid hb
            clear hb
            go_wp2_with fail
            go_ret
            exact ⟨rfl, B.out⟩
          · have f3 : decide ((100 : Int) < (bl : Int)) = false := by simp; omega
            have f4 : decide (100 < bl) = false := by simp; omega
            have NX2 := Lib.hid (NX.out ⟨by omega, by omega⟩)
            go_wp2_with fail
            go_roundw
            case rel => exact ⟨i + 1, hlt, by go_num, rfl, NX2.out⟩
            case measure => simp [intOf]; omega
      · have hall : ∀ r ∈ zs, r.c.d.length ≤ 100 ∧ r.c.b.length ≤ 100 := fun r hr => by
          obtain ⟨j, hj, rfl⟩ := List.getElem_of_mem hr
          exact SM.out j hj (by have := HN.out; omega)
        have hfr : ∀ r ∈ zs, (frm r.c).length ≤ 5000 := fun r hr => frm_small (H.out.ok r hr) (hall r hr).1 (hall r hr).2
        have hfs : ∀ i, (frms ((cs zs).take i)).length ≤ 2000000 := fun i => by
          have h1 := frms_small (l := (cs zs).take i) (fun c hc => by
            obtain ⟨r, hr, rfl⟩ := List.mem_map.1 (List.mem_of_mem_take hc)
            exact hfr r hr)
          have h2 : ((cs zs).take i).length ≤ zs.length := by unfold cs; simp; omega
          have h3 := HN.out
          omega
        have hdd : ∀ r ∈ zs, r.c.d.length ≤ 1000000 ∧ r.c.b.length ≤ 1000000 := fun r hr => by have := hall r hr; omega
        have hff : ∀ r ∈ zs, (frm r.c).length ≤ 2000000 := fun r hr => by have := hfr r hr; omega
        have P1 := Lib.hid (fun w' (hb : Below w.heap.size w w') => (pputall (H.out.below hb) hdd hfs hff).mono (fun e w'' h => pa_sl h))
        have P2 := Lib.hid (fun w' (hb : Below w.heap.size w w') => (rputall (H.out.below hb) hdd hfs hff).mono (fun e w'' h => pa_sl h))
        unfold PaS at P1 P2
        generalize fs0 (cs zs) = fr at *
        generalize chks (cs zs) = ck at *
        clear hall hfr hfs hdd hff W SM
        go_wp2_with fail
        refine (P1.out _ (Below.refl _ _)).mono ?_; rintro e w2 ⟨a2, n2, c2, rfl, hs2, hb2, -⟩
        have S2 := Lib.hid hs2; have B2 := Lib.hid hb2
        have P2b := Lib.hid (P2.out _ hb2)
        clear hs2 hb2 P1 P2
        go_wp2_with fail
        refine (P2b.out).mono ?_; rintro e w3 ⟨a3, n3, c3, rfl, hs3, hb3, -⟩
        have B3 := Lib.hid (B2.out.trans (hb3.mono B2.out.size))
        have Q := Lib.hid (bytes_yes (S2.out.below hb3) hs3)
        clear hs3 hb3 P2b
        go_wp2_with fail
        refine (Q.out).mono ?_; rintro e w4 ⟨rfl, hb4⟩
        have B4 := Lib.hid (B3.out.trans (hb4.mono B3.out.size))
        have W2 := Lib.hid (works_any w4)
        clear hb4 Q
        go_wp2_with fail
        refine (W2.out).mono ?_; rintro e w5 ⟨rfl, hb5⟩
        have B5 := Lib.hid (B4.out.trans (hb5.mono B4.out.size))
        clear hb5 W2
        go_wp2_with fail
        go_ret
        exact ⟨rfl, B5.out⟩
theorem openArg0 {H : Type} {enc : TypeId × Value → H} {W : World} {a : Option Addr} {len cap : Nat} {d : DataW H} {p : List MemPlace}
    (h : DataW.Trod enc Try.prog W 0 (fun _ => true) true 49 (.slice a len cap) d p) : ∃ zs, Cms W a len cap zs := openCmds h
theorem openArg1 {H : Type} {enc : TypeId × Value → H} {W : World} {a : Option Addr} {len cap : Nat} {d : DataW H} {p : List MemPlace}
    (h : DataW.Trod enc Try.prog W 0 (fun _ => true) true 49 (.slice a len cap) d p) : ∃ zs, Cms W a len cap zs := openCmds h
end Go.Proofs.Ythnoihdojinocaa

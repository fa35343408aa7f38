/- Equal lists of commands are found equal. -/
import Derived.Test.YthnoihdojinocaaZv
import Derived.StillTailTactics
namespace Go.Proofs.Ythnoihdojinocaa
open Go.ChangeShapes Go.WideShapes Go.ChangeAt Go.RowKit
set_option linter.unusedVariables false
set_option linter.unusedSimpArgs false

theorem cell7 {w : World} {b off n cap : Nat} {zs : List RV} (h : IsSl 7 enc7 w (some ⟨b, off, none⟩) n cap zs) {i : Nat} (hi : i < zs.length) :
    w.cell? ⟨b, off + i * 7, none⟩ = some (.int .i64 zs[i].c.op) ∧ w.cell? ⟨b, off + i * 7 + 1, none⟩ = some (.int .u64 zs[i].c.u) ∧ w.cell? ⟨b, off + i * 7 + 2, none⟩ = some (.int .u64 zs[i].c.v) ∧ w.cell? ⟨b, off + i * 7 + 3, none⟩ = some (.int .i64 zs[i].c.w) ∧
      w.cell? ⟨b, off + i * 7 + 4, none⟩ = some (.int .i64 zs[i].c.t) ∧ w.cell? ⟨b, off + i * 7 + 5, none⟩ = some (.slice zs[i].ad zs[i].c.d.length zs[i].cd) ∧ w.cell? ⟨b, off + i * 7 + 6, none⟩ = some (.slice zs[i].ab zs[i].c.b.length zs[i].cb) := by
  obtain ⟨b', off', e, _, hc⟩ := h.at_ (fun e => by rw [e] at hi; simp at hi)
  cases e
  exact ⟨hc i hi 0 (by omega), hc i hi 1 (by omega), hc i hi 2 (by omega), hc i hi 3 (by omega), hc i hi 4 (by omega), hc i hi 5 (by omega), hc i hi 6 (by omega)⟩
set_option maxRecDepth 100000 in
set_option maxHeartbeats 8000000 in
theorem cmds_yes {w : World} {a a' : Option Addr} {n n' cap cap' : Nat} {zs zs' : List RV} (h : Cms w a n cap zs) (h' : Cms w a' n' cap' zs') (he : zs.map RV.c = zs'.map RV.c) :
    Calls Try.prog 36 #[.slice a n cap, .slice a' n' cap'] w fun e w' => e = .returned (.bool true) ∧ Below w.heap.size w w' := by
  have hn := h.sl.hlen; have hn' := h'.sl.hlen
  have hll : zs.length = zs'.length := by have := congrArg List.length he; simpa using this
  obtain rfl : n = n' := by omega
  have hle := h.sl.hle; have hmx := h.sl.hmax; have hle' := h'.sl.hle
  unfold maxLen at hmx
  have H := Lib.hid h; have H' := Lib.hid h'
  have HN := Lib.hid hn; have HL := Lib.hid hll
  have HE : Hid (∀ i (h1 : i < zs.length) (h2 : i < zs'.length), zs[i].c = zs'[i].c) := Lib.hid (fun i h1 h2 => by
    have h3 : (zs.map RV.c)[i]? = (zs'.map RV.c)[i]? := by rw [he]
    simpa [h1, h2] using h3)
  clear h h' he hn hn' hll
  go_enter Try.func36, Try.ntmps36
  go_wp2_with fail
  go_loopw [5] (fun v5 wr => EqRel w n v5 wr) (fun v5 _ => n - (intOf v5).toNat)
  case atStart => exact ⟨0, Nat.zero_le _, rfl, Below.refl _ _⟩
  case round =>
    obtain ⟨i, hi, rfl, hb⟩ := hrel
    have B := Lib.hid hb
    clear hb
    by_cases hlt : i < n
    · have h1 : i < zs.length := by have := HN.out; omega
      have h2 : i < zs'.length := by have := HL.out; omega
      obtain ⟨b, off, rfl, -, -⟩ := H.out.sl.at_ (by intro e; rw [e] at h1; simp at h1)
      obtain ⟨b', off', rfl, -, -⟩ := H'.out.sl.at_ (by intro e; rw [e] at h2; simp at h2)
      have e := HE.out i h1 h2
      obtain ⟨x0, x1, x2, x3, x4, x5, x6⟩ := cell7 (H.out.sl.below B.out) h1
      obtain ⟨y0, y1, y2, y3, y4, y5, y6⟩ := cell7 (H'.out.sl.below B.out) h2
      have l1 := (H.out.ls zs[i] (List.getElem_mem h1)).keep B.out
      have l2 := (H'.out.ls zs'[i] (List.getElem_mem h2)).keep B.out
      generalize zs[i] = r at *
      generalize zs'[i] = r' at *
      obtain ⟨c, ad, cd, ab, cb⟩ := r
      obtain ⟨c', ad', cd', ab', cb'⟩ := r'
      simp only at e
      subst e
      have C := Lib.hid (cmd_yes (l1.keep (Below.drew (Below.refl _ _))) (l2.keep (Below.drew (Below.refl _ _))))
      simp only at x0 x1 x2 x3 x4 x5 x6 y0 y1 y2 y3 y4 y5 y6
      unfold cmV at C
      have hnot : ∀ (x : Bool) (w : World), (Op.unary .not (.bool x)).run Try.prog w = .ok (.bool (!x)) w := fun _ _ => rfl
      clear l1 l2 h1 h2
      go_wp2_with fail
      go_still_tail 8, (by kernel_rfl)
      go_wp2_with fail
      refine (C.out).mono ?_; rintro e w5 ⟨rfl, hb5⟩
      have B5 := Lib.hid ((Below.drew B.out).trans (hb5.mono B.out.size))
      clear hb5 C x0 x1 x2 x3 x4 x5 x6 y0 y1 y2 y3 y4 y5 y6
      go_wp2_with fail
      go_roundw
      case rel => exact ⟨i + 1, hlt, by go_num, B5.out⟩
      case measure => simp [intOf]; omega
    · go_wp2_with fail
      go_ret
      exact ⟨rfl, B.out⟩
end Go.Proofs.Ythnoihdojinocaa

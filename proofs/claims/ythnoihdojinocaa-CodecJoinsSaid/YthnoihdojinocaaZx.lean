/- Lists of commands are written, by both. -/
import Derived.Test.YthnoihdojinocaaZw
import Derived.Test.YthnoihdojinocaaZd
namespace Go.Proofs.Ythnoihdojinocaa
open Go.ChangeShapes Go.WideShapes Go.ChangeAt Go.RowKit
set_option linter.unusedVariables false
set_option linter.unusedSimpArgs false

def cs (zs : List RV) : List Cm := zs.map RV.c
def PaR (w : World) (l : List Cm) (e : Ending) (w' : World) : Prop :=
  ∃ v', e = .returned (.tuple #[v', .int .i64 (chks l)]) ∧ Below w.heap.size w w' ∧ (chks l = 0 → OutR 1 (encK .u8) 5 w' w.heap.size v' (ns (frms l))) ∧ (chks l ≠ 0 → v' = .slice none 0 0)
/-- The frames so far. -/
structure Pa (w : World) (l : List Cm) (i : Nat) (v : Value) (wr : World) : Prop where
  out : OutR 1 (encK .u8) 5 wr w.heap.size v (ns (frms (l.take i)))
  below : Below w.heap.size w wr
  chk : chks (l.take i) = 0
def PaRel (w : World) (l : List Cm) (v4 vi : Value) (wr : World) : Prop := ∃ i : Nat, i ≤ l.length ∧ vi = .int .i64 (i : Int) ∧ Pa w l i v4 wr
theorem chks_step {l : List Cm} {i : Nat} (hi : i < l.length) (h : chks (l.take i) = 0) : chks (l.take (i + 1)) = chk l[i] := by
  rw [List.take_succ_eq_append_getElem hi, chks_app, if_pos h]
  show (if chk l[i] = 0 then chks [] else chk l[i]) = _
  by_cases hk : chk l[i] = 0
  · rw [if_pos hk, hk]; rfl
  · rw [if_neg hk]
theorem chks_bad {l : List Cm} {i : Nat} (hi : i < l.length) (h : chks (l.take i) = 0) (hk : chk l[i] ≠ 0) : chks l = chk l[i] := by
  have h1 := chks_step hi h
  have h2 := chks_app (l.take (i + 1)) (l.drop (i + 1))
  rw [List.take_append_drop, h1, if_neg hk] at h2
  exact h2
theorem frms_step {l : List Cm} {i : Nat} (hi : i < l.length) : frms (l.take (i + 1)) = frms (l.take i) ++ frm l[i] := by
  rw [List.take_succ_eq_append_getElem hi, frms_app]; simp [frms]
set_option maxRecDepth 100000 in
set_option maxHeartbeats 16000000 in
theorem pputall {w : World} {a : Option Addr} {n cap : Nat} {zs : List RV} (h : Cms w a n cap zs) (hd : ∀ r ∈ zs, r.c.d.length ≤ 1000000 ∧ r.c.b.length ≤ 1000000) (hl : ∀ i, (frms ((cs zs).take i)).length ≤ 2000000) (hf : ∀ r ∈ zs, (frm r.c).length ≤ 2000000) :
    Calls Try.prog 32 #[.slice a n cap] w (PaR w (cs zs)) := by
  obtain ⟨i0, hi, hz0, hz1, hz2⟩ := info_parts info5
  have hn := h.sl.hlen
  have hle := h.sl.hle; have hmx := h.sl.hmax
  unfold maxLen at hmx
  have H := Lib.hid h; have HD := Lib.hid hd; have HL := Lib.hid hl; have HF := Lib.hid hf
  have hcl : (cs zs).length = n := by unfold cs; rw [List.length_map]; omega
  have HCL := Lib.hid hcl
  have HCI : Hid (∀ i (h1 : i < zs.length) (h2 : i < (cs zs).length), (cs zs)[i] = zs[i].c) := Lib.hid (fun i h1 h2 => by simp [cs])
  have HZL : Hid (zs.length = n) := Lib.hid hn.symm
  clear h hd hl hf hn hcl
  generalize cs zs = l at *
  go_enter Try.func32, Try.ntmps32
  go_wp2_with fail
  go_loopw [4, 10] (fun v4 v10 wr => PaRel w l v4 v10 wr) (fun _ v10 _ => n - (intOf v10).toNat)
  case atStart => exact ⟨0, Nat.zero_le _, rfl, own_nil _ _, Below.refl _ _, rfl⟩
  case round =>
    obtain ⟨i, hin0, rfl, hp⟩ := hrel
    have P := Lib.hid hp
    have hin : i ≤ n := by rw [← HCL.out]; exact hin0
    clear hp hin0
    by_cases hlt : i < n
    · have h1 : i < zs.length := by have := HZL.out; omega
      have h2 : i < l.length := by have := HCL.out; omega
      obtain ⟨b, off, rfl, -, -⟩ := H.out.sl.at_ (by intro e; rw [e] at h1; simp at h1)
      have e := HCI.out i h1 h2
      obtain ⟨x0, x1, x2, x3, x4, x5, x6⟩ := cell7 (H.out.sl.below P.out.below) h1
      have l1 := (H.out.ls zs[i] (List.getElem_mem h1)).keep P.out.below
      have hok := H.out.ok zs[i] (List.getElem_mem h1)
      have hdd := HD.out zs[i] (List.getElem_mem h1)
      have hff := HF.out zs[i] (List.getElem_mem h1)
      have ST := Lib.hid (chks_step h2 P.out.chk)
      have SB := Lib.hid (fun hk => chks_bad h2 P.out.chk hk)
      have SF := Lib.hid (frms_step h2)
      rw [e] at ST SB SF
      generalize zs[i] = r at *
      obtain ⟨c, ad, cd, ab, cb⟩ := r
      simp only at x0 x1 x2 x3 x4 x5 x6
      have L1 : Hid (LsAt wr c ad cd ab cb) := Lib.hid l1
      have OK : Hid c.ok := Lib.hid hok
      have DD : Hid (c.d.length ≤ 1000000 ∧ c.b.length ≤ 1000000) := Lib.hid hdd
      have FF : Hid ((frm c).length ≤ 2000000) := Lib.hid hff
      have hll := HL.out i
      have HLL := Lib.hid hll
      clear l1 hok hdd hff e h1 hll
      have A2 := Lib.hid (Below.alloc (Below.refl wr.heap.size wr) (Nat.le_refl _) (.cells (cmV c (.slice ad c.d.length cd) (.slice ab c.b.length cb)) 27))
      have B2 := Lib.hid (P.out.below.trans (A2.out.mono P.out.below.size))
      have PF := Lib.hid (paf (P.out.out.below A2.out) B2.out.size (by have := HLL.out; omega) (L1.out.keep A2.out) OK.out DD.out.1 DD.out.2)
      unfold AfR at PF
      obtain ⟨ck, hck⟩ : ∃ ck, chk c = ck := ⟨_, rfl⟩
      rw [hck] at PF ST SB
      have HCK := Lib.hid hck
      clear hck
      unfold cmV at PF A2 B2
      go_wp2_with fail
      refine (PF.out).mono ?_; rintro e w3 ⟨v3, rfl, hb3, hy, hno⟩
      by_cases hk : ck = 0
      · subst hk
        have AP := Lib.hid (hy rfl)
        have PN : Hid (Pa w l (i + 1) v3 w3) := Lib.hid ⟨by rw [SF.out]; exact AP.out.out, B2.out.trans hb3, ST.out⟩
        clear hb3 hy hno PF x0 x1 x2 x3 x4 x5 x6
        go_wp2_with fail
        go_roundw
        case rel => exact ⟨i + 1, h2, by go_num, PN.out⟩
        case measure => simp [intOf]; omega
      · have f1 : (ck == 0) = false := by simpa using hk
        have f2 : (ck != 0) = true := by simpa using hk
        have B3 := Lib.hid (B2.out.trans hb3)
        have SBK := Lib.hid (SB.out hk)
        have HK := Lib.hid hk
        clear hb3 hy hno hk PF x0 x1 x2 x3 x4 x5 x6
        go_wp2_with fail
        go_ret2
        exact ⟨_, by rw [SBK.out]; rfl, B3.out, fun h => absurd (SBK.out.symm.trans h) HK.out, fun _ => rfl⟩
    · have PE : Hid (chks l = 0 ∧ OutR 1 (encK .u8) 5 wr w.heap.size _ (ns (frms l))) := Lib.hid (by
        have h1 := P.out.chk; have h2 := P.out.out
        rw [List.take_of_length_le (by have := HCL.out; omega)] at h1 h2
        exact ⟨h1, h2⟩)
      go_wp2_with fail
      go_ret2
      exact ⟨_, by rw [PE.out.1]; rfl, P.out.below, fun _ => PE.out.2, fun h => absurd PE.out.1 h⟩
set_option maxRecDepth 100000 in
set_option maxHeartbeats 16000000 in
theorem rputall {w : World} {a : Option Addr} {n cap : Nat} {zs : List RV} (h : Cms w a n cap zs) (hd : ∀ r ∈ zs, r.c.d.length ≤ 1000000 ∧ r.c.b.length ≤ 1000000) (hl : ∀ i, (frms ((cs zs).take i)).length ≤ 2000000) (hf : ∀ r ∈ zs, (frm r.c).length ≤ 2000000) :
    Calls Try.prog 33 #[.slice a n cap] w (PaR w (cs zs)) := by
  obtain ⟨i0, hi, hz0, hz1, hz2⟩ := info_parts info5
  have hn := h.sl.hlen
  have hle := h.sl.hle; have hmx := h.sl.hmax
  unfold maxLen at hmx
  have H := Lib.hid h; have HD := Lib.hid hd; have HL := Lib.hid hl; have HF := Lib.hid hf
  have hcl : (cs zs).length = n := by unfold cs; rw [List.length_map]; omega
  have HCL := Lib.hid hcl
  have HCI : Hid (∀ i (h1 : i < zs.length) (h2 : i < (cs zs).length), (cs zs)[i] = zs[i].c) := Lib.hid (fun i h1 h2 => by simp [cs])
  have HZL : Hid (zs.length = n) := Lib.hid hn.symm
  clear h hd hl hf hn hcl
  generalize cs zs = l at *
  go_enter Try.func33, Try.ntmps33
  go_wp2_with fail
  go_loopw [4, 5] (fun v4 v5 wr => PaRel w l v4 v5 wr) (fun _ v5 _ => n - (intOf v5).toNat)
  case atStart => exact ⟨0, Nat.zero_le _, rfl, own_nil _ _, Below.refl _ _, rfl⟩
  case round =>
    obtain ⟨i, hin0, rfl, hp⟩ := hrel
    have P := Lib.hid hp
    have hin : i ≤ n := by rw [← HCL.out]; exact hin0
    clear hp hin0
    by_cases hlt : i < n
    · have h1 : i < zs.length := by have := HZL.out; omega
      have h2 : i < l.length := by have := HCL.out; omega
      obtain ⟨b, off, rfl, -, -⟩ := H.out.sl.at_ (by intro e; rw [e] at h1; simp at h1)
      have e := HCI.out i h1 h2
      obtain ⟨x0, x1, x2, x3, x4, x5, x6⟩ := cell7 (H.out.sl.below P.out.below) h1
      have l1 := (H.out.ls zs[i] (List.getElem_mem h1)).keep P.out.below
      have hok := H.out.ok zs[i] (List.getElem_mem h1)
      have hdd := HD.out zs[i] (List.getElem_mem h1)
      have hff := HF.out zs[i] (List.getElem_mem h1)
      have ST := Lib.hid (chks_step h2 P.out.chk)
      have SB := Lib.hid (fun hk => chks_bad h2 P.out.chk hk)
      have SF := Lib.hid (frms_step h2)
      rw [e] at ST SB SF
      generalize zs[i] = r at *
      obtain ⟨c, ad, cd, ab, cb⟩ := r
      simp only at x0 x1 x2 x3 x4 x5 x6
      have L1 : Hid (LsAt wr c ad cd ab cb) := Lib.hid l1
      have OK : Hid c.ok := Lib.hid hok
      have DD : Hid (c.d.length ≤ 1000000 ∧ c.b.length ≤ 1000000) := Lib.hid hdd
      have FF : Hid ((frm c).length ≤ 2000000) := Lib.hid hff
      have hll := HL.out i
      have HLL := Lib.hid hll
      clear l1 hok hdd hff e h1 hll
      have PF := Lib.hid (rput L1.out OK.out DD.out.1 DD.out.2)
      unfold PutR at PF
      obtain ⟨ck, hck⟩ : ∃ ck, chk c = ck := ⟨_, rfl⟩
      rw [hck] at PF ST SB
      have HCK := Lib.hid hck
      clear hck
      unfold cmV at PF
      go_wp2_with fail
      refine (PF.out).mono ?_; rintro e w3 ⟨v3, rfl, hb3, hy, hno⟩
      by_cases hk : ck = 0
      · subst hk
        have hO := hy rfl
        obtain ⟨a3, c3, rfl, hS3⟩ := hO.sl
        have S3 := Lib.hid hS3
        have O3 := Lib.hid (P.out.out.below hb3)
        have B3 := Lib.hid (P.out.below.trans (hb3.mono P.out.below.size))
        have hB3 := B3.out.size
        rw [ns_len] at S3 ⊢
        generalize hfl : (frm c).length = fl at *
        obtain ⟨a4, l4, c4, hv4⟩ : ∃ a l c, u4 = .slice a l c := by obtain ⟨a, c, e⟩ := own_shape P.out.out.row; exact ⟨a, _, c, e⟩
        subst hv4
        clear hb3 hy hno hO hS3 PF hfl x0 x1 x2 x3 x4 x5 x6
        go_wp2_with (at_builtin; refine wpList_appS rfl (.tmp 25) (.tmp 26) 29 rfl 5 i0 .u8 1 Try.underlying29 hi hz0 hz1 hz2 (by decide) rfl O3.out hB3 S3.out rfl (by have := HLL.out; have := FF.out; rw [ns_len]; omega) ?_)
        intro v5 w5 g1 g2 g3 g4
        have PN : Hid (Pa w l (i + 1) v5 w5) := Lib.hid ⟨by rw [SF.out, ns_cat]; exact g1, B3.out.trans g3, ST.out⟩
        clear g1 g2 g3 g4
        go_wp2_with fail
        go_roundw
        case rel => exact ⟨i + 1, h2, by go_num, PN.out⟩
        case measure => simp [intOf]; omega
      · have f1 : (ck == 0) = false := by simpa using hk
        have f2 : (ck != 0) = true := by simpa using hk
        have B3 := Lib.hid (P.out.below.trans (hb3.mono P.out.below.size))
        have SBK := Lib.hid (SB.out hk)
        have HK := Lib.hid hk
        clear hb3 hy hno hk PF x0 x1 x2 x3 x4 x5 x6
        go_wp2_with fail
        go_ret2
        exact ⟨_, by rw [SBK.out]; rfl, B3.out, fun h => absurd (SBK.out.symm.trans h) HK.out, fun _ => rfl⟩
    · have PE : Hid (chks l = 0 ∧ OutR 1 (encK .u8) 5 wr w.heap.size _ (ns (frms l))) := Lib.hid (by
        have h1 := P.out.chk; have h2 := P.out.out
        rw [List.take_of_length_le (by have := HCL.out; omega)] at h1 h2
        exact ⟨h1, h2⟩)
      go_wp2_with fail
      go_ret2
      exact ⟨_, by rw [PE.out.1]; rfl, P.out.below, fun _ => PE.out.2, fun h => absurd PE.out.1 h⟩
end Go.Proofs.Ythnoihdojinocaa

/- The document's command. -/
import Derived.Test.YthnoihdojinocaaZh
import Derived.Deep.RegionHeld3
namespace Go.Proofs.Ythnoihdojinocaa
open Go.ChangeShapes Go.WideShapes Go.ChangeAt Go.RowKit
set_option linter.unusedVariables false
set_option linter.unusedSimpArgs false

def RcR (w : World) (o : Option Cm) (e : Ending) (w' : World) : Prop :=
  ∃ (c' : Cm) (ad : Option Addr) (cd : Nat) (ab : Option Addr) (cb : Nat) (ok : Bool), e = .returned (.tuple #[.agg (cmV c' (.slice ad c'.d.length cd) (.slice ab c'.b.length cb)), .bool ok]) ∧ LsAt w' c' ad cd ab cb ∧ Below w.heap.size w w' ∧ (∀ y, ad = some y → w.heap.size ≤ y.block) ∧ (∀ y, ab = some y → w.heap.size ≤ y.block) ∧
    (match o with | some c => ok = true ∧ c' = c | none => ok = false)
theorem rcr_nil {w w' : World} (h : Below w.heap.size w w') : RcR w none (.returned (.tuple #[.agg #[.int .i64 0, .int .u64 0, .int .u64 0, .int .i64 0, .int .i64 0, .slice none 0 0, .slice none 0 0], .bool false])) w' :=
  ⟨nul 0, none, 0, none, 0, false, rfl, ⟨IsSl.nil _, IsSl.nil _⟩, h, fun y h => (by cases h), fun y h => (by cases h), rfl⟩
set_option maxRecDepth 100000 in
set_option maxHeartbeats 8000000 in
theorem rcommand_nil {w : World} {a : Option Addr} {n c : Nat} (h : IsK .u8 w a n c (ns [])) : Calls Try.prog 44 #[.slice a n c] w (RcR w none) := by
  obtain rfl : n = 0 := h.u8
  have A : Hid (Below w.heap.size w (w.alloc (.cells #[.int .i64 0, .int .u64 0, .int .u64 0, .int .i64 0, .int .i64 0, .slice none 0 0, .slice none 0 0] 27))) := Lib.hid (Below.alloc (Below.refl _ _) (Nat.le_refl _) _)
  clear h
  go_enter Try.func44, Try.ntmps44
  go_wp2_with fail
  refine bodyPost_ret (v := .tuple #[.agg #[.int .i64 0, .int .u64 0, .int .u64 0, .int .i64 0, .int .i64 0, .slice none 0 0, .slice none 0 0], .bool false]) ?_ rfl ?_
  · simp [results, Try.results44, go_sem]
  · exact rcr_nil A.out
/-- How a payload ends: what the document makes of what was read. -/
def fin (R : Option (Cm × List Nat)) : Option Cm := match R with | some (c, []) => (if chk c = 0 then some c else none) | _ => none
structure Set0 (w : World) (o n c : Nat) (r : List Nat) (pa : Option Addr) (wg : Bool) (W3 : World) : Prop where
  st : KDX w w.heap.size (w.heap.size + 1) (w.heap.size + 1 + 1) (nul (o : Int)) (.slice none 0 0) (.slice none 0 0) r wg W3
theorem set0 {w : World} {a : Option Addr} {n c o : Nat} {r : List Nat} (h : IsK .u8 w a n c (ns (o :: r))) (hb : By (o :: r)) (wg : Bool) :
    KDX w w.heap.size (w.heap.size + 1) (w.heap.size + 1 + 1) (nul (o : Int)) (.slice none 0 0) (.slice none 0 0) r wg
      (((w.alloc (.cells #[.int .i64 0, .int .u64 0, .int .u64 0, .int .i64 0, .int .i64 0, .slice none 0 0, .slice none 0 0] 27)).alloc (.cells #[.int .i64 (o : Int), .int .u64 0, .int .u64 0, .int .i64 0, .int .i64 0, .slice none 0 0, .slice none 0 0] 27)).alloc (.cells #[.slice (part a 1 c 1) (n - 1) (c - 1), .bool wg] 90)) := by
  have hn : n = r.length + 1 := h.u8
  have hS := h.tail (l := 1) (by omega)
  have b2 := block_new (w.alloc (.cells #[.int .i64 0, .int .u64 0, .int .u64 0, .int .i64 0, .int .i64 0, .slice none 0 0, .slice none 0 0] 27)) (.cells #[.int .i64 (o : Int), .int .u64 0, .int .u64 0, .int .i64 0, .int .i64 0, .slice none 0 0, .slice none 0 0] 27)
  rw [show (w.alloc (.cells #[.int .i64 0, .int .u64 0, .int .u64 0, .int .i64 0, .int .i64 0, .slice none 0 0, .slice none 0 0] 27)).heap.size = w.heap.size + 1 by simp] at b2
  have b3 := block_new ((w.alloc (.cells #[.int .i64 0, .int .u64 0, .int .u64 0, .int .i64 0, .int .i64 0, .slice none 0 0, .slice none 0 0] 27)).alloc (.cells #[.int .i64 (o : Int), .int .u64 0, .int .u64 0, .int .i64 0, .int .i64 0, .slice none 0 0, .slice none 0 0] 27)) (.cells #[.slice (part a 1 c 1) (n - 1) (c - 1), .bool wg] 90)
  rw [show ((w.alloc (.cells #[.int .i64 0, .int .u64 0, .int .u64 0, .int .i64 0, .int .i64 0, .slice none 0 0, .slice none 0 0] 27)).alloc (.cells #[.int .i64 (o : Int), .int .u64 0, .int .u64 0, .int .i64 0, .int .i64 0, .slice none 0 0, .slice none 0 0] 27)).heap.size = w.heap.size + 1 + 1 by simp] at b3
  refine ⟨⟨⟨_, _, _, b3, ?_⟩, ?_, by omega, fun x hx => hb x (List.mem_cons_of_mem _ hx)⟩, block_old b2 _, block_old (block_old (block_new _ _) _) _, by omega, by omega, by omega, by omega, by omega⟩
  · rwa [show (ns (o :: r)).drop 1 = ns r from rfl] at hS
  · exact ((Below.alloc (Below.refl _ _) (Nat.le_refl _) _).alloc (by simp) _).alloc (by simp; omega) _
theorem cst_0 {w W3 : World} {o q x k : Nat} {r : List Nat} {fs : List Fd} {R : Option (Cm × List Nat)} {wg : Bool} {L : Nat} (h : KDX w q x k (nul (o : Int)) (.slice none 0 0) (.slice none 0 0) r wg W3) (hg : St wg (rdFs fs (nul o) r) R r.length L) :
    CmR w q x k fs R L (.int .i64 0) W3 :=
  ⟨0, Nat.zero_le _, rfl, nul o, _, _, r, wg, h, Rw.nil _ _ _ _ _ _ _, Rw.nil _ _ _ _ _ _ _, fun _ => ⟨rfl, rfl, rfl, rfl⟩, by simpa [nul] using hg⟩
theorem touch7' (w : World) (x : Nat) (v0 v1 v2 v3 v4 v5 v6 : Value) : Touch (fun i => i = x) w (((((((w.setCell ⟨x, 0, none⟩ v0).setCell ⟨x, 1, none⟩ v1).setCell ⟨x, 2, none⟩ v2).setCell ⟨x, 3, none⟩ v3).setCell ⟨x, 4, none⟩ v4).setCell ⟨x, 5, none⟩ v5).setCell ⟨x, 6, none⟩ v6).drew := (touch7 w x v0 v1 v2 v3 v4 v5 v6).drew
theorem rcr_end {w wr : World} {cc : Cm} {ad ab : Option Addr} {cd cb : Nat} {ok : Bool} {o : Option Cm} (hd : IsK .u64 wr ad cc.d.length cd (ns cc.d)) (hb : IsK .i64 wr ab cc.b.length cb cc.b) (hn : (∀ y, ad = some y → w.heap.size < y.block) ∧ (∀ y, ab = some y → w.heap.size < y.block)) (hw : Below w.heap.size w wr)
    (ho : match o with | some c => ok = true ∧ cc = c | none => ok = false) {w' : World} (ht : Touch (fun i => i = w.heap.size) wr w') : RcR w o (.returned (.tuple #[.agg (cmV cc (.slice ad cc.d.length cd) (.slice ab cc.b.length cb)), .bool ok])) w' :=
  ⟨cc, ad, cd, ab, cb, ok, rfl, (LsAt.mk hd hb).keepT ht (fun y hy e => by have := hn.1 y hy; omega) (fun y hy e => by have := hn.2 y hy; omega), hw.trans (ht.below hw.size (fun i hi e => by omega)), fun y hy => Nat.le_of_lt (hn.1 y hy), fun y hy => Nat.le_of_lt (hn.2 y hy), ho⟩
set_option maxRecDepth 100000 in
set_option maxHeartbeats 40000000 in
theorem rcommand_main {w : World} {a : Option Addr} {n c o : Nat} {r : List Nat} {fs : List Fd} {wg0 : Bool} {R : Option (Cm × List Nat)} {L : Nat} (h : IsK .u8 w a n c (ns (o :: r))) (hb : By (o :: r)) (hL : L ≤ 1000000)
    (hU : ∀ w, Calls Try.prog 40 #[.int .i64 (o : Int)] w fun e w' => (∃ s, e = .returned (.tuple #[.string s, .bool (!wg0)]) ∧ Str s fs) ∧ w = w') (hfs : fs = [] ∨ ∃ op, uses op = some fs) (hg : St wg0 (rdFs fs (nul o) r) R r.length L) :
    Calls Try.prog 44 #[.slice a n c] w (RcR w (fin R)) := by
  obtain ⟨i23, hi, hz0, hz1, hz2⟩ := info_parts info23
  obtain ⟨i2, hi2, hy0, hy1, hy2⟩ := info_parts info2
  have U := Lib.hid hU
  obtain ⟨b, off, rfl, hbw, -⟩ := h.at_ (by simp [ns])
  have hn : n = r.length + 1 := h.u8
  have x0 := h.cellK (i := 0) (by simp [ns])
  have x1 : w.cell? ⟨b, off, none⟩ = some (.int .u8 (o : Int)) := by simpa [ns] using x0
  have ho : o < 256 := hb o (by simp)
  have hnc := h.hle; have hmx := h.hmax
  unfold maxLen at hmx
  have hn0 : 0 < n := by omega
  have e0 : ((n : Int) == 0) = false := by simp; omega
  have e0' : (n == 0) = false := by simp; omega
  have hsl := run_from Try.underlying29 size1 (a := some ⟨b, off, none⟩) (len := n) (cap := c) (l := 1) (k := 1) rfl (by omega)
  have C0 := Lib.hid (cst_0 (set0 h hb wg0) hg)
  have hnot : ∀ (x : Bool) (w : World), (Op.unary .not (.bool x)).run Try.prog w = .ok (.bool (!x)) w := fun _ _ => rfl
  have HFS : Hid (∀ i, i < fs.length → ∃ op, uses op = some fs) := Lib.hid (fun i hi => by
    rcases hfs with h | h
    · rw [h] at hi; simp at hi
    · exact h)
  have HFL : Hid (fs.length ≤ 1000) := Lib.hid (by
    rcases hfs with h | ⟨op, h⟩
    · rw [h]; simp
    · exact uses_len h)
  obtain ⟨m, hm⟩ : ∃ m, m = fs.length := ⟨_, rfl⟩
  have HM := Lib.hid hm
  have hm9 : m ≤ 1000 := by rw [hm]; exact HFL.out
  have HL := Lib.hid hL
  generalize part (some ⟨b, off, none⟩) 1 c 1 = pa at *
  clear x0 hn h hb hU hg hfs hm hL
  go_enter Try.func44, Try.ntmps44
  go_wp2_with fail
  refine (U.out _).mono ?_; rintro e w2 ⟨⟨s, rfl, hS⟩, rfl⟩
  have S := Lib.hid hS
  have hs := hS.size
  rw [← HM.out] at hs
  clear hS
  have hww : (!(!wg0)) = wg0 := by cases wg0 <;> rfl
  clear U
  go_wp2_with fail
  have HC0 := C0
  clear C0 x1
  go_loopw [8] (fun v8 wr => CmR w w.heap.size (w.heap.size + 1) (w.heap.size + 1 + 1) fs R L v8 wr) (fun v8 _ => m - (intOf v8).toNat)
  case atStart => exact HC0.out
  case round =>
    clear HC0 hsl e0 e0'
    obtain ⟨i, hin0, rfl, cc, vd, vb, rr, wg, hc⟩ := hrel
    have C := Lib.hid hc
    have hin : i ≤ m := by rw [HM.out]; exact hin0
    clear hc hin0
    by_cases hlt : i < m
    · have hx := S.out.at_ i (by have := HM.out; omega)
      have HI : Hid (i < fs.length) := Lib.hid (by have := HM.out; omega)
      obtain ⟨op, hu⟩ := HFS.out i HI.out
      have HU := Lib.hid hu
      rw [lt_I] at hx
      generalize hf : fs.getD i .u = f at *
      have HF := Lib.hid hf
      clear hf hu
      cases f
      case u =>
        have P := Lib.hid (rd_u2 C.out.st.rd)
        simp only [ltI] at hx
        go_wp2_with fail
        refine (P.out).mono ?_; rintro e w1 ⟨y, r', wg', rfl, hr⟩
        have K1 := C.out.st.read hr.rd hr.touch
        have xo : w1.cell? ⟨w.heap.size + 1, 1, none⟩ = some (.int .u64 cc.u) := cell_of K1.cells 1
        have xf : w1.frozen? ⟨w.heap.size + 1, 1, none⟩ = false := free_of K1.cells 1
        have C1 := Lib.hid (cst_u C.out HI.out HF.out hr)
        clear K1 hr P
        go_wp2_with fail
        go_roundw
        case rel => exact ⟨i + 1, HI.out, by go_num, _, _, _, _, _, C1.out⟩
        case measure => simp [intOf]; omega
      case v =>
        have P := Lib.hid (rd_u2 C.out.st.rd)
        simp only [ltI] at hx
        go_wp2_with fail
        refine (P.out).mono ?_; rintro e w1 ⟨y, r', wg', rfl, hr⟩
        have K1 := C.out.st.read hr.rd hr.touch
        have xo : w1.cell? ⟨w.heap.size + 1, 2, none⟩ = some (.int .u64 cc.v) := cell_of K1.cells 2
        have xf : w1.frozen? ⟨w.heap.size + 1, 2, none⟩ = false := free_of K1.cells 2
        have C1 := Lib.hid (cst_v C.out HI.out HF.out hr)
        clear K1 hr P
        go_wp2_with fail
        go_roundw
        case rel => exact ⟨i + 1, HI.out, by go_num, _, _, _, _, _, C1.out⟩
        case measure => simp [intOf]; omega
      case w =>
        have P := Lib.hid (rd_s2 C.out.st.rd)
        simp only [ltI] at hx
        go_wp2_with fail
        refine (P.out).mono ?_; rintro e w1 ⟨y, r', wg', rfl, hr⟩
        have K1 := C.out.st.read hr.rd hr.touch
        have xo : w1.cell? ⟨w.heap.size + 1, 3, none⟩ = some (.int .i64 cc.w) := cell_of K1.cells 3
        have xf : w1.frozen? ⟨w.heap.size + 1, 3, none⟩ = false := free_of K1.cells 3
        have C1 := Lib.hid (cst_w C.out HI.out HF.out hr)
        clear K1 hr P
        go_wp2_with fail
        go_roundw
        case rel => exact ⟨i + 1, HI.out, by go_num, _, _, _, _, _, C1.out⟩
        case measure => simp [intOf]; omega
      case t =>
        have P := Lib.hid (rd_s2 C.out.st.rd)
        simp only [ltI] at hx
        go_wp2_with fail
        refine (P.out).mono ?_; rintro e w1 ⟨y, r', wg', rfl, hr⟩
        have K1 := C.out.st.read hr.rd hr.touch
        have xo : w1.cell? ⟨w.heap.size + 1, 4, none⟩ = some (.int .i64 cc.t) := cell_of K1.cells 4
        have xf : w1.frozen? ⟨w.heap.size + 1, 4, none⟩ = false := free_of K1.cells 4
        have C1 := Lib.hid (cst_t C.out HI.out HF.out hr)
        clear K1 hr P
        go_wp2_with fail
        go_roundw
        case rel => exact ⟨i + 1, HI.out, by go_num, _, _, _, _, _, C1.out⟩
        case measure => simp [intOf]; omega
      case d =>
        have P := Lib.hid (rd_u2 C.out.st.rd)
        simp only [ltI] at hx
        go_wp2_with fail
        refine (P.out).mono ?_; rintro e w1 ⟨y, r', wg', rfl, hr⟩
        have CS := Lib.hid (cl_start_d HU.out C.out HI.out HF.out hr)
        have hy := hr.lt
        clear hr P hx
        go_wp2_with fail
        go_loopw [10] (fun v10 wr => CrR_d w w.heap.size (w.heap.size + 1) (w.heap.size + 1 + 1) R L cc y v10 wr) (fun v10 _ => y - (intOf v10).toNat)
        case atStart => exact CS.out
        case round =>
          clear CS
          obtain ⟨j, rfl, done, vl, r2, wg2, hl⟩ := hrel
          have LL := Lib.hid hl
          have hjn := hl.jn
          obtain ⟨a3, n3, c3, g1, -⟩ := hl.st.rd.row
          have kw : wr.cell? ⟨w.heap.size + 1 + 1, 1, none⟩ = some (.bool wg2) := cell_of g1 1
          clear hl g1
          by_cases hj : j < y
          · cases wg2
            · have P2 := Lib.hid (rd_u2 LL.out.st.rd)
              go_wp2_with fail
              refine (P2.out).mono ?_; rintro e w5 ⟨y2, r3, wg3, rfl, hr2⟩
              have K5 := LL.out.st.read hr2.rd hr2.touch
              have O5 := Lib.hid ((LL.out.row.keep hr2.touch (fun i e => Or.inr (Or.inr e))).out)
              have HR2 := Lib.hid hr2
              obtain ⟨al, cl, rfl⟩ := own_shape LL.out.row.out.row
              have x5 : w5.cell? ⟨w.heap.size + 1, 5, none⟩ = some (.slice al (ns done).length cl) := cell_of K5.cells 5
              have hB5 := K5.rd.below.size
              have HK5 := Lib.hid K5
              have HLD : Hid ((ns done).length ≤ 1000000) := Lib.hid (by
                have h1 := HL.out
                have h2 := LL.out.good
                rw [ns_len]
                rcases h2 with ⟨_, _, h3⟩ | ⟨_, _, h3⟩ <;> omega)
              clear K5 hr2 P2 kw
              go_wp2_with (at_builtin; refine wpList_app rfl (.tmp 84) (.tmp 86) 24 rfl 23 i23 .u64 8 Try.underlying24 hi hz0 hz1 hz2 (by decide) rfl O5.out hB5 (y2 : Int) rfl (by have := HLD.out; omega) ?_)
              intro v6 w6 h1 h2 h3 h4
              obtain ⟨a6, l6, c6, rfl⟩ : ∃ a l c, v6 = .slice a l c := by obtain ⟨a, c, e⟩ := own_shape h1.row; exact ⟨a, _, c, e⟩
              have NX := Lib.hid (cl_next_d LL.out hj HR2.out h1 h2 h4)
              have hc6 := h2.keep HK5.out.cells (fun e => (LL.out.row.ne _ e).2.1 rfl)
              have x6 : w6.cell? ⟨w.heap.size + 1, 5, none⟩ = some (.slice al (ns done).length cl) := cell_of hc6 5
              have f6 : w6.frozen? ⟨w.heap.size + 1, 5, none⟩ = false := free_of hc6 5
              clear h1 h2 h3 h4 hc6 x5
              go_wp2_with fail
              go_roundw
              case rel => exact NX.out
              case measure => simp [intOf]; omega
            · have CE := Lib.hid (cl_end_d HU.out HI.out HF.out LL.out (Or.inl rfl))
              go_wp2_with fail
              go_roundw
              case rel => exact ⟨i + 1, HI.out, by go_num, CE.out⟩
              case measure => simp [intOf]; omega
          · have CE := Lib.hid (cl_end_d HU.out HI.out HF.out LL.out (Or.inr (by omega)))
            go_wp2_with fail
            go_roundw
            case rel => exact ⟨i + 1, HI.out, by go_num, CE.out⟩
            case measure => simp [intOf]; omega
      case b =>
        have P := Lib.hid (rd_u2 C.out.st.rd)
        simp only [ltI] at hx
        go_wp2_with fail
        refine (P.out).mono ?_; rintro e w1 ⟨y, r', wg', rfl, hr⟩
        have CS := Lib.hid (cl_start_b HU.out C.out HI.out HF.out hr)
        have hy := hr.lt
        clear hr P hx
        go_wp2_with fail
        go_loopw [13] (fun v10 wr => CrR_b w w.heap.size (w.heap.size + 1) (w.heap.size + 1 + 1) R L cc y v10 wr) (fun v10 _ => y - (intOf v10).toNat)
        case atStart => exact CS.out
        case round =>
          clear CS
          obtain ⟨j, rfl, done, vl, r2, wg2, hl⟩ := hrel
          have LL := Lib.hid hl
          have hjn := hl.jn
          obtain ⟨a3, n3, c3, g1, -⟩ := hl.st.rd.row
          have kw : wr.cell? ⟨w.heap.size + 1 + 1, 1, none⟩ = some (.bool wg2) := cell_of g1 1
          clear hl g1
          by_cases hj : j < y
          · cases wg2
            · have P2 := Lib.hid (rd_s2 LL.out.st.rd)
              go_wp2_with fail
              refine (P2.out).mono ?_; rintro e w5 ⟨y2, r3, wg3, rfl, hr2⟩
              have K5 := LL.out.st.read hr2.rd hr2.touch
              have O5 := Lib.hid ((LL.out.row.keep hr2.touch (fun i e => Or.inr (Or.inr e))).out)
              have HR2 := Lib.hid hr2
              obtain ⟨al, cl, rfl⟩ := own_shape LL.out.row.out.row
              have x5 : w5.cell? ⟨w.heap.size + 1, 6, none⟩ = some (.slice al (done).length cl) := cell_of K5.cells 6
              have hB5 := K5.rd.below.size
              have HK5 := Lib.hid K5
              have HLD : Hid ((done).length ≤ 1000000) := Lib.hid (by
                have h1 := HL.out
                have h2 := LL.out.good
                skip
                rcases h2 with ⟨_, _, h3⟩ | ⟨_, _, h3⟩ <;> omega)
              clear K5 hr2 P2 kw
              go_wp2_with (at_builtin; refine wpList_app rfl (.tmp 108) (.tmp 110) 25 rfl 2 i2 .i64 8 Try.underlying25 hi2 hy0 hy1 hy2 (by decide) rfl O5.out hB5 (unf y2) rfl (by have := HLD.out; omega) ?_)
              intro v6 w6 h1 h2 h3 h4
              obtain ⟨a6, l6, c6, rfl⟩ : ∃ a l c, v6 = .slice a l c := by obtain ⟨a, c, e⟩ := own_shape h1.row; exact ⟨a, _, c, e⟩
              have NX := Lib.hid (cl_next_b LL.out hj HR2.out h1 h2 h4)
              have hc6 := h2.keep HK5.out.cells (fun e => (LL.out.row.ne _ e).2.1 rfl)
              have x6 : w6.cell? ⟨w.heap.size + 1, 6, none⟩ = some (.slice al (done).length cl) := cell_of hc6 6
              have f6 : w6.frozen? ⟨w.heap.size + 1, 6, none⟩ = false := free_of hc6 6
              clear h1 h2 h3 h4 hc6 x5
              go_wp2_with fail
              go_roundw
              case rel => exact NX.out
              case measure => simp [intOf]; omega
            · have CE := Lib.hid (cl_end_b HU.out HI.out HF.out LL.out (Or.inl rfl))
              go_wp2_with fail
              go_roundw
              case rel => exact ⟨i + 1, HI.out, by go_num, CE.out⟩
              case measure => simp [intOf]; omega
          · have CE := Lib.hid (cl_end_b HU.out HI.out HF.out LL.out (Or.inr (by omega)))
            go_wp2_with fail
            go_roundw
            case rel => exact ⟨i + 1, HI.out, by go_num, CE.out⟩
            case measure => simp [intOf]; omega
    · have HE : Hid (i = fs.length) := Lib.hid (by have := HM.out; omega)
      obtain ⟨ad, cd, hvd, hSd⟩ := C.out.rd.out.sl
      obtain ⟨ab, cb, hvb, hSb⟩ := C.out.rb.out.sl
      rw [ns_len] at hvd hSd
      subst hvd hvb
      have SD := Lib.hid hSd; have SB := Lib.hid hSb
      have HX := Lib.hid C.out.st.cells; have HQ := Lib.hid C.out.st.res
      have NEQ : Hid ((∀ y, ad = some y → w.heap.size < y.block) ∧ (∀ y, ab = some y → w.heap.size < y.block)) := Lib.hid ⟨fun y hy => Nat.lt_of_le_of_ne (C.out.rd.out.blk _ (by rw [hy]; rfl)) (fun e => (C.out.rd.ne y.block (by rw [hy]; rfl)).1 e.symm), fun y hy => Nat.lt_of_le_of_ne (C.out.rb.out.blk _ (by rw [hy]; rfl)) (fun e => (C.out.rb.ne y.block (by rw [hy]; rfl)).1 e.symm)⟩
      have BW := Lib.hid C.out.st.rd.below
      obtain ⟨a3, n3, c3, g1, g2⟩ := C.out.st.rd.row
      have kw : wr.cell? ⟨w.heap.size + 1 + 1, 1, none⟩ = some (.bool wg) := cell_of g1 1
      have k0 : wr.cell? ⟨w.heap.size + 1 + 1, 0, none⟩ = some (.slice a3 n3 c3) := cell_of g1 0
      have hn3 : n3 = rr.length := g2.u8
      have hLd : Hid (cc.d.length ≤ 1000000 ∧ cc.b.length ≤ 1000000) := Lib.hid (by
        have h1 := HL.out
        rcases C.out.good with ⟨_, _, h3⟩ | ⟨_, _, h3⟩ <;> omega)
      have HG := Lib.hid C.out.good
      have hg := HG.out
      rw [HE.out, List.drop_of_length_le (Nat.le_refl _)] at hg
      clear hSd hSb g1 g2
      have y0 : wr.cell? ⟨w.heap.size + 1, 0, none⟩ = some (.int .i64 cc.op) := cell_of HX.out 0
      have y1 : wr.cell? ⟨w.heap.size + 1, 1, none⟩ = some (.int .u64 cc.u) := cell_of HX.out 1
      have y2 : wr.cell? ⟨w.heap.size + 1, 2, none⟩ = some (.int .u64 cc.v) := cell_of HX.out 2
      have y3 : wr.cell? ⟨w.heap.size + 1, 3, none⟩ = some (.int .i64 cc.w) := cell_of HX.out 3
      have y4 : wr.cell? ⟨w.heap.size + 1, 4, none⟩ = some (.int .i64 cc.t) := cell_of HX.out 4
      have y5 : wr.cell? ⟨w.heap.size + 1, 5, none⟩ = some (.slice ad cc.d.length cd) := cell_of HX.out 5
      have y6 : wr.cell? ⟨w.heap.size + 1, 6, none⟩ = some (.slice ab cc.b.length cb) := cell_of HX.out 6
      have z0 : wr.cell? ⟨w.heap.size, 0, none⟩ = some (.int .i64 0) := cell_of HQ.out 0
      have z1 : wr.cell? ⟨w.heap.size, 1, none⟩ = some (.int .u64 0) := cell_of HQ.out 1
      have z2 : wr.cell? ⟨w.heap.size, 2, none⟩ = some (.int .u64 0) := cell_of HQ.out 2
      have z3 : wr.cell? ⟨w.heap.size, 3, none⟩ = some (.int .i64 0) := cell_of HQ.out 3
      have z4 : wr.cell? ⟨w.heap.size, 4, none⟩ = some (.int .i64 0) := cell_of HQ.out 4
      have z5 : wr.cell? ⟨w.heap.size, 5, none⟩ = some (.slice none 0 0) := cell_of HQ.out 5
      have z6 : wr.cell? ⟨w.heap.size, 6, none⟩ = some (.slice none 0 0) := cell_of HQ.out 6
      have qf : ∀ i, wr.frozen? ⟨w.heap.size, i, none⟩ = false := fun i => free_of HQ.out i
      go_wp2_with fail
      cases wg
      · have hR : some (cc, rr) = R := by
          rcases hg with ⟨_, h2, _⟩ | ⟨h1, _, _⟩
          · exact h2
          · cases h1
        subst hR
        clear hg HG C
        cases rr with
        | cons x r2 =>
          have e3 : ((n3 : Int) == 0) = false := by rw [hn3]; simp; omega
          have e3' : (n3 == 0) = false := by rw [hn3]; simp
          have HK3 : Hid (fin (some (cc, x :: r2)) = none) := Lib.hid rfl
          clear hn3
          go_region
          all_goals
            go_wp2_with fail
            have h7 := set7 (w := wr) HQ.out rfl (.int .i64 cc.op) (.int .u64 cc.u) (.int .u64 cc.v) (.int .i64 cc.w) (.int .i64 cc.t) (.slice ad cc.d.length cd) (.slice ab cc.b.length cb)
            have q0 := cell_of h7 0
            have q1 := cell_of h7 1
            have q2 := cell_of h7 2
            have q3 := cell_of h7 3
            have q4 := cell_of h7 4
            have q5 := cell_of h7 5
            have q6 := cell_of h7 6
            refine bodyPost_ret (v := .tuple #[.agg (cmV cc (.slice ad cc.d.length cd) (.slice ab cc.b.length cb)), .bool false]) ?_ rfl ?_
            · clear h7 kw k0 y0 y1 y2 y3 y4 y5 y6 z0 z1 z2 z3 z4 z5 z6 qf
              simp [results, Try.results44, go_sem, cmV, q0, q1, q2, q3, q4, q5, q6]
            · exact rcr_end SD.out SB.out NEQ.out BW.out rfl (touch7' _ _ _ _ _ _ _ _ _)
        | nil =>
          obtain rfl : n3 = 0 := hn3
          have PC := Lib.hid (rcheck (w := wr.drew) (c := cc) (ad := ad) (ab := ab) (cd := cd) (cb := cb) hLd.out.1 hLd.out.2)
          have hxw := lt_of_block HX.out
          have hkwl := lt_of_cell kw
          have hq1 : ¬ (w.heap.size + 1 + 1 = w.heap.size) := by omega
          have hq2 : ¬ (w.heap.size = w.heap.size + 1 + 1) := by omega
          unfold cmV at PC
          by_cases hk : chk cc = 0
          · have HF : Hid (fin (some (cc, [])) = some cc) := Lib.hid (by unfold fin; simp only []; rw [if_pos hk])
            rw [hk] at PC
            clear hk
            go_region_held3 (fun w' => w'.cell? ⟨w.heap.size + 1, 0, none⟩ = some (.int .i64 cc.op) ∧ w'.cell? ⟨w.heap.size + 1, 1, none⟩ = some (.int .u64 cc.u) ∧ w'.cell? ⟨w.heap.size + 1, 2, none⟩ = some (.int .u64 cc.v) ∧ w'.cell? ⟨w.heap.size + 1, 3, none⟩ = some (.int .i64 cc.w) ∧ w'.cell? ⟨w.heap.size + 1, 4, none⟩ = some (.int .i64 cc.t) ∧ w'.cell? ⟨w.heap.size + 1, 5, none⟩ = some (.slice ad cc.d.length cd) ∧ w'.cell? ⟨w.heap.size + 1, 6, none⟩ = some (.slice ab cc.b.length cb) ∧ w'.cell? ⟨w.heap.size + 1 + 1, 0, none⟩ = some (.slice a3 0 c3) ∧ w'.cell? ⟨w.heap.size + 1 + 1, 1, none⟩ = some (.bool false))
              (go_keep)
              (first | (go_at_call 20; refine (PC.out).mono ?_; rintro e w6 ⟨rfl, hb6'⟩; have hb6 : Below wr.heap.size wr w6 := (Below.drew (Below.refl _ _)).trans hb6'; clear hb6'; have HX6 := hb6.block _ (lt_of_block HX.out) |>.trans HX.out; have HQ6 := hb6.block _ (lt_of_block HQ.out) |>.trans HQ.out; have yy0 : w6.cell? ⟨w.heap.size + 1, 0, none⟩ = some (.int .i64 cc.op) := cell_of HX6 0; have yy1 : w6.cell? ⟨w.heap.size + 1, 1, none⟩ = some (.int .u64 cc.u) := cell_of HX6 1; have yy2 : w6.cell? ⟨w.heap.size + 1, 2, none⟩ = some (.int .u64 cc.v) := cell_of HX6 2; have yy3 : w6.cell? ⟨w.heap.size + 1, 3, none⟩ = some (.int .i64 cc.w) := cell_of HX6 3; have yy4 : w6.cell? ⟨w.heap.size + 1, 4, none⟩ = some (.int .i64 cc.t) := cell_of HX6 4; have yy5 : w6.cell? ⟨w.heap.size + 1, 5, none⟩ = some (.slice ad cc.d.length cd) := cell_of HX6 5; have yy6 : w6.cell? ⟨w.heap.size + 1, 6, none⟩ = some (.slice ab cc.b.length cb) := cell_of HX6 6; have zz0 : w6.cell? ⟨w.heap.size, 0, none⟩ = some (.int .i64 0) := cell_of HQ6 0; have zz1 : w6.cell? ⟨w.heap.size, 1, none⟩ = some (.int .u64 0) := cell_of HQ6 1; have zz2 : w6.cell? ⟨w.heap.size, 2, none⟩ = some (.int .u64 0) := cell_of HQ6 2; have zz3 : w6.cell? ⟨w.heap.size, 3, none⟩ = some (.int .i64 0) := cell_of HQ6 3; have zz4 : w6.cell? ⟨w.heap.size, 4, none⟩ = some (.int .i64 0) := cell_of HQ6 4; have zz5 : w6.cell? ⟨w.heap.size, 5, none⟩ = some (.slice none 0 0) := cell_of HQ6 5; have zz6 : w6.cell? ⟨w.heap.size, 6, none⟩ = some (.slice none 0 0) := cell_of HQ6 6; have qf6 : ∀ i, w6.frozen? ⟨w.heap.size, i, none⟩ = false := fun i => free_of HQ6 i; have kk0 : w6.cell? ⟨w.heap.size + 1 + 1, 0, none⟩ = some (.slice a3 0 c3) := (hb6.cell (p := ⟨w.heap.size + 1 + 1, 0, none⟩) hkwl).trans k0; have kk1 : w6.cell? ⟨w.heap.size + 1 + 1, 1, none⟩ = some (.bool false) := (hb6.cell (p := ⟨w.heap.size + 1 + 1, 1, none⟩) hkwl).trans kw; have HQ7 := Lib.hid HQ6; have HB6 := Lib.hid hb6; clear HX6 HQ6))
            all_goals
              go_wp2_with fail
              have h7 := set7 (w := w6) HQ7.out rfl (.int .i64 cc.op) (.int .u64 cc.u) (.int .u64 cc.v) (.int .i64 cc.w) (.int .i64 cc.t) (.slice ad cc.d.length cd) (.slice ab cc.b.length cb)
              have q0 := cell_of h7 0
              have q1 := cell_of h7 1
              have q2 := cell_of h7 2
              have q3 := cell_of h7 3
              have q4 := cell_of h7 4
              have q5 := cell_of h7 5
              have q6 := cell_of h7 6
              refine bodyPost_ret (v := .tuple #[.agg (cmV cc (.slice ad cc.d.length cd) (.slice ab cc.b.length cb)), .bool true]) ?_ rfl ?_
              · clear h7 kw k0 y0 y1 y2 y3 y4 y5 y6 z0 z1 z2 z3 z4 z5 z6 qf yy0 yy1 yy2 yy3 yy4 yy5 yy6 zz0 zz1 zz2 zz3 zz4 zz5 zz6 qf6 kk0 kk1
                simp [results, Try.results44, go_sem, cmV, q0, q1, q2, q3, q4, q5, q6]
              · exact rcr_end (SD.out.below HB6.out) (SB.out.below HB6.out) NEQ.out (BW.out.trans (HB6.out.mono BW.out.size)) (by rw [HF.out]; exact ⟨rfl, rfl⟩) (touch7 _ _ _ _ _ _ _ _ _)
          · have HF : Hid (fin (some (cc, [])) = none) := Lib.hid (by unfold fin; simp only []; rw [if_neg hk])
            have e5 : (chk cc == 0) = false := by simpa using hk
            generalize chk cc = ck at *
            clear hk
            go_region_held3 (fun w' => w'.cell? ⟨w.heap.size + 1, 0, none⟩ = some (.int .i64 cc.op) ∧ w'.cell? ⟨w.heap.size + 1, 1, none⟩ = some (.int .u64 cc.u) ∧ w'.cell? ⟨w.heap.size + 1, 2, none⟩ = some (.int .u64 cc.v) ∧ w'.cell? ⟨w.heap.size + 1, 3, none⟩ = some (.int .i64 cc.w) ∧ w'.cell? ⟨w.heap.size + 1, 4, none⟩ = some (.int .i64 cc.t) ∧ w'.cell? ⟨w.heap.size + 1, 5, none⟩ = some (.slice ad cc.d.length cd) ∧ w'.cell? ⟨w.heap.size + 1, 6, none⟩ = some (.slice ab cc.b.length cb) ∧ w'.cell? ⟨w.heap.size + 1 + 1, 0, none⟩ = some (.slice a3 0 c3) ∧ w'.cell? ⟨w.heap.size + 1 + 1, 1, none⟩ = some (.bool false))
              (go_keep)
              (first | (go_at_call 20; refine (PC.out).mono ?_; rintro e w6 ⟨rfl, hb6'⟩; have hb6 : Below wr.heap.size wr w6 := (Below.drew (Below.refl _ _)).trans hb6'; clear hb6'; have HX6 := hb6.block _ (lt_of_block HX.out) |>.trans HX.out; have HQ6 := hb6.block _ (lt_of_block HQ.out) |>.trans HQ.out; have yy0 : w6.cell? ⟨w.heap.size + 1, 0, none⟩ = some (.int .i64 cc.op) := cell_of HX6 0; have yy1 : w6.cell? ⟨w.heap.size + 1, 1, none⟩ = some (.int .u64 cc.u) := cell_of HX6 1; have yy2 : w6.cell? ⟨w.heap.size + 1, 2, none⟩ = some (.int .u64 cc.v) := cell_of HX6 2; have yy3 : w6.cell? ⟨w.heap.size + 1, 3, none⟩ = some (.int .i64 cc.w) := cell_of HX6 3; have yy4 : w6.cell? ⟨w.heap.size + 1, 4, none⟩ = some (.int .i64 cc.t) := cell_of HX6 4; have yy5 : w6.cell? ⟨w.heap.size + 1, 5, none⟩ = some (.slice ad cc.d.length cd) := cell_of HX6 5; have yy6 : w6.cell? ⟨w.heap.size + 1, 6, none⟩ = some (.slice ab cc.b.length cb) := cell_of HX6 6; have zz0 : w6.cell? ⟨w.heap.size, 0, none⟩ = some (.int .i64 0) := cell_of HQ6 0; have zz1 : w6.cell? ⟨w.heap.size, 1, none⟩ = some (.int .u64 0) := cell_of HQ6 1; have zz2 : w6.cell? ⟨w.heap.size, 2, none⟩ = some (.int .u64 0) := cell_of HQ6 2; have zz3 : w6.cell? ⟨w.heap.size, 3, none⟩ = some (.int .i64 0) := cell_of HQ6 3; have zz4 : w6.cell? ⟨w.heap.size, 4, none⟩ = some (.int .i64 0) := cell_of HQ6 4; have zz5 : w6.cell? ⟨w.heap.size, 5, none⟩ = some (.slice none 0 0) := cell_of HQ6 5; have zz6 : w6.cell? ⟨w.heap.size, 6, none⟩ = some (.slice none 0 0) := cell_of HQ6 6; have qf6 : ∀ i, w6.frozen? ⟨w.heap.size, i, none⟩ = false := fun i => free_of HQ6 i; have kk0 : w6.cell? ⟨w.heap.size + 1 + 1, 0, none⟩ = some (.slice a3 0 c3) := (hb6.cell (p := ⟨w.heap.size + 1 + 1, 0, none⟩) hkwl).trans k0; have kk1 : w6.cell? ⟨w.heap.size + 1 + 1, 1, none⟩ = some (.bool false) := (hb6.cell (p := ⟨w.heap.size + 1 + 1, 1, none⟩) hkwl).trans kw; have HQ7 := Lib.hid HQ6; have HB6 := Lib.hid hb6; clear HX6 HQ6))
            all_goals
              go_wp2_with fail
              have h7 := set7 (w := w6) HQ7.out rfl (.int .i64 cc.op) (.int .u64 cc.u) (.int .u64 cc.v) (.int .i64 cc.w) (.int .i64 cc.t) (.slice ad cc.d.length cd) (.slice ab cc.b.length cb)
              have q0 := cell_of h7 0
              have q1 := cell_of h7 1
              have q2 := cell_of h7 2
              have q3 := cell_of h7 3
              have q4 := cell_of h7 4
              have q5 := cell_of h7 5
              have q6 := cell_of h7 6
              refine bodyPost_ret (v := .tuple #[.agg (cmV cc (.slice ad cc.d.length cd) (.slice ab cc.b.length cb)), .bool false]) ?_ rfl ?_
              · clear h7 kw k0 y0 y1 y2 y3 y4 y5 y6 z0 z1 z2 z3 z4 z5 z6 qf yy0 yy1 yy2 yy3 yy4 yy5 yy6 zz0 zz1 zz2 zz3 zz4 zz5 zz6 qf6 kk0 kk1
                simp [results, Try.results44, go_sem, cmV, q0, q1, q2, q3, q4, q5, q6]
              · exact rcr_end (SD.out.below HB6.out) (SB.out.below HB6.out) NEQ.out (BW.out.trans (HB6.out.mono BW.out.size)) (by rw [HF.out]) (touch7 _ _ _ _ _ _ _ _ _)
      · have hR : R = none := by
          rcases hg with ⟨h1, _, _⟩ | ⟨_, h2, _⟩
          · cases h1
          · exact h2
        subst hR
        clear hg HG C hn3
        go_region
        all_goals
          go_wp2_with fail
          have h7 := set7 (w := wr) HQ.out rfl (.int .i64 cc.op) (.int .u64 cc.u) (.int .u64 cc.v) (.int .i64 cc.w) (.int .i64 cc.t) (.slice ad cc.d.length cd) (.slice ab cc.b.length cb)
          have q0 := cell_of h7 0
          have q1 := cell_of h7 1
          have q2 := cell_of h7 2
          have q3 := cell_of h7 3
          have q4 := cell_of h7 4
          have q5 := cell_of h7 5
          have q6 := cell_of h7 6
          refine bodyPost_ret (v := .tuple #[.agg (cmV cc (.slice ad cc.d.length cd) (.slice ab cc.b.length cb)), .bool false]) ?_ rfl ?_
          · clear h7 kw k0 y0 y1 y2 y3 y4 y5 y6 z0 z1 z2 z3 z4 z5 z6 qf
            simp [results, Try.results44, go_sem, cmV, q0, q1, q2, q3, q4, q5, q6]
          · exact rcr_end SD.out SB.out NEQ.out BW.out rfl (touch7' _ _ _ _ _ _ _ _ _)
/-- The document's command is a payload's command, where it is one. -/
theorem rcommand {w : World} {a : Option Addr} {n c : Nat} {p : List Nat} (h : IsK .u8 w a n c (ns p)) (hb : By p) (hl : p.length ≤ 900000) : Calls Try.prog 44 #[.slice a n c] w (RcR w (cmdOf p)) := by
  cases p with
  | nil => exact rcommand_nil h
  | cons o r =>
    have hlr : r.length ≤ 900000 := by simp at hl; omega
    cases hu : uses (o : Int) with
    | none =>
      have hc : cmdOf (o :: r) = none := by simp only [cmdOf, hu]
      rw [hc]
      have hU := ruses (o : Int)
      rw [hu] at hU
      exact rcommand_main (fs := []) (wg0 := true) (R := none) (L := 1000000) h hb (Nat.le_refl _) hU (Or.inl rfl) (Or.inr ⟨rfl, rfl, by omega⟩)
    | some fs =>
      rw [cmd_rd hu hb]
      have hU := ruses (o : Int)
      rw [hu] at hU
      have := rcommand_main (fs := fs) (wg0 := false) (R := rdFs fs (nul o) r) (L := 1000000) h hb (Nat.le_refl _) hU (Or.inr ⟨_, hu⟩) (Or.inl ⟨rfl, rfl, by omega⟩)
      exact this
end Go.Proofs.Ythnoihdojinocaa

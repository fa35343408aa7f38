/- count and fits of the program. -/
import Derived.Test.YtlmdkcpiimpniaaDoorZa
import Derived.BigRegion
import Derived.Deep.RegionHeld3
namespace Go.Proofs.YtlmdkcpiimpniaaDoor
open Go.ChangeShapes Go.WideShapes Go.ChangeAt Go.RowKit
set_option linter.unusedVariables false
set_option linter.unusedSimpArgs false

theorem kinds_num {k : Nat} (hk : k < 16) : ki k ≤ 2 ∧ kn k ≤ 5 ∧ ke k ≤ 3 ∧ (ke k = 3 → ki k = 0 → 0 < kn k) ∧ (ke k = 1 ∨ ke k = 0 ∨ ke k = 2 → True) := by
  have hc : k = 0 ∨ k = 1 ∨ k = 2 ∨ k = 3 ∨ k = 4 ∨ k = 5 ∨ k = 6 ∨ k = 7 ∨ k = 8 ∨ k = 9 ∨ k = 10 ∨ k = 11 ∨ k = 12 ∨ k = 13 ∨ k = 14 ∨ k = 15 := by omega
  rcases hc with rfl | rfl | rfl | rfl | rfl | rfl | rfl | rfl | rfl | rfl | rfl | rfl | rfl | rfl | rfl | rfl <;> simp [ki, kn, ke]
set_option maxRecDepth 100000 in
set_option maxHeartbeats 4000000 in
theorem pcount {w : World} (h : Env w) {k : Nat} (hk : k < 16) (er : Int) (yes : Bool) (a a' : Option Addr) (li c ln c' : Nat) (hl1 : li ≤ 1000000000) (hl2 : ln ≤ 1000000000) :
    Calls Tryd.prog 35 #[.agg #[.int .i64 (k : Int), .int .i64 er, .bool yes, .slice a li c, .slice a' ln c']] w fun e w' => e = .returned (.int .i64 ((count k yes li ln : Nat) : Int)) ∧ w' = (w.alloc (.cells #[.int .i64 (k : Int), .int .i64 er, .bool yes, .slice a li c, .slice a' ln c'] 27)).alloc (.cells #[.string ⟨(kwS k).toArray⟩, .int .i64 (ki k : Nat), .int .i64 (kn k : Nat), .int .i64 (ke k : Nat)] 57) := by
  obtain ⟨y0, y1, y2, y3⟩ := h.kind hk
  obtain ⟨n1, n2, n3, n4, -⟩ := kinds_num hk
  have h0 := lt_of_cell y0
  obtain ⟨R, hR⟩ : ∃ R, R = count k yes li ln := ⟨_, rfl⟩
  have h1 : Hid (ke k = 0 → R = 0) := Lib.hid (fun e => by rw [hR]; simp [count, e])
  have h2 : Hid (ke k = 1 → R = 1) := Lib.hid (fun e => by rw [hR]; simp [count, e])
  have h3 : Hid (ke k = 2 → R = if yes = true then 1 else 0) := Lib.hid (fun e => by rw [hR]; simp [count, e])
  have h4 : Hid (ke k = 3 → 0 < ki k → R = li / ki k) := Lib.hid (fun e e2 => by rw [hR]; simp [count, e, e2])
  have h5 : Hid (ke k = 3 → ki k = 0 → R = ln / kn k) := Lib.hid (fun e e2 => by rw [hR]; simp [count, e, e2])
  rw [← hR]
  clear hR
  generalize ki k = I at *
  generalize kn k = M at *
  generalize kwS k = S at *
  generalize ke k = E at *
  clear h
  have hE : E = 0 ∨ E = 1 ∨ E = 2 ∨ E = 3 := by omega
  rcases hE with rfl | rfl | rfl | rfl
  · clear n4
    have hr := Lib.hid (h1.out rfl)
    clear h1 h2 h3 h4 h5
    go_enter Tryd.func35, Tryd.ntmps35
    go_wp2_with fail
    go_ret
    exact ⟨ret_int (by rw [hr.out]; rfl), rfl⟩
  · clear n4
    have hr := Lib.hid (h2.out rfl)
    clear h1 h2 h3 h4 h5
    go_enter Tryd.func35, Tryd.ntmps35
    go_wp2_with fail
    go_ret
    exact ⟨ret_int (by rw [hr.out]; rfl), rfl⟩
  · clear n4
    have hr := Lib.hid (h3.out rfl)
    clear h1 h2 h3 h4 h5
    cases yes
    · go_enter Tryd.func35, Tryd.ntmps35
      go_wp2_with fail
      go_ret
      exact ⟨ret_int (by rw [hr.out]; rfl), rfl⟩
    · go_enter Tryd.func35, Tryd.ntmps35
      go_wp2_with fail
      go_ret
      exact ⟨ret_int (by rw [hr.out]; rfl), rfl⟩
  · by_cases hI : 0 < I
    · clear n4
      have hr := Lib.hid (h4.out rfl hI)
      have hd : (li : Int) / (I : Int) = ((li / I : Nat) : Int) := by simp
      have hd2 : li / I ≤ li := Nat.div_le_self _ _
      have e1 : decide (0 < (I : Int)) = true := by simp; omega
      have e2 : decide (0 < I) = true := by simp; omega
      clear h1 h2 h3 h4 h5
      generalize li / I = q at *
      go_enter Tryd.func35, Tryd.ntmps35
      go_wp2_with fail
      go_ret
      exact ⟨ret_int (by rw [hr.out]), rfl⟩
    · have hM : 0 < M := n4 rfl (by omega)
      have hr := Lib.hid (h5.out rfl (by omega))
      have hd : (ln : Int) / (M : Int) = ((ln / M : Nat) : Int) := by simp
      have hd2 : ln / M ≤ ln := Nat.div_le_self _ _
      obtain rfl : I = 0 := by omega
      clear h1 h2 h3 h4 h5 n4
      generalize ln / M = q at *
      go_enter Tryd.func35, Tryd.ntmps35
      go_wp2_with fail
      go_ret
      exact ⟨ret_int (by rw [hr.out]), rfl⟩
theorem asks_t {op : Int} (h : asksO op = true) : op = 3 ∨ op = 8 := by
  unfold asksO at h
  simpa using h
theorem pasks (op : Int) (w : World) : Calls Tryd.prog 34 #[.int .i64 op] w fun e w' => e = .returned (.bool (asksO op)) ∧ w = w' := by
  by_cases h3 : op = 3
  · subst h3
    go_enter Tryd.func34, Tryd.ntmps34
    go_wp2_with fail
    go_ret
    exact ⟨rfl, rfl⟩
  · by_cases h8 : op = 8
    · subst h8
      go_enter Tryd.func34, Tryd.ntmps34
      go_wp2_with fail
      go_ret
      exact ⟨rfl, rfl⟩
    · have hf : asksO op = false := by unfold asksO; simp [h3, h8]
      have HF := Lib.hid hf
      have e3 : (op == 3) = false := by simpa using h3
      have e8 : (op == 8) = false := by simpa using h8
      clear hf h3 h8
      go_enter Tryd.func34, Tryd.ntmps34
      go_wp2_with fail
      go_ret
      exact ⟨by rw [HF.out]; rfl, rfl⟩
theorem rasks (op : Int) (w : World) : Calls Tryd.prog 52 #[.int .i64 op] w fun e w' => e = .returned (.bool (asksO op)) ∧ w = w' := by
  by_cases h3 : op = 3
  · subst h3
    go_enter Tryd.func52, Tryd.ntmps52
    go_wp2_with fail
    go_ret
    exact ⟨rfl, rfl⟩
  · by_cases h8 : op = 8
    · subst h8
      go_enter Tryd.func52, Tryd.ntmps52
      go_wp2_with fail
      go_ret
      exact ⟨rfl, rfl⟩
    · have hf : asksO op = false := by unfold asksO; simp [h3, h8]
      have HF := Lib.hid hf
      have e3 : (op == 3) = false := by simpa using h3
      have e8 : (op == 8) = false := by simpa using h8
      clear hf h3 h8
      go_enter Tryd.func52, Tryd.ntmps52
      go_wp2_with fail
      go_ret
      exact ⟨by rw [HF.out]; rfl, rfl⟩
end Go.Proofs.YtlmdkcpiimpniaaDoor
/- fits and Check of the program. -/
namespace Go.Proofs.YtlmdkcpiimpniaaDoor
open Go.ChangeShapes Go.WideShapes Go.ChangeAt Go.RowKit
set_option linter.unusedVariables false
set_option linter.unusedSimpArgs false

/-- The cells of a reply. -/
def rpV (r : Rp) (a : Option Addr) (c : Nat) (a' : Option Addr) (c' : Nat) : Array Value := #[.int .i64 r.op, .int .i64 r.er, .bool r.yes, .slice a r.ids.length c, .slice a' r.nums.length c']
theorem fit_no (r : Rp) : (r.op < 0 ∨ 16 ≤ r.op → decide (fits r) = false) ∧ (r.op = 0 ∧ r.er ≠ 15 → decide (fits r) = false) := by
  constructor
  · intro h; exact decide_eq_false fun hf => hf.1 h
  · intro h; exact decide_eq_false fun hf => hf.2.1 h
theorem fit_err {r : Rp} (h1 : ¬ (r.op < 0 ∨ 16 ≤ r.op)) (h2 : ¬ (r.op = 0 ∧ r.er ≠ 15)) (h3 : r.er ≠ 0) : decide (fits r) = decide ((1 ≤ r.er ∧ r.er ≤ 18) ∧ r.yes = false ∧ r.ids.length = 0 ∧ r.nums.length = 0) := by
  have : fits r ↔ (1 ≤ r.er ∧ r.er ≤ 18) ∧ r.yes = false ∧ r.ids.length = 0 ∧ r.nums.length = 0 := by
    unfold fits noneR
    rw [if_pos h3]
    constructor
    · intro h; exact h.2.2
    · intro h; exact ⟨h1, h2, h⟩
  simp only [this]
theorem fit_ok {r : Rp} (h1 : ¬ (r.op < 0 ∨ 16 ≤ r.op)) (h2 : ¬ (r.op = 0 ∧ r.er ≠ 15)) (h3 : r.er = 0) : decide (fits r) = decide (¬ (r.yes = true ∧ asksO r.op = false) ∧ r.ids.length = count r.op.toNat r.yes r.ids.length r.nums.length * ki r.op.toNat ∧ r.nums.length = count r.op.toNat r.yes r.ids.length r.nums.length * kn r.op.toNat) := by
  have : fits r ↔ ¬ (r.yes = true ∧ asksO r.op = false) ∧ r.ids.length = count r.op.toNat r.yes r.ids.length r.nums.length * ki r.op.toNat ∧ r.nums.length = count r.op.toNat r.yes r.ids.length r.nums.length * kn r.op.toNat := by
    unfold fits
    rw [if_neg (by omega)]
    constructor
    · intro h; exact h.2.2
    · intro h; exact ⟨h1, h2, h⟩
  simp only [this]
theorem count_le {k : Nat} (yes : Bool) (li ln : Nat) : count k yes li ln ≤ 1 + li + ln := by
  unfold count
  split
  · omega
  · split
    · have := Nat.div_le_self li (ki k); omega
    · split
      · have := Nat.div_le_self ln (kn k); omega
      · omega
set_option maxRecDepth 100000 in
set_option maxHeartbeats 4000000 in
theorem pfits_a {w : World} (r : Rp) (a : Option Addr) (c : Nat) (a' : Option Addr) (c' : Nat) (h : (r.op < 0 ∨ 16 ≤ r.op) ∨ (r.op = 0 ∧ r.er ≠ 15)) :
    Calls Tryd.prog 37 #[.agg (rpV r a c a' c')] w fun e w' => e = .returned (.bool (decide (fits r))) ∧ Below w.heap.size w w' := by
  have hf : decide (fits r) = false := h.elim (fit_no r).1 (fit_no r).2
  have hA : Hid (Below w.heap.size w (w.alloc (.cells (rpV r a c a' c') 27))) := Lib.hid (Below.alloc (Below.refl _ _) (Nat.le_refl _) _)
  rw [hf]
  clear hf
  unfold rpV at *
  obtain ⟨op, er, yes, ids, nums⟩ := r
  simp only at *
  generalize ids.length = li at *
  generalize nums.length = ln at *
  by_cases h1 : op < 0
  · clear h
    go_enter Tryd.func37, Tryd.ntmps37
    go_wp2_with fail
    go_ret
    exact ⟨rfl, hA.out⟩
  · by_cases h2 : 16 ≤ op
    · clear h
      go_enter Tryd.func37, Tryd.ntmps37
      go_wp2_with fail
      go_ret
      exact ⟨rfl, hA.out⟩
    · obtain ⟨rfl, h3⟩ : op = 0 ∧ er ≠ 15 := by omega
      have e1 : (er == 15) = false := by simpa using h3
      have e2 : (er != 15) = true := by simpa using h3
      clear h h1 h2 h3
      go_enter Tryd.func37, Tryd.ntmps37
      go_wp2_with fail
      go_ret
      exact ⟨rfl, hA.out⟩
set_option maxRecDepth 100000 in
set_option maxHeartbeats 4000000 in
theorem pfits_e {w : World} (r : Rp) (a : Option Addr) (c : Nat) (a' : Option Addr) (c' : Nat) (h1 : ¬ (r.op < 0 ∨ 16 ≤ r.op)) (h2 : ¬ (r.op = 0 ∧ r.er ≠ 15)) (h3 : r.er ≠ 0) :
    Calls Tryd.prog 37 #[.agg (rpV r a c a' c')] w fun e w' => e = .returned (.bool (decide (fits r))) ∧ Below w.heap.size w w' := by
  have hA : Hid (Below w.heap.size w (w.alloc (.cells (rpV r a c a' c') 27))) := Lib.hid (Below.alloc (Below.refl _ _) (Nat.le_refl _) _)
  have HF := Lib.hid (fit_err h1 h2 h3)
  obtain ⟨R, hR⟩ : ∃ R, R = decide (fits r) := ⟨_, rfl⟩
  rw [← hR]
  rw [← hR] at HF
  clear hR
  unfold rpV at *
  obtain ⟨op, er, yes, ids, nums⟩ := r
  simp only at *
  generalize ids.length = li at *
  generalize nums.length = ln at *
  have hp0 : 0 ≤ op := by omega
  have hp1 : op < 16 := by omega
  have e3 : (er == 0) = false := by simpa using h3
  have e4 : (er != 0) = true := by simpa using h3
  have key : ∀ b0 : Bool, (op == 0) = b0 → (b0 = true → er = 15) → Calls Tryd.prog 37 #[.agg #[.int .i64 op, .int .i64 er, .bool yes, .slice a li c, .slice a' ln c']] w fun e w' => e = .returned (.bool R) ∧ Below w.heap.size w w' := by
    intro b0 hb0 h15
    by_cases h5 : 1 ≤ er ∧ er ≤ 18
    · obtain ⟨h5a, h5b⟩ := h5
      cases yes
      · by_cases h6 : li = 0
        · subst h6
          by_cases h7 : ln = 0
          · subst h7
            have hr : Hid (R = true) := Lib.hid (by rw [HF.out]; simp; omega)
            cases b0
            · clear h1 h2 h3 h15 HF
              go_enter Tryd.func37, Tryd.ntmps37
              go_wp2_with fail
              go_ret
              exact ⟨by rw [hr.out]; rfl, hA.out⟩
            · have e15 : (er == 15) = true := by simpa using h15 rfl
              have e16 : (er != 15) = false := by simpa using h15 rfl
              clear h1 h2 h3 h15 HF
              go_enter Tryd.func37, Tryd.ntmps37
              go_wp2_with fail
              go_ret
              exact ⟨by rw [hr.out]; rfl, hA.out⟩
          · have hr : Hid (R = false) := Lib.hid (by rw [HF.out]; simp; omega)
            have e7 : (ln == 0) = false := by simpa using h7
            have e8 : ((ln : Int) == 0) = false := by simpa using h7
            cases b0
            · clear h1 h2 h3 h15 HF h7
              go_enter Tryd.func37, Tryd.ntmps37
              go_wp2_with fail
              go_ret
              exact ⟨by rw [hr.out]; rfl, hA.out⟩
            · have e15 : (er == 15) = true := by simpa using h15 rfl
              have e16 : (er != 15) = false := by simpa using h15 rfl
              clear h1 h2 h3 h15 HF h7
              go_enter Tryd.func37, Tryd.ntmps37
              go_wp2_with fail
              go_ret
              exact ⟨by rw [hr.out]; rfl, hA.out⟩
        · have hr : Hid (R = false) := Lib.hid (by rw [HF.out]; simp; omega)
          have e7 : (li == 0) = false := by simpa using h6
          have e8 : ((li : Int) == 0) = false := by simpa using h6
          cases b0
          · clear h1 h2 h3 h15 HF h6
            go_enter Tryd.func37, Tryd.ntmps37
            go_wp2_with fail
            go_ret
            exact ⟨by rw [hr.out]; rfl, hA.out⟩
          · have e15 : (er == 15) = true := by simpa using h15 rfl
            have e16 : (er != 15) = false := by simpa using h15 rfl
            clear h1 h2 h3 h15 HF h6
            go_enter Tryd.func37, Tryd.ntmps37
            go_wp2_with fail
            go_ret
            exact ⟨by rw [hr.out]; rfl, hA.out⟩
      · have hr : Hid (R = false) := Lib.hid (by rw [HF.out]; simp)
        cases b0
        · clear h1 h2 h3 h15 HF
          go_enter Tryd.func37, Tryd.ntmps37
          go_wp2_with fail
          go_ret
          exact ⟨by rw [hr.out]; rfl, hA.out⟩
        · have e15 : (er == 15) = true := by simpa using h15 rfl
          have e16 : (er != 15) = false := by simpa using h15 rfl
          clear h1 h2 h3 h15 HF
          go_enter Tryd.func37, Tryd.ntmps37
          go_wp2_with fail
          go_ret
          exact ⟨by rw [hr.out]; rfl, hA.out⟩
    · have hr : Hid (R = false) := Lib.hid (by rw [HF.out]; exact decide_eq_false fun hh => h5 hh.1)
      have hb : b0 = false := by cases b0 with | false => rfl | true => (have := h15 rfl; omega)
      subst hb
      by_cases h6 : 1 ≤ er
      · have h7 : ¬ er ≤ 18 := by omega
        clear h1 h2 h3 h15 HF h5
        go_enter Tryd.func37, Tryd.ntmps37
        go_wp2_with fail
        go_ret
        exact ⟨by rw [hr.out]; rfl, hA.out⟩
      · clear h1 h2 h3 h15 HF h5
        go_enter Tryd.func37, Tryd.ntmps37
        go_wp2_with fail
        go_ret
        exact ⟨by rw [hr.out]; rfl, hA.out⟩
  exact key (op == 0) rfl (fun h => by have : op = 0 := by simpa using h
                                       omega)
end Go.Proofs.YtlmdkcpiimpniaaDoor

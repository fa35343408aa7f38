/- The walk of the law ClockKnown. -/
import Derived.Test.YtbmlkanonmooeaaB
namespace Go.Proofs.Ytbmlkanonmooeaa
open Go.ChangeShapes Go.WideShapes Go.ChangeAt Go.RowKit
set_option maxRecDepth 100000 in
set_option maxHeartbeats 4000000 in
theorem known_law (w : World) : Calls Try.prog 10 #[] w fun e w' => e = .returned (.bool true) ∧ Below w.heap.size w w' := by
  have E0 : Hid (chk 10 0 4 = 0) := Lib.hid (by decide)
  have E1 : Hid (chk 10 4 3 = 10) := Lib.hid (by decide)
  have E2 : Hid (chk 10 4 4 = 0) := Lib.hid (by decide)
  have E3 : Hid (chk 10 4 9223372036854775798 = 7) := Lib.hid (by decide)
  have E4 : Hid (chk 10 4 9223372036854775797 = 0) := Lib.hid (by decide)
  have E5 : Hid (chk 10 4 10 = 0) := Lib.hid (by decide)
  have E6 : Hid (lv 10 10 0 = false) := Lib.hid (by decide)
  have E7 : Hid (lv 10 10 1 = true) := Lib.hid (by decide)
  have E8 : Hid (lv 10 10 10 = true) := Lib.hid (by decide)
  have E9 : Hid (lv 10 4 0 = true) := Lib.hid (by decide)
  have E10 : Hid (lv 10 4 5 = false) := Lib.hid (by decide)
  have E11 : Hid (addV 9223372036854775797 10 = 9223372036854775807) := Lib.hid (by decide)
  have E12 : Hid (addE 9223372036854775797 10 = 0) := Lib.hid (by decide)
  have E13 : Hid (addV 9223372036854775798 10 = 0) := Lib.hid (by decide)
  have E14 : Hid (addE 9223372036854775798 10 = 7) := Lib.hid (by decide)
  have E15 : Hid (lv 10 10 (-9223372036854775808) = false) := Lib.hid (by decide)
  have E16 : Hid (chk 9223372036854775807 0 0 = 0) := Lib.hid (by decide)
  have E17 : Hid (chk 9223372036854775807 0 1 = 7) := Lib.hid (by decide)
  have E18 : Hid (chk 9223372036854775807 0 (-1) = 10) := Lib.hid (by decide)
  have E19 : Hid (addV (-9223372036854775808) 9223372036854775807 = (-1)) := Lib.hid (by decide)
  have E20 : Hid (addE (-9223372036854775808) 9223372036854775807 = 0) := Lib.hid (by decide)
  have E21 : Hid (lv 9223372036854775807 0 (-9223372036854775806) = true) := Lib.hid (by decide)
  have E22 : Hid (lv 9223372036854775807 0 (-9223372036854775807) = false) := Lib.hid (by decide)
  go_enter Try.func10, Try.ntmps10
  go_wp2_with fail
  refine (new_yes 10 _ (by decide)).mono ?_; rintro e wz ⟨rfl, rfl⟩
  have N1 := Lib.hid (block_new w (clk 10 0))
  have ge_c := Lib.hid (show w.heap.size ≤ w.heap.size from Nat.le_refl _)
  have T1 := Lib.hid (Below.alloc (Below.refl w.heap.size w) ge_c.out (clk 10 0))
  go_wp2_with fail
  refine (advance_any _ 10 0 4 _ N1.out (by decide) (by decide) (by decide)).mono ?_; rintro e w2 ⟨rfl, b2, t2⟩
  have B2 := Lib.hid (show w2.heap[w.heap.size]? = some (clk 10 4) from b2)
  have T2 := Lib.hid (Below.trans T1.out (t2.below T1.out.size (fun k hk => by have := ge_c.out; omega)))
  clear b2 t2
  rw [E0.out]
  go_wp2_with fail
  refine (advance_any _ 10 4 3 _ B2.out (by decide) (by decide) (by decide)).mono ?_; rintro e w3 ⟨rfl, b3, t3⟩
  have B3 := Lib.hid (show w3.heap[w.heap.size]? = some (clk 10 4) from b3)
  have T3 := Lib.hid (Below.trans T2.out (t3.below T2.out.size (fun k hk => by have := ge_c.out; omega)))
  clear b3 t3
  rw [E1.out]
  go_wp2_with fail
  refine (advance_any _ 10 4 4 _ B3.out (by decide) (by decide) (by decide)).mono ?_; rintro e w4 ⟨rfl, b4, t4⟩
  have B4 := Lib.hid (show w4.heap[w.heap.size]? = some (clk 10 4) from b4)
  have T4 := Lib.hid (Below.trans T3.out (t4.below T3.out.size (fun k hk => by have := ge_c.out; omega)))
  clear b4 t4
  rw [E2.out]
  go_wp2_with fail
  refine (check_any _ 10 4 9223372036854775798 _ B4.out (by decide) (by decide) (by decide)).mono ?_; rintro e wz ⟨rfl, rfl⟩
  rw [E3.out]
  go_wp2_with fail
  refine (check_any _ 10 4 9223372036854775797 _ B4.out (by decide) (by decide) (by decide)).mono ?_; rintro e wz ⟨rfl, rfl⟩
  rw [E4.out]
  go_wp2_with fail
  refine (now_any _ 10 4 _ B4.out (by decide)).mono ?_; rintro e wz ⟨rfl, rfl⟩
  go_wp2_with fail
  refine (copy_any _ 10 4 _ B4.out (by decide)).mono ?_; rintro e wz ⟨rfl, rfl⟩
  have N5 := Lib.hid (block_new w4 (clk 10 4))
  have K5c := Lib.hid (block_old B4.out (clk 10 4))
  have lt_d_c := Lib.hid (lt_of_block B4.out)
  have ge_d := Lib.hid (show w.heap.size ≤ w4.heap.size from T4.out.size)
  have T5 := Lib.hid (Below.alloc T4.out ge_d.out (clk 10 4))
  go_wp2_with fail
  refine (advance_any _ 10 4 10 _ K5c.out (by decide) (by decide) (by decide)).mono ?_; rintro e w6 ⟨rfl, b6, t6⟩
  have B6 := Lib.hid (show w6.heap[w.heap.size]? = some (clk 10 10) from b6)
  have K6d := Lib.hid (Touch.keep t6 N5.out (by have := lt_d_c.out; omega))
  have T6 := Lib.hid (Below.trans T5.out (t6.below T5.out.size (fun k hk => by have := ge_c.out; omega)))
  clear b6 t6
  rw [E5.out]
  go_wp2_with fail
  refine (live_any _ 10 10 0 _ B6.out (by decide) (by decide) (by decide)).mono ?_; rintro e wz ⟨rfl, rfl⟩
  rw [E6.out]
  go_wp2_with fail
  refine (live_any _ 10 10 1 _ B6.out (by decide) (by decide) (by decide)).mono ?_; rintro e wz ⟨rfl, rfl⟩
  rw [E7.out]
  go_wp2_with fail
  refine (live_any _ 10 10 10 _ B6.out (by decide) (by decide) (by decide)).mono ?_; rintro e wz ⟨rfl, rfl⟩
  rw [E8.out]
  go_wp2_with fail
  refine (now_any _ 10 4 _ K6d.out (by decide)).mono ?_; rintro e wz ⟨rfl, rfl⟩
  go_wp2_with fail
  refine (live_any _ 10 4 0 _ K6d.out (by decide) (by decide) (by decide)).mono ?_; rintro e wz ⟨rfl, rfl⟩
  rw [E9.out]
  go_wp2_with fail
  refine (live_any _ 10 4 5 _ K6d.out (by decide) (by decide) (by decide)).mono ?_; rintro e wz ⟨rfl, rfl⟩
  rw [E10.out]
  go_wp2_with fail
  refine (window_any _ 10 4 _ K6d.out (by decide)).mono ?_; rintro e wz ⟨rfl, rfl⟩
  go_wp2_with fail
  refine (expiry_any _ 10 10 9223372036854775797 _ B6.out (by decide) (by decide) (by decide)).mono ?_; rintro e wz ⟨rfl, rfl⟩
  rw [E11.out]
  rw [E12.out]
  go_wp2_with fail
  refine (expiry_any _ 10 10 9223372036854775798 _ B6.out (by decide) (by decide) (by decide)).mono ?_; rintro e wz ⟨rfl, rfl⟩
  rw [E13.out]
  rw [E14.out]
  go_wp2_with fail
  refine (live_any _ 10 10 (-9223372036854775808) _ B6.out (by decide) (by decide) (by decide)).mono ?_; rintro e wz ⟨rfl, rfl⟩
  rw [E15.out]
  go_wp2_with fail
  refine (new_no 0 _ (by decide)).mono ?_; rintro e wz ⟨rfl, rfl⟩
  go_wp2_with fail
  refine (new_no (-9223372036854775808) _ (by decide)).mono ?_; rintro e wz ⟨rfl, rfl⟩
  go_wp2_with fail
  refine (new_yes 9223372036854775807 _ (by decide)).mono ?_; rintro e wz ⟨rfl, rfl⟩
  have N7 := Lib.hid (block_new w6 (clk 9223372036854775807 0))
  have K7c := Lib.hid (block_old B6.out (clk 9223372036854775807 0))
  have lt_x_c := Lib.hid (lt_of_block B6.out)
  have K7d := Lib.hid (block_old K6d.out (clk 9223372036854775807 0))
  have lt_x_d := Lib.hid (lt_of_block K6d.out)
  have ge_x := Lib.hid (show w.heap.size ≤ w6.heap.size from T6.out.size)
  have T7 := Lib.hid (Below.alloc T6.out ge_x.out (clk 9223372036854775807 0))
  go_wp2_with fail
  refine (advance_any _ 9223372036854775807 0 0 _ N7.out (by decide) (by decide) (by decide)).mono ?_; rintro e w8 ⟨rfl, b8, t8⟩
  have B8 := Lib.hid (show w8.heap[w6.heap.size]? = some (clk 9223372036854775807 0) from b8)
  have K8c := Lib.hid (Touch.keep t8 K7c.out (by have := lt_x_c.out; omega))
  have K8d := Lib.hid (Touch.keep t8 K7d.out (by have := lt_x_d.out; omega))
  have T8 := Lib.hid (Below.trans T7.out (t8.below T7.out.size (fun k hk => by have := ge_x.out; omega)))
  clear b8 t8
  rw [E16.out]
  go_wp2_with fail
  refine (advance_any _ 9223372036854775807 0 1 _ B8.out (by decide) (by decide) (by decide)).mono ?_; rintro e w9 ⟨rfl, b9, t9⟩
  have B9 := Lib.hid (show w9.heap[w6.heap.size]? = some (clk 9223372036854775807 0) from b9)
  have K9c := Lib.hid (Touch.keep t9 K8c.out (by have := lt_x_c.out; omega))
  have K9d := Lib.hid (Touch.keep t9 K8d.out (by have := lt_x_d.out; omega))
  have T9 := Lib.hid (Below.trans T8.out (t9.below T8.out.size (fun k hk => by have := ge_x.out; omega)))
  clear b9 t9
  rw [E17.out]
  go_wp2_with fail
  refine (advance_any _ 9223372036854775807 0 (-1) _ B9.out (by decide) (by decide) (by decide)).mono ?_; rintro e w10 ⟨rfl, b10, t10⟩
  have B10 := Lib.hid (show w10.heap[w6.heap.size]? = some (clk 9223372036854775807 0) from b10)
  have K10c := Lib.hid (Touch.keep t10 K9c.out (by have := lt_x_c.out; omega))
  have K10d := Lib.hid (Touch.keep t10 K9d.out (by have := lt_x_d.out; omega))
  have T10 := Lib.hid (Below.trans T9.out (t10.below T9.out.size (fun k hk => by have := ge_x.out; omega)))
  clear b10 t10
  rw [E18.out]
  go_wp2_with fail
  refine (expiry_any _ 9223372036854775807 0 (-9223372036854775808) _ B10.out (by decide) (by decide) (by decide)).mono ?_; rintro e wz ⟨rfl, rfl⟩
  rw [E19.out]
  rw [E20.out]
  go_wp2_with fail
  refine (live_any _ 9223372036854775807 0 (-9223372036854775806) _ B10.out (by decide) (by decide) (by decide)).mono ?_; rintro e wz ⟨rfl, rfl⟩
  rw [E21.out]
  go_wp2_with fail
  refine (live_any _ 9223372036854775807 0 (-9223372036854775807) _ B10.out (by decide) (by decide) (by decide)).mono ?_; rintro e wz ⟨rfl, rfl⟩
  rw [E22.out]
  go_wp2_with fail
  refine (works_any _).mono ?_; rintro e wl ⟨rfl, bl⟩
  have BL := Lib.hid bl; clear bl
  go_wp2_with fail
  go_ret
  exact ⟨rfl, T10.out.trans (Below.mono BL.out T10.out.size)⟩
end Go.Proofs.Ytbmlkanonmooeaa

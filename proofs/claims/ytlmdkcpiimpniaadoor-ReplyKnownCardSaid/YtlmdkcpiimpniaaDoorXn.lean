/- ReplyKnown in plain: its replies, their bytes and lines, replies that are not valid, lines that are none, the limits. -/
import Derived.Test.YtlmdkcpiimpniaaDoorWi
namespace Go.Proofs.YtlmdkcpiimpniaaDoor
open Go.ChangeShapes Go.WideShapes Go.ChangeAt Go.RowKit
set_option linter.unusedVariables false
set_option linter.unusedSimpArgs false

def k1 : List Rp := [⟨1, 0, false, [], [1]⟩,
  ⟨8, 0, true, [], [7]⟩,
  ⟨8, 0, false, [], []⟩,
  ⟨2, 10, false, [], []⟩,
  ⟨0, 15, false, [], []⟩,
  ⟨3, 0, false, [], []⟩,
  ⟨15, 0, false, [], [0, (-1), 2, (-9223372036854775808), 9223372036854775807]⟩,
  ⟨13, 0, false, [18446744073709551615], []⟩]
def k1V (G : Nat) : List RV := [⟨⟨1, 0, false, [], [1]⟩, none, 0, some ⟨G, 0, none⟩, 1⟩,
  ⟨⟨8, 0, true, [], [7]⟩, none, 0, some ⟨G + 1, 0, none⟩, 1⟩,
  ⟨⟨8, 0, false, [], []⟩, none, 0, none, 0⟩,
  ⟨⟨2, 10, false, [], []⟩, none, 0, none, 0⟩,
  ⟨⟨0, 15, false, [], []⟩, none, 0, none, 0⟩,
  ⟨⟨3, 0, false, [], []⟩, none, 0, none, 0⟩,
  ⟨⟨15, 0, false, [], [0, (-1), 2, (-9223372036854775808), 9223372036854775807]⟩, none, 0, some ⟨G + 2, 0, none⟩, 5⟩,
  ⟨⟨13, 0, false, [18446744073709551615], []⟩, some ⟨G + 3, 0, none⟩, 1, none, 0⟩]
def k1B : List Str := [[1, 0, 0, 0, 1, 2],
  [8, 0, 1, 0, 1, 14],
  [8, 0, 0, 0, 0],
  [2, 10, 0, 0, 0],
  [0, 15, 0, 0, 0],
  [3, 0, 0, 0, 0],
  [15, 0, 0, 0, 5, 0, 1, 4, 255, 255, 255, 255, 255, 255, 255, 255, 255, 1, 254, 255, 255, 255, 255, 255, 255, 255, 255, 1],
  [13, 0, 0, 1, 255, 255, 255, 255, 255, 255, 255, 255, 255, 1, 0]]
def k1T : List Str := [[97, 100, 100, 32, 111, 107, 32, 49],
  [109, 105, 110, 105, 109, 97, 120, 32, 111, 107, 32, 121, 101, 115, 32, 55],
  [109, 105, 110, 105, 109, 97, 120, 32, 111, 107, 32, 110, 111],
  [116, 105, 99, 107, 32, 101, 114, 114, 111, 114, 32, 49, 48],
  [45, 32, 101, 114, 114, 111, 114, 32, 49, 53],
  [99, 111, 110, 110, 101, 99, 116, 101, 100, 32, 111, 107, 32, 110, 111],
  [115, 116, 97, 116, 115, 32, 111, 107, 32, 48, 32, 45, 49, 32, 50, 32, 45, 57, 50, 50, 51, 51, 55, 50, 48, 51, 54, 56, 53, 52, 55, 55, 53, 56, 48, 56, 32, 57, 50, 50, 51, 51, 55, 50, 48, 51, 54, 56, 53, 52, 55, 55, 53, 56, 48, 55],
  [98, 114, 105, 100, 103, 101, 115, 32, 111, 107, 32, 49, 56, 52, 52, 54, 55, 52, 52, 48, 55, 51, 55, 48, 57, 53, 53, 49, 54, 49, 53]]
def k2 : List Rp := [⟨0, 0, false, [], []⟩,
  ⟨16, 0, false, [], []⟩,
  ⟨(-1), 2, false, [], []⟩,
  ⟨16, 2, false, [], []⟩,
  ⟨0, 2, false, [], []⟩,
  ⟨1, 0, false, [], []⟩,
  ⟨1, 19, false, [], []⟩,
  ⟨1, (-1), false, [], []⟩,
  ⟨1, 2, false, [], [1]⟩,
  ⟨3, 2, true, [], []⟩,
  ⟨4, 0, true, [], [1]⟩,
  ⟨8, 0, false, [], [1]⟩,
  ⟨8, 0, true, [], []⟩,
  ⟨5, 0, false, [], [1, 2]⟩,
  ⟨9, 0, false, [1, 2], [1, 2]⟩,
  ⟨9, 0, false, [1, 2, 3], [1]⟩,
  ⟨3, 0, false, [], [0]⟩,
  ⟨15, 0, false, [], [0, 0, 0, 0, 0, 0, 0, 0, 0, 0]⟩,
  ⟨13, 0, false, [], [1]⟩]
def k2V (G : Nat) : List RV := [⟨⟨0, 0, false, [], []⟩, none, 0, none, 0⟩,
  ⟨⟨16, 0, false, [], []⟩, none, 0, none, 0⟩,
  ⟨⟨(-1), 2, false, [], []⟩, none, 0, none, 0⟩,
  ⟨⟨16, 2, false, [], []⟩, none, 0, none, 0⟩,
  ⟨⟨0, 2, false, [], []⟩, none, 0, none, 0⟩,
  ⟨⟨1, 0, false, [], []⟩, none, 0, none, 0⟩,
  ⟨⟨1, 19, false, [], []⟩, none, 0, none, 0⟩,
  ⟨⟨1, (-1), false, [], []⟩, none, 0, none, 0⟩,
  ⟨⟨1, 2, false, [], [1]⟩, none, 0, some ⟨G, 0, none⟩, 1⟩,
  ⟨⟨3, 2, true, [], []⟩, none, 0, none, 0⟩,
  ⟨⟨4, 0, true, [], [1]⟩, none, 0, some ⟨G + 1, 0, none⟩, 1⟩,
  ⟨⟨8, 0, false, [], [1]⟩, none, 0, some ⟨G + 2, 0, none⟩, 1⟩,
  ⟨⟨8, 0, true, [], []⟩, none, 0, none, 0⟩,
  ⟨⟨5, 0, false, [], [1, 2]⟩, none, 0, some ⟨G + 3, 0, none⟩, 2⟩,
  ⟨⟨9, 0, false, [1, 2], [1, 2]⟩, some ⟨G + 4, 0, none⟩, 2, some ⟨G + 5, 0, none⟩, 2⟩,
  ⟨⟨9, 0, false, [1, 2, 3], [1]⟩, some ⟨G + 6, 0, none⟩, 3, some ⟨G + 7, 0, none⟩, 1⟩,
  ⟨⟨3, 0, false, [], [0]⟩, none, 0, some ⟨G + 8, 0, none⟩, 1⟩,
  ⟨⟨15, 0, false, [], [0, 0, 0, 0, 0, 0, 0, 0, 0, 0]⟩, none, 0, some ⟨G + 9, 0, none⟩, 10⟩,
  ⟨⟨13, 0, false, [], [1]⟩, none, 0, some ⟨G + 10, 0, none⟩, 1⟩]
def k3 : List Str := [[],
  [97, 100, 100],
  [97, 100, 100, 32, 111, 107],
  [97, 100, 100, 32, 111, 107, 32, 48, 49],
  [97, 100, 100, 32, 32, 111, 107, 32, 49],
  [97, 100, 100, 32, 111, 107, 32, 49, 32],
  [32, 97, 100, 100, 32, 111, 107, 32, 49],
  [97, 100, 100, 32, 111, 107, 32, 43, 49],
  [97, 100, 100, 32, 111, 107, 32, 45, 48],
  [97, 100, 100, 32, 111, 107, 32, 57, 50, 50, 51, 51, 55, 50, 48, 51, 54, 56, 53, 52, 55, 55, 53, 56, 48, 56],
  [115, 105, 122, 101, 32, 111, 107, 32, 49, 32, 50],
  [99, 111, 110, 110, 101, 99, 116, 101, 100, 32, 111, 107],
  [99, 111, 110, 110, 101, 99, 116, 101, 100, 32, 111, 107, 32, 109, 97, 121, 98, 101],
  [109, 105, 110, 105, 109, 97, 120, 32, 111, 107, 32, 121, 101, 115],
  [109, 105, 110, 105, 109, 97, 120, 32, 111, 107, 32, 110, 111, 32, 55],
  [97, 100, 100, 32, 101, 114, 114, 111, 114, 32, 48],
  [97, 100, 100, 32, 101, 114, 114, 111, 114, 32, 49, 57],
  [97, 100, 100, 32, 101, 114, 114, 111, 114, 32, 49, 32, 49],
  [45, 32, 111, 107],
  [45, 32, 101, 114, 114, 111, 114, 32, 49, 52],
  [99, 108, 117, 115, 116, 101, 114, 115, 32, 111, 107, 32, 49],
  [98, 114, 105, 100, 103, 101, 115, 32, 111, 107, 32, 49, 56, 52, 52, 54, 55, 52, 52, 48, 55, 51, 55, 48, 57, 53, 53, 49, 54, 49, 54],
  [98, 114, 105, 100, 103, 101, 115, 32, 111, 107, 32, 45, 49],
  [65, 100, 100, 32, 111, 107, 32, 49],
  [97, 100, 100, 32, 111, 107, 32, 49, 10],
  [109, 101, 114, 103, 101, 115, 32, 111, 107, 32, 49, 32, 50]]
theorem k1_r (G : Nat) : (k1V G).map RV.r = k1 := rfl
theorem k2_r (G : Nat) : (k2V G).map RV.r = k2 := rfl
theorem k1_chk : ∀ r ∈ k1, chk r = 0 := by decide +kernel
theorem k1_bytes : k1.map (fun r => strB (putR r)) = k1B := by decide +kernel
theorem k1_lines : k1.map lineS = k1T := by decide +kernel
theorem k1_in : ∀ r ∈ k1, RpIn r := by
  have h : ∀ r ∈ k1, (∀ x ∈ r.ids, x ≤ 18446744073709551615) ∧ (∀ x ∈ r.nums, -9223372036854775808 ≤ x ∧ x ≤ 9223372036854775807) := by decide +kernel
  exact fun r hr => ⟨(h r hr).1, (h r hr).2⟩
theorem k2_chk : ∀ r ∈ k2, chk r = 2 := by decide +kernel
theorem k2_len : ∀ r ∈ k2, r.ids.length ≤ 100000000 ∧ r.nums.length ≤ 100000000 := by decide +kernel
theorem k3_none : ∀ s ∈ k3, (docParse s).isNone = true := by decide +kernel
theorem k3_len : ∀ s ∈ k3, s.length ≤ 100000 := by decide +kernel
theorem k3_parse {s : Str} (h : s ∈ k3) : parseR s = none := by
  have := k3_none s h
  rw [parse_doc]
  cases hd : docParse s with
  | none => rfl
  | some r => rw [hd] at this; cases this
/-- The replies with n Nums. -/
def kZ (n : Nat) : Rp := ⟨12, 0, false, [], List.replicate n 0⟩
theorem kZ_fits (n : Nat) : fits (kZ n) := by
  unfold fits kZ
  simp [count, ke, ki, kn]
theorem kZ_in (n : Nat) : RpIn (kZ n) := ⟨fun x hx => (by cases hx), fun x hx => by
  have : x = 0 := (List.mem_replicate.1 hx).2
  omega⟩
theorem kZ_len (n : Nat) : (kZ n).ids.length = 0 ∧ (kZ n).nums.length = n := ⟨rfl, List.length_replicate⟩
theorem kZ_ok {n : Nat} (h : n ≤ 65536) : chk (kZ n) = 0 := by
  unfold chk
  rw [if_pos (kZ_fits n), (kZ_len n).1, (kZ_len n).2, if_neg (by omega)]
theorem kZ_long {n : Nat} (h : 65536 < n) : chk (kZ n) = 16 := by
  unfold chk
  rw [if_pos (kZ_fits n), (kZ_len n).1, (kZ_len n).2, if_pos (by omega)]
/-- No list has 65537 numbers. -/
theorem vi_big : vi 65537 = [129, 128, 4] := by decide +kernel
theorem vi_0 : vi 0 = [0] := by decide +kernel
theorem get_big (more : List Nat) : getR (12 :: 0 :: 0 :: 0 :: 129 :: 128 :: 4 :: more) = none := by
  have e1 : lst (0 :: 129 :: 128 :: 4 :: more) = some ([], 1) := by
    have := gu_vi (x := 0) (by decide) (129 :: 128 :: 4 :: more)
    rw [vi_0] at this
    unfold lst
    rw [show (0 :: 129 :: 128 :: 4 :: more) = [0] ++ 129 :: 128 :: 4 :: more from rfl, this]
    rfl
  have e2 : lst (129 :: 128 :: 4 :: more) = none := by
    have := gu_vi (x := 65537) (by decide) more
    rw [vi_big] at this
    unfold lst
    rw [show (129 :: 128 :: 4 :: more) = [129, 128, 4] ++ more from rfl, this]
    rfl
  simp only [getR]
  rw [if_neg (by omega), e1]
  simp [e2]
/-- The bytes of a string. -/
def natsS (s : Str) : List Nat := s.map UInt8.toNat
theorem natsS_by (s : Str) : By (natsS s) := fun c hc => by
  obtain ⟨x, _, rfl⟩ := List.mem_map.1 hc
  exact x.toNat_lt
theorem ns_natsS (s : Str) : ns (natsS s) = us s := by simp [ns, natsS, us]
theorem outM_sl {w : World} {B : Nat} {v : Value} {l : Str} (h : OutM w B v l) : ∃ a c, v = .slice a l.length c ∧ IsK .u8 w a l.length c (ns (natsS l)) := by
  rcases h with ⟨rfl, rfl⟩ | ⟨g, cap, cur, fz, rfl, hBg, hg, hfz, hnc, hcm, hcs, htake⟩
  · exact ⟨none, 0, rfl, IsSl.nil w⟩
  · refine ⟨_, cap, rfl, ?_⟩
    rw [ns_natsS]
    refine ⟨(us_len l).symm, hnc, hcm, fun h => (by cases h), fun _ => ⟨g, 0, rfl, lt_of_block hg, fun i hi j hj => ?_⟩⟩
    obtain rfl : j = 0 := by omega
    have hil : i < l.length := by rwa [us_len] at hi
    have h1 := OutM.holds (n := 0) (cap := 0) hg htake i (.int .u8 ((l[i]).toNat : Int)) (by simp [Lib.byteCells, hil])
    rw [addr_add] at h1
    rw [show 0 + i * 1 + 0 = 0 + i by omega, h1]
    simp [encK, us]
/-- make of n numbers, or bytes. -/
theorem make_n (n : Nat) (hn : n ≤ 16777216) : ∀ w, (Instr.makeSlice 23 (.int .i64 (n : Int)) (.int .i64 (n : Int))).run Tryd.prog w = .ok (.slice (some ⟨w.heap.size, 0, none⟩) n n) (w.alloc (.cells (madeCells #[Value.int .i64 0] n) 2)) := fun w => by
  obtain ⟨i0, hi, hz0, hz1, hz2⟩ := info_parts info2
  have hr := run_make (P := Tryd.prog) w 23 2 i0 (.int .i64 0) Tryd.underlying23 hi hz0 .i64 .i64 n n (by omega) (by omega) (by rw [hz2]; omega) (by omega)
  rw [hz1] at hr
  simpa [Value.cells] using hr
theorem made_n (w : World) (n : Nat) (hn : n ≤ 16777216) : IsK .i64 (w.alloc (.cells (madeCells #[Value.int .i64 0] n) 2)) (some ⟨w.heap.size, 0, none⟩) n n (List.replicate n 0) :=
  IsSl.of_block (encK_len _) (f := (0, 0)) (t := 2) (block_new w _) (by rw [vs_made, flat_K]) List.length_replicate.symm (by unfold maxLen; omega)
theorem made_y (w : World) (n : Nat) (hn : n ≤ 16777216) : IsK .u8 (w.alloc (.cells (madeCells #[Value.int .u8 0] n) 5)) (some ⟨w.heap.size, 0, none⟩) n n (ns (List.replicate n 0)) :=
  IsSl.of_block (encK_len _) (f := (0, 0)) (t := 5) (block_new w _) (by rw [vs_made, flat_K]; simp [ns]) (by rw [ns_len]; exact List.length_replicate.symm) (by unfold maxLen; omega)
def zS (n : Nat) : Str := strB (List.replicate n 0)
theorem zS_len (n : Nat) : (zS n).length = n := by simp [zS, strB]
theorem zeros_by (n : Nat) : ∀ x ∈ List.replicate n 0, x < 256 := fun x hx => by
  have : x = 0 := (List.mem_replicate.1 hx).2
  omega
theorem get_bigS (z : Str) : getR (natsS ([12, 0, 0, 0, 129, 128, 4] ++ z)) = none := get_big (natsS z)
/-- A world after some objects were made. -/
def allocs (w : World) : List Obj → World
  | [] => w
  | o :: l => allocs (w.alloc o) l
theorem allocs_below : ∀ (l : List Obj) (w w0 : World) (B : Nat), B ≤ w.heap.size → Below B w0 w → Below B w0 (allocs w l)
  | [], _, _, _, _, h => h
  | o :: l, w, w0, B, hB, h => allocs_below l (w.alloc o) w0 B (by simp; omega) (h.alloc hB o)
theorem allocs_at : ∀ (l : List Obj) (w : World) (i : Nat) (o : Obj), l[i]? = some o → (allocs w l).heap[w.heap.size + i]? = some o
  | [], _, _, _, h => by simp at h
  | o' :: l, w, 0, o, h => by
    simp at h
    subst h
    have hb := allocs_below l (w.alloc o') (w.alloc o') (w.alloc o').heap.size (Nat.le_refl _) (Below.refl _ _)
    exact (hb.block w.heap.size (by simp)).trans (block_new w o')
  | o' :: l, w, i + 1, o, h => by
    have := allocs_at l (w.alloc o') i o (by simpa using h)
    rw [show (w.alloc o').heap.size = w.heap.size + 1 by simp] at this
    rw [show w.heap.size + (i + 1) = w.heap.size + 1 + i by omega]
    exact this
theorem sl_u {w : World} {g : Nat} {l : List Nat} (h : w.heap[g]? = some (.cells (vs .u64 (ns l)).toArray 28 (0, 0))) (hm : l.length ≤ maxLen) : IsK .u64 w (some ⟨g, 0, none⟩) l.length l.length (ns l) := IsSl.of_block (encK_len _) h (by rw [flat_K]) (ns_len l).symm hm
theorem sl_i {w : World} {g : Nat} {l : List Int} (h : w.heap[g]? = some (.cells (vs .i64 l).toArray 2 (0, 0))) (hm : l.length ≤ maxLen) : IsK .i64 w (some ⟨g, 0, none⟩) l.length l.length l := IsSl.of_block (encK_len _) h (by rw [flat_K]) rfl hm
theorem sl_5 {w : World} {g : Nat} {l : List RV} (h : w.heap[g]? = some (.cells (flat enc5 l).toArray 27 (0, 0))) (hm : l.length ≤ maxLen) : IsSl 5 enc5 w (some ⟨g, 0, none⟩) l.length l.length l := IsSl.of_block enc5_len h rfl rfl hm
theorem sl_s {w : World} {g : Nat} {l : List Str} (h : w.heap[g]? = some (.cells (strs l) 9 (0, 0))) (hm : l.length ≤ maxLen) : IsSl 1 encS w (some ⟨g, 0, none⟩) l.length l.length l := IsSl.of_block encS_len h (by rw [flat_encS]; simp [strs]) rfl hm
theorem sl_z {w : World} {g n : Nat} (h : w.heap[g]? = some (.cells (madeCells #[Value.int .i64 0] n) 2 (0, 0))) (hn : n ≤ 16777216) : IsK .i64 w (some ⟨g, 0, none⟩) n n (List.replicate n 0) :=
  IsSl.of_block (encK_len _) h (by rw [vs_made, flat_K]) List.length_replicate.symm (by unfold maxLen; omega)
def o1 (G : Nat) : List Obj := [.cells #[.int .i64 1] 2, .cells #[.int .i64 7] 2, .cells #[.int .i64 0, .int .i64 (-1), .int .i64 2, .int .i64 (-9223372036854775808), .int .i64 9223372036854775807] 2, .cells #[.int .u64 18446744073709551615] 28, .cells (flat enc5 (k1V G)).toArray 27, .cells (strs k1B) 9, .cells (strs k1T) 9]
def o2 (G : Nat) : List Obj := [.cells #[.int .i64 1] 2, .cells #[.int .i64 1] 2, .cells #[.int .i64 1] 2, .cells #[.int .i64 1, .int .i64 2] 2, .cells #[.int .u64 1, .int .u64 2] 28, .cells #[.int .i64 1, .int .i64 2] 2, .cells #[.int .u64 1, .int .u64 2, .int .u64 3] 28, .cells #[.int .i64 1] 2, .cells #[.int .i64 0] 2, .cells (madeCells #[Value.int .i64 0] 10) 2, .cells #[.int .i64 1] 2, .cells (flat enc5 (k2V G)).toArray 27]
/-- The world as the first loop knows it. -/
structure KnW (w W : World) : Prop where
  below : Below w.heap.size w W
  l : Rps W (some ⟨w.heap.size + 4, 0, none⟩) 8 8 (k1V w.heap.size)
  b : IsSl 1 encS W (some ⟨w.heap.size + 5, 0, none⟩) 8 8 k1B
  t : IsSl 1 encS W (some ⟨w.heap.size + 6, 0, none⟩) 8 8 k1T
theorem KnW.keep {w W W' : World} (h : KnW w W) (hb : Below W.heap.size W W') : KnW w W' := ⟨h.below.trans (hb.mono h.below.size), h.l.below hb, h.b.below hb, h.t.below hb⟩
theorem kn_start (w : World) : KnW w (allocs w (o1 w.heap.size)) := by
  have hb := allocs_below (o1 w.heap.size) w w w.heap.size (Nat.le_refl _) (Below.refl _ _)
  have a0 := allocs_at (o1 w.heap.size) w 0 _ rfl
  have a1 := allocs_at (o1 w.heap.size) w 1 _ rfl
  have a2 := allocs_at (o1 w.heap.size) w 2 _ rfl
  have a3 := allocs_at (o1 w.heap.size) w 3 _ rfl
  have a4 := allocs_at (o1 w.heap.size) w 4 _ rfl
  have a5 := allocs_at (o1 w.heap.size) w 5 _ rfl
  have a6 := allocs_at (o1 w.heap.size) w 6 _ rfl
  generalize allocs w (o1 w.heap.size) = W at *
  rw [Nat.add_zero] at a0
  have m : ∀ n, n ≤ 26 → n ≤ maxLen := fun n h => by unfold maxLen; omega
  refine ⟨hb, ⟨sl_5 a4 (m 8 (by omega)), fun r hr => ?_⟩, sl_s a5 (m 8 (by omega)), sl_s a6 (m 8 (by omega))⟩
  simp only [k1V, List.mem_cons, List.not_mem_nil, or_false] at hr
  have n0 : IsSl 1 (encK .u64) W none 0 0 (ns []) := IsSl.nil W
  have n1 : IsSl 1 (encK .i64) W none 0 0 [] := IsSl.nil W
  rcases hr with rfl | rfl | rfl | rfl | rfl | rfl | rfl | rfl
  · exact ⟨n0, sl_i (l := [1]) a0 (m 1 (by omega))⟩
  · exact ⟨n0, sl_i (l := [7]) a1 (m 1 (by omega))⟩
  · exact ⟨n0, n1⟩
  · exact ⟨n0, n1⟩
  · exact ⟨n0, n1⟩
  · exact ⟨n0, n1⟩
  · exact ⟨n0, sl_i (l := [0, -1, 2, -9223372036854775808, 9223372036854775807]) a2 (m 5 (by omega))⟩
  · exact ⟨sl_u (l := [18446744073709551615]) a3 (m 1 (by omega)), n1⟩
theorem kn_odd (w : World) : Below w.heap.size w (allocs w (o2 w.heap.size)) ∧ IsSl 5 enc5 (allocs w (o2 w.heap.size)) (some ⟨w.heap.size + 11, 0, none⟩) 19 19 (k2V w.heap.size) :=
  ⟨allocs_below (o2 w.heap.size) w w w.heap.size (Nat.le_refl _) (Below.refl _ _), sl_5 (l := k2V w.heap.size) (allocs_at (o2 w.heap.size) w 11 _ rfl) (by show 19 ≤ maxLen; unfold maxLen; omega)⟩
theorem kn_texts (w : World) : Below w.heap.size w (w.alloc (.cells (strs k3) 9)) ∧ IsSl 1 encS (w.alloc (.cells (strs k3) 9)) (some ⟨w.heap.size, 0, none⟩) 26 26 k3 :=
  ⟨Below.alloc (Below.refl _ _) (Nat.le_refl _) _, sl_s (l := k3) (block_new w _) (by show 26 ≤ maxLen; unfold maxLen; omega)⟩
theorem k1_at (G : Nat) {i : Nat} (h : i < (k1V G).length) : RpIn ((k1V G)[i]).r ∧ chk ((k1V G)[i]).r = 0 ∧ k1B.getD i [] = strB (putR ((k1V G)[i]).r) ∧ k1T.getD i [] = lineS ((k1V G)[i]).r := by
  have e : k1[i]? = some ((k1V G)[i]).r := by rw [← k1_r G]; simp [h]
  have hm : ((k1V G)[i]).r ∈ k1 := List.mem_of_getElem? e
  refine ⟨k1_in _ hm, k1_chk _ hm, ?_, ?_⟩
  · rw [← k1_bytes]; simp [List.getD_eq_getElem?_getD, e]
  · rw [← k1_lines]; simp [List.getD_eq_getElem?_getD, e]
theorem k2_at (G : Nat) {i : Nat} (h : i < (k2V G).length) : chk ((k2V G)[i]).r = 2 ∧ ((k2V G)[i]).r.ids.length ≤ 100000000 ∧ ((k2V G)[i]).r.nums.length ≤ 100000000 := by
  have e : k2[i]? = some ((k2V G)[i]).r := by rw [← k2_r G]; simp [h]
  have hm : ((k2V G)[i]).r ∈ k2 := List.mem_of_getElem? e
  exact ⟨k2_chk _ hm, k2_len _ hm⟩
theorem k3_at {w : World} (hE : Env w) {i : Nat} (h : i < 26) : Calls Tryd.prog 15 #[.string ⟨(k3.getD i []).toArray⟩] w fun e w' => ∃ a c a' c', e = .returned (.tuple #[.agg #[.int .i64 0, .int .i64 0, .bool false, .slice a 0 c, .slice a' 0 c'], .int .i64 15]) ∧ Below w.heap.size w w' := by
  have hm : k3.getD i [] ∈ k3 := by
    have hl : i < k3.length := h
    simp [List.getD_eq_getElem?_getD, List.getElem?_eq_getElem hl]
  exact (pparse hE (k3_len _ hm)).mono (fun e w' h => pas_none (k3_parse hm) h)
/-- The limits. -/
theorem kZ_ls {w : World} {a : Option Addr} {n c : Nat} (h : IsK .i64 w a n c (List.replicate n 0)) : LsR w (kZ n) none 0 a c := by
  refine ⟨IsSl.nil w, ?_⟩
  show IsSl 1 (encK .i64) w a (List.replicate n 0).length c (List.replicate n 0)
  rw [List.length_replicate]
  exact h
theorem put_kZ {w : World} (hE : Env w) {a : Option Addr} {n c : Nat} (h : IsK .i64 w a n c (List.replicate n 0)) (hn : n ≤ 65536) :
    Calls Tryd.prog 12 #[.agg #[.int .i64 12, .int .i64 0, .bool false, .slice none 0 0, .slice a n c]] w fun e w' => ∃ p k q, e = .returned (.tuple #[.slice p k q, .int .i64 0]) ∧ IsK .u8 w' p k q (ns (putR (kZ n))) ∧ Below w.heap.size w w' := by
  have := put_call hE (kZ_ls h) (kZ_in n) (kZ_ok hn)
  rwa [(kZ_len n).2] at this
theorem get_kZ {w : World} (hE : Env w) {p : Option Addr} {n k q : Nat} (h : IsK .u8 w p k q (ns (putR (kZ n)))) (hn : n ≤ 65536) :
    Calls Tryd.prog 16 #[.slice p k q] w fun e w' => ∃ a c a' c', e = .returned (.tuple #[.agg #[.int .i64 12, .int .i64 0, .bool false, .slice a 0 c, .slice a' n c'], .int .i64 (k : Int), .int .i64 0]) ∧ LsR w' (kZ n) a c a' c' ∧ Below w.heap.size w w' := by
  have hk := h.u8
  have hl := putR_le (kZ_ok hn) (kZ_in n)
  rw [(kZ_len n).1, (kZ_len n).2] at hl
  have hg := get_put (kZ_ok hn) (kZ_in n) []
  rw [List.append_nil] at hg
  refine (pget hE h (put_byte (kZ_ok hn)) (by omega)).mono (fun e w' hh => ?_)
  obtain ⟨a, c, a', c', he, hls, hb⟩ := ges_some hg hh
  rw [(kZ_len n).2, ← hk] at he
  exact ⟨a, c, a', c', he, hls, hb⟩
theorem line_kZ {w : World} (hE : Env w) {a : Option Addr} {n c : Nat} (h : IsK .i64 w a n c (List.replicate n 0)) (hn : 65536 < n) (hm : n ≤ 100000) :
    Calls Tryd.prog 13 #[.agg #[.int .i64 12, .int .i64 0, .bool false, .slice none 0 0, .slice a n c]] w fun e w' => e = .returned (.tuple #[.string ⟨#[]⟩, .int .i64 16]) ∧ Below w.heap.size w w' := by
  have := line_bad hE (kZ_ls h) (kZ_in n) (by rw [(kZ_len n).1]; omega) (by rw [(kZ_len n).2]; omega) (by rw [kZ_long hn]; decide) (kZ_long hn)
  rwa [(kZ_len n).2] at this
theorem check_kZ {w : World} (hE : Env w) (a : Option Addr) {n : Nat} (c : Nat) (hn : 65536 < n) (hm : n ≤ 100000) :
    Calls Tryd.prog 14 #[.agg #[.int .i64 12, .int .i64 0, .bool false, .slice none 0 0, .slice a n c]] w fun e w' => e = .returned (.int .i64 16) ∧ Below w.heap.size w w' := by
  have := pcheck hE (kZ n) none 0 a c (by rw [(kZ_len n).1]; omega) (by rw [(kZ_len n).2]; omega)
  rw [kZ_long hn] at this
  unfold rpV at this
  rwa [(kZ_len n).2] at this
theorem same_kZ {w : World} {n : Nat} {a b a' b' : Option Addr} {c d c' d' : Nat} (hr : LsR w (kZ n) a c a' c') (hq : LsR w (kZ n) b d b' d') :
    Calls Tryd.prog 18 #[.agg #[.int .i64 12, .int .i64 0, .bool false, .slice a 0 c, .slice a' n c'], .agg #[.int .i64 12, .int .i64 0, .bool false, .slice b 0 d, .slice b' n d']] w fun e w' => e = .returned (.bool true) ∧ Below w.heap.size w w' := by
  have := psame hr hq
  rw [sameB_refl] at this
  unfold rpV at this
  rwa [(kZ_len n).2] at this
theorem get_long {w : World} (hE : Env w) {a : Option Addr} {n c : Nat} {z : Str} (h : IsK .u8 w a n c (ns (natsS ([12, 0, 0, 0, 129, 128, 4] ++ z)))) (hn : n ≤ 1000000) :
    Calls Tryd.prog 16 #[.slice a n c] w fun e w' => ∃ a c a' c', e = .returned (.tuple #[.agg #[.int .i64 0, .int .i64 0, .bool false, .slice a 0 c, .slice a' 0 c'], .int .i64 0, .int .i64 15]) ∧ Below w.heap.size w w' :=
  (pget hE h (natsS_by _) (by omega)).mono (fun e w' hh => ges_none (get_bigS z) hh)
theorem all_nil {w : World} (hE : Env w) : Calls Tryd.prog 17 #[.slice none 0 0] w fun e w' => ∃ a c, e = .returned (.tuple #[.slice a 0 c, .int .i64 0]) ∧ Below w.heap.size w w' := by
  have h0 : By [] := fun c hc => by cases hc
  refine (pgetall (b := []) hE (IsSl.nil w) h0 (by omega)).mono ?_
  rintro e w' ⟨v, zs, he, hb, ho, hz⟩
  have hz0 : zs.length = 0 := by
    have := congrArg List.length hz
    simpa [rs, getAllR, allF] using this
  obtain ⟨a, c, hv⟩ := own_shape ho.out.row
  rw [hz0] at hv
  exact ⟨a, c, by rw [he, hv]; rfl, hb⟩
end Go.Proofs.YtlmdkcpiimpniaaDoor

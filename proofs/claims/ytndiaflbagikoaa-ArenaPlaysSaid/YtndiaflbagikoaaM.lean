/- An arena in memory. -/
import Derived.Test.YtndiaflbagikoaaK
namespace Go.Proofs.Ytndiaflbagikoaa
open Go.RowKit

/-- A slot's record. -/
structure Sl where
  st : Int
  af : Int
  tm : Int
def field (s : Sl) (c : Nat) : Value := match c with | 0 => .int .i64 s.st | 1 => .int .i64 s.af | _ => .int .u64 s.tm
/-- The cells of the block of 64 slots with the number j. -/
def blkc (f : Nat → Sl) (j : Nat) : Array Value := Array.ofFn (n := 192) fun k => field (f (64 * j + k.val / 3)) (k.val % 3)
theorem blkc_at (f : Nat → Sl) (j i c : Nat) (hi : i < 64) (hc : c < 3) : (blkc f j)[i * 3 + c]? = some (field (f (64 * j + i)) c) := by
  unfold blkc
  rw [Array.getElem?_ofFn, dif_pos (by omega)]
  show some (field (f (64 * j + (i * 3 + c) / 3)) ((i * 3 + c) % 3)) = _
  rw [show (i * 3 + c) / 3 = i by omega, show (i * 3 + c) % 3 = c by omega]
theorem blkc_size (f : Nat → Sl) (j : Nat) : (blkc f j).size = 192 := by simp [blkc]
/-- One record turned. -/
def upd (f : Nat → Sl) (k : Nat) (s : Sl) (n : Nat) : Sl := if n = k then s else f n
theorem upd_same (f : Nat → Sl) (k : Nat) (s : Sl) : upd f k s k = s := by simp [upd]
theorem upd_other (f : Nat → Sl) {k n : Nat} (s : Sl) (h : n ≠ k) : upd f k s n = f n := by simp [upd, h]
theorem upd_upd (f : Nat → Sl) (k : Nat) (s s' : Sl) : upd (upd f k s) k s' = upd f k s' := by funext n; unfold upd; split <;> rfl
theorem blkc_set (f : Nat → Sl) (j i c : Nat) (s : Sl) (v : Value) (_hi : i < 64) (hc : c < 3) (hv : field s c = v) (ho : ∀ d, d < 3 → d ≠ c → field s d = field (f (64 * j + i)) d) :
    (blkc f j).setIfInBounds (i * 3 + c) v = blkc (upd f (64 * j + i) s) j := by
  apply Array.ext
  · simp [blkc]
  · intro k h1 h2
    simp [blkc] at h1
    rw [Array.getElem_setIfInBounds (by simpa [blkc] using h1)]
    by_cases hk : i * 3 + c = k
    · subst hk
      rw [if_pos rfl]
      simp only [blkc, Array.getElem_ofFn]
      rw [show (i * 3 + c) / 3 = i by omega, show (i * 3 + c) % 3 = c by omega, upd_same, hv]
    · rw [if_neg hk]
      simp only [blkc, Array.getElem_ofFn]
      by_cases hi' : k / 3 = i
      · rw [hi', upd_same]
        exact (ho _ (by omega) (by omega)).symm
      · rw [upd_other _ _ (by omega)]
theorem blkc_other (f : Nat → Sl) (j k : Nat) (s : Sl) (h : k / 64 ≠ j) : blkc (upd f k s) j = blkc f j := by
  unfold blkc
  congr 1
  funext n
  rw [upd_other _ _ (by have := n.isLt; omega)]

/-- An arena's memory: its struct in block b, the slice v of its blocks bs, the records f. -/
structure ArM (w : World) (b : Nat) (bs : List Nat) (v : Value) (slots begun used : Nat) (last : Int) (f : Nat → Sl) : Prop where
  head : w.heap[b]? = some (.cells #[.pointer (some ⟨b, 0, none⟩), v, .int .i64 slots, .int .i64 begun, .int .i64 used, .int .i64 last] 63 (0, 0))
  row : w.ownsRow 0 71 1 v bs.length (bs.map fun k => .pointer (some ⟨k, 0, none⟩))
  blk : ∀ j (hj : j < bs.length), w.heap[bs[j]]? = some (.cells (blkc f j) 73 (0, 0))
  nodup : bs.Nodup
  hb : b ∉ bs
  vb : v.ownBlock ≠ some b
  vbs : ∀ k ∈ bs, v.ownBlock ≠ some k
theorem ArM.cells {w : World} {b : Nat} {bs : List Nat} {v : Value} {slots begun used : Nat} {last : Int} {f : Nat → Sl} (h : ArM w b bs v slots begun used last f) :
    w.cell? ⟨b, 0, none⟩ = some (.pointer (some ⟨b, 0, none⟩)) ∧ w.cell? ⟨b, 1, none⟩ = some v ∧ w.cell? ⟨b, 2, none⟩ = some (.int .i64 slots) ∧ w.cell? ⟨b, 3, none⟩ = some (.int .i64 begun) ∧ w.cell? ⟨b, 4, none⟩ = some (.int .i64 used) ∧ w.cell? ⟨b, 5, none⟩ = some (.int .i64 last) :=
  ⟨cell_of h.head 0, cell_of h.head 1, cell_of h.head 2, cell_of h.head 3, cell_of h.head 4, cell_of h.head 5⟩
/-- The slice of the blocks, at an index. -/
theorem ArM.at_ {w : World} {b : Nat} {bs : List Nat} {v : Value} {slots begun used : Nat} {last : Int} {f : Nat → Sl} (h : ArM w b bs v slots begun used last f) {j : Nat} (hj : j < bs.length) :
    ∃ g cap, v = .slice (some ⟨g, 0, none⟩) bs.length cap ∧ w.cell? ⟨g, j, none⟩ = some (.pointer (some ⟨bs[j], 0, none⟩)) := by
  rcases h.row.2 with ⟨_, h0⟩ | ⟨g, cap, cur, hv, _, hg, hnc, _, hcs, htake⟩
  · omega
  · refine ⟨g, cap, hv, ?_⟩
    rw [cell_of hg]
    have h1 : (cur.toList.take (bs.length * 1))[j]? = some (.pointer (some ⟨bs[j], 0, none⟩)) := by rw [htake]; simp [hj]
    rw [List.getElem?_take] at h1
    simpa [hj] using h1
theorem ArM.slot {w : World} {b : Nat} {bs : List Nat} {v : Value} {slots begun used : Nat} {last : Int} {f : Nat → Sl} (h : ArM w b bs v slots begun used last f) {k : Nat} (hj : k / 64 < bs.length) (c : Nat) (hc : c < 3) :
    w.cell? ⟨bs[k / 64], k % 64 * 3 + c, none⟩ = some (field (f k) c) := by
  rw [cell_of (h.blk _ hj), blkc_at _ _ _ _ (by omega) hc, show 64 * (k / 64) + k % 64 = k by omega]
/-- What belongs to it. -/
def Foot (b : Nat) (bs : List Nat) (v : Value) (k : Nat) : Prop := k = b ∨ k ∈ bs ∨ v.ownBlock = some k
theorem ownsRow_touch {w w' : World} {S : Nat → Prop} {e : TypeId} {size : Nat} {v : Value} {n : Nat} {xs : List Value} (h : w.ownsRow 0 e size v n xs) (ht : Touch S w w') (hs : ∀ k, v.ownBlock = some k → ¬ S k) : w'.ownsRow 0 e size v n xs := by
  obtain ⟨h1, h2⟩ := h
  refine ⟨h1, ?_⟩
  rcases h2 with h2 | ⟨g, cap, cur, rfl, hg, hh, r⟩
  · exact Or.inl h2
  · exact Or.inr ⟨g, cap, cur, rfl, hg, ht.keep hh (hs g rfl), r⟩
theorem ArM.keep {w w' : World} {S : Nat → Prop} {b : Nat} {bs : List Nat} {v : Value} {slots begun used : Nat} {last : Int} {f : Nat → Sl} (h : ArM w b bs v slots begun used last f) (ht : Touch S w w') (hs : ∀ k, Foot b bs v k → ¬ S k) : ArM w' b bs v slots begun used last f :=
  ⟨ht.keep h.head (hs _ (Or.inl rfl)), ownsRow_touch h.row ht (fun k hk => hs k (Or.inr (Or.inr hk))), fun j hj => ht.keep (h.blk j hj) (hs _ (Or.inr (Or.inl (List.getElem_mem hj)))), h.nodup, h.hb, h.vb, h.vbs⟩
theorem touch_one (w : World) (g o : Nat) (u : Value) : Touch (· = g) w (w.setCell ⟨g, o, none⟩ u) := Touch.setCell (S := (· = g)) (Touch.refl _ _) (fun _ => rfl) _
/-- A store into the struct, beside the slice. -/
theorem ArM.head_set {w : World} {b : Nat} {bs : List Nat} {v : Value} {slots begun used : Nat} {last : Int} {f : Nat → Sl} (h : ArM w b bs v slots begun used last f) (o : Nat) (u : Value) (slots' begun' used' : Nat) (last' : Int)
    (he : (#[.pointer (some ⟨b, 0, none⟩), v, .int .i64 slots, .int .i64 begun, .int .i64 used, .int .i64 last] : Array Value).setIfInBounds o u = #[.pointer (some ⟨b, 0, none⟩), v, .int .i64 slots', .int .i64 begun', .int .i64 used', .int .i64 last']) :
    ArM (w.setCell ⟨b, o, none⟩ u) b bs v slots' begun' used' last' f :=
  ⟨by rw [set_of h.head, he], ownsRow_touch h.row (touch_one w b o u) (fun k hk e => h.vb (e ▸ hk)), fun j hj => block_set (h.blk j hj) (fun e => h.hb (by rw [← show bs[j] = b from e]; exact List.getElem_mem hj)) _, h.nodup, h.hb, h.vb, h.vbs⟩
/-- A store into a slot's record. -/
theorem ArM.slot_set {w : World} {b : Nat} {bs : List Nat} {v : Value} {slots begun used : Nat} {last : Int} {f : Nat → Sl} (h : ArM w b bs v slots begun used last f) {k : Nat} (hj : k / 64 < bs.length) (c : Nat) (hc : c < 3) (s : Sl) (u : Value)
    (hv : field s c = u) (ho : ∀ d, d < 3 → d ≠ c → field s d = field (f k) d) :
    ArM (w.setCell ⟨bs[k / 64], k % 64 * 3 + c, none⟩ u) b bs v slots begun used last (upd f k s) := by
  have hk : 64 * (k / 64) + k % 64 = k := by omega
  have hmem := List.getElem_mem hj
  refine ⟨block_set h.head (fun e => h.hb (by rw [show b = bs[k / 64] from e]; exact hmem)) _, ownsRow_touch h.row (touch_one w _ _ u) (fun g hg e => h.vbs _ hmem (e ▸ hg)), fun j hj' => ?_, h.nodup, h.hb, h.vb, h.vbs⟩
  by_cases e : j = k / 64
  · subst e
    rw [set_of (h.blk _ hj'), blkc_set f (k / 64) (k % 64) c s u (by omega) hc hv (by rw [hk]; exact ho), hk]
  · have hne : bs[j] ≠ bs[k / 64] := fun he => e ((List.getElem_inj h.nodup).1 he)
    rw [block_set (h.blk j hj') hne, blkc_other _ _ _ _ (fun e' => e e'.symm)]
end Go.Proofs.Ytndiaflbagikoaa

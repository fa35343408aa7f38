/- Parts of slices: s[l:], s[:h], s[l:h], with the new address under a name. -/
import Derived.Test.YtabihdhgonnihaaDoorC
import Derived.Laws.Slices
namespace Go.Proofs.YtabihdhgonnihaaDoor
open Go.ChangeShapes Go.WideShapes Go.ChangeAt Go.RowKit
set_option linter.unusedVariables false
set_option linter.unusedSimpArgs false

/-- The address of a part: that of the whole, moved on. -/
def part (a : Option Addr) (l m s : Nat) : Option Addr := if m = l then a else a.map (·.add (l * s))
theorem part_block {a : Option Addr} {l m s : Nat} {x : Addr} (h : part a l m s = some x) : ∃ y, a = some y ∧ x.block = y.block := by
  unfold part at h
  split at h
  · exact ⟨x, h, rfl⟩
  · cases a with
    | none => simp at h
    | some y =>
      simp at h
      subst h
      exact ⟨y, rfl, by simp [Addr.add]; split <;> rfl⟩
theorem IsSl.part {α : Type} {sz : Nat} {enc : α → List Value} {w : World} {a : Option Addr} {len cap : Nat} {zs : List α} (h : IsSl sz enc w a len cap zs) {l r m : Nat} (hlr : l ≤ r) (hr : r ≤ len) (hrm : r ≤ m) (hmc : m ≤ cap) :
    IsSl sz enc w (part a l m sz) (r - l) (m - l) ((zs.take r).drop l) := by
  obtain ⟨h1, h2, h3, h4, h5⟩ := h
  refine ⟨by simp; omega, by omega, by omega, fun e => ?_, fun hne => ?_⟩
  · unfold Go.Proofs.YtabihdhgonnihaaDoor.part at e
    split at e
    · omega
    · cases a with
      | none => have := h4 rfl; omega
      | some x => simp at e
  · have hl : l < r := by
      rcases Nat.lt_or_ge l r with h | h
      · exact h
      · exfalso; apply hne; apply List.drop_of_length_le; simp; omega
    have hz : zs ≠ [] := fun e => by rw [e] at h1; simp at h1; omega
    obtain ⟨b, off, rfl, hb, hc⟩ := h5 hz
    refine ⟨b, off + l * sz, ?_, hb, fun i hi j hj => ?_⟩
    · unfold Go.Proofs.YtabihdhgonnihaaDoor.part
      rw [if_neg (by omega)]
      simp [addr_add]
    · simp at hi
      have := hc (l + i) (by omega) j hj
      rw [show off + l * sz + i * sz + j = off + (l + i) * sz + j by rw [Nat.add_mul]; omega, this]
      simp
theorem IsSl.tail {α : Type} {sz : Nat} {enc : α → List Value} {w : World} {a : Option Addr} {len cap : Nat} {zs : List α} (h : IsSl sz enc w a len cap zs) {l : Nat} (hl : l ≤ len) : IsSl sz enc w (Go.Proofs.YtabihdhgonnihaaDoor.part a l cap sz) (len - l) (cap - l) (zs.drop l) := by
  have := h.part (l := l) (r := len) (m := cap) hl (Nat.le_refl _) h.hle (Nat.le_refl _)
  rwa [h.hlen, List.take_length, ← h.hlen] at this
section
variable {P : Program} {t e : TypeId} {sz : Nat} (ht : P.underlying t = some (.slice e)) (hs : ∀ w, (sizeOf e).run P w = .ok sz w)
include ht hs
theorem run_from {a : Option Addr} {len cap : Nat} {l : Int} {k : Nat} (hl : l = k) (hk : k ≤ len) (w : World) : (Instr.slice t (.slice a len cap) (some (.int .i64 l)) none none).run P w = .ok (.slice (part a k cap sz) (len - k) (cap - k)) w := by
  have he : P.elem t = e := by simp [Program.elem, ht]
  rw [run_slice_l w t a len cap (by rw [he]; exact ht) .i64 l (by omega) (by omega), he, hs, hl]
  simp [Result.andThen, sliced, part]
theorem run_to {a : Option Addr} {len cap : Nat} {h : Int} {k : Nat} (hh : h = k) (hk : k ≤ cap) (w : World) : (Instr.slice t (.slice a len cap) none (some (.int .i64 h)) none).run P w = .ok (.slice (part a 0 cap sz) k cap) w := by
  have he : P.elem t = e := by simp [Program.elem, ht]
  rw [run_slice_h w t a len cap (by rw [he]; exact ht) .i64 h (by omega) (by omega), he, hs, hh]
  simp [Result.andThen, sliced, part]
theorem run_lh {a : Option Addr} {len cap : Nat} {l h : Int} {k m : Nat} (hl : l = k) (hh : h = m) (hkm : k ≤ m) (hm : m ≤ cap) (w : World) : (Instr.slice t (.slice a len cap) (some (.int .i64 l)) (some (.int .i64 h)) none).run P w = .ok (.slice (part a k cap sz) (m - k) (cap - k)) w := by
  have he : P.elem t = e := by simp [Program.elem, ht]
  rw [run_slice_lh w t a len cap (by rw [he]; exact ht) .i64 .i64 l h (by omega) (by omega) (by omega), he, hs, hl, hh]
  simp [Result.andThen, sliced, part]
end
end Go.Proofs.YtabihdhgonnihaaDoor

/- Small laws for merge. -/
import Derived.Test.YtmholiddejgccaaC
namespace Go.Proofs.Ytmholiddejgccaa
open Go.ChangeShapes Go.WideShapes Go.ChangeAt Go.RowKit
theorem info24 : (Try.prog.info? 24).map (fun i => (i.zero, i.size, i.bytes)) = some (some (.agg #[.int .u64 0, .int .u64 0, .int .i64 0, .int .i64 0]), 4, 32) := by kernel_rfl
theorem info3 : (Try.prog.info? 3).map (fun i => (i.zero, i.size, i.bytes)) = some (some (.int .i64 0), 1, 8) := by kernel_rfl
def lenV (v : Value) : Nat := match v with | .slice _ n _ => n | _ => 0
theorem mprs_le {α : Type} {lt : α → α → Bool} (a b : List α) : mprs lt a b ≤ a.length * b.length := by
  induction a, b using mrg_ind (lt := lt) with
  | h0 b => rw [mprs_nil]; omega
  | h1 a => rw [mprs_nil']; omega
  | h2 x a y b h ih => rw [mprs_yes h]; simp only [List.length_cons] at ih ⊢; rw [Nat.mul_add]; omega
  | h3 x a y b h ih => rw [mprs_no h]; simp only [List.length_cons] at ih ⊢; rw [Nat.add_mul]; omega
theorem head4 {w : World} {b off len cap : Nat} {x : Rc} {r : List Rc} (h : IsSl 4 encR w (some ⟨b, off, none⟩) len cap (x :: r)) :
    w.cell? ⟨b, off, none⟩ = some (.int .u64 x.u) ∧ w.cell? ⟨b, off + 1, none⟩ = some (.int .u64 x.v) ∧ w.cell? ⟨b, off + 2, none⟩ = some (.int .i64 x.w) ∧ w.cell? ⟨b, off + 3, none⟩ = some (.int .i64 x.t) := by
  obtain ⟨b', off', e, _, hc⟩ := h.at_ (by simp)
  cases e
  have h0 := hc 0 (by simp) 0 (by decide)
  have h1 := hc 0 (by simp) 1 (by decide)
  have h2 := hc 0 (by simp) 2 (by decide)
  have h3 := hc 0 (by simp) 3 (by decide)
  simp [encR] at h0 h1 h2 h3
  exact ⟨h0, h1, h2, h3⟩
def encF {m : Nat} (i : Fin m) : List Value := [.int .i64 (i.val : Nat)]
def evF {m : Nat} (i : Fin m) : Value := .int .i64 (i.val : Nat)
theorem encF_len {m : Nat} (i : Fin m) : (encF i).length = 1 := rfl
theorem encF_one {m : Nat} (i : Fin m) : ∀ u ∈ encF i, u.oneCell' = true := fun u hu => by
  simp [encF] at hu; subst hu; rfl
theorem head1 {m : Nat} {w : World} {b off len cap : Nat} {x : Fin m} {r : List (Fin m)} (h : IsSl 1 encF w (some ⟨b, off, none⟩) len cap (x :: r)) : w.cell? ⟨b, off, none⟩ = some (.int .i64 (x.val : Nat)) ∧ True := by
  obtain ⟨b', off', e, _, hc⟩ := h.at_ (by simp)
  cases e
  have h0 := hc 0 (by simp) 0 (by decide)
  simp [encF] at h0
  exact ⟨h0, trivial⟩
theorem newsR (w : World) (x : Rc) : ∀ j u, (encR x)[j]? = some u → (w.alloc (.cells #[.int .u64 x.u, .int .u64 x.v, .int .i64 x.w, .int .i64 x.t] 24)).cell? ((⟨w.heap.size, 0, none⟩ : Addr).add j) = some u := fun j u h => by
  rw [addr_add, cell_of (block_new _ _), Nat.zero_add]
  simpa [encR] using h
theorem newsN {m : Nat} (w : World) (x : Fin m) : ∀ j u, (encF x)[j]? = some u → (w.alloc (.cells #[.int .i64 (x.val : Nat)] 3)).cell? ((⟨w.heap.size, 0, none⟩ : Addr).add j) = some u := fun j u h => by
  rw [addr_add, cell_of (block_new _ _), Nat.zero_add]
  simpa [encF] using h
theorem out_of_make {α : Type} {sz : Nat} {enc : α → List Value} {e : TypeId} {w : World} {B : Nat} {v : Value} (h : w.ownsRow B e sz v 0 []) : OutR sz enc e w B v [] := by
  obtain ⟨h1, h2⟩ := h
  refine ⟨⟨by simp [flat], ?_⟩, fun g hg => ?_⟩
  · rcases h2 with h2 | ⟨g, cap, cur, rfl, hb, r⟩
    · exact Or.inl h2
    · exact Or.inr ⟨g, cap, cur, rfl, Nat.zero_le _, r⟩
  · rcases h2 with ⟨e, _⟩ | ⟨g', cap, cur, e, hb, r⟩
    · rw [e] at hg; cases hg
    · rw [e] at hg; cases hg; exact hb
theorem arrN_le {α : Type} {lt : α → α → Bool} (l : List α) : arrN lt l ≤ l.length * l.length := by
  induction l using arr_ind with
  | h0 l h => rw [arrN_short h]; omega
  | h1 l h h1 h2 =>
    rw [arrN_long h]
    have h3 := mprs_le (lt := lt) (arr lt (l.take (l.length / 2))) (arr lt (l.drop (l.length / 2)))
    rw [arr_length, arr_length] at h3
    generalize hp : l.take (l.length / 2) = p at *
    generalize hq : l.drop (l.length / 2) = q at *
    have hl : l.length = p.length + q.length := by rw [← hp, ← hq]; simp; omega
    rw [hl]
    have e : (p.length + q.length) * (p.length + q.length) = p.length * p.length + q.length * q.length + 2 * (p.length * q.length) := by
      rw [Nat.add_mul, Nat.mul_add, Nat.mul_add, Nat.mul_comm q.length p.length]; omega
    omega
theorem slNews {α : Type} {sz : Nat} {enc : α → List Value} (hE : ∀ x, (enc x).length = sz) {w : World} {a : Addr} {len cap : Nat} {zs : List α} (h : IsSl sz enc w (some a) len cap zs) : ∀ j u, (flat enc zs)[j]? = some u → w.cell? (a.add j) = some u := by
  by_cases hz : zs = []
  · subst hz; intro j u h; simp [flat] at h
  · obtain ⟨b, off, e, _⟩ := h.at_ hz
    cases e
    exact h.news hE
end Go.Proofs.Ytmholiddejgccaa

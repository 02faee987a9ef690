
/- Plain and laws: cells stored in a row from one place on; a row cut short; clear. No program in sight. -/
import Derived.Test.YtfbbdnicplbmdaaOwn
import Derived.Deep.RegionLaw
import Derived.Lib.SliceRun
set_option linter.unusedVariables false
set_option linter.unusedSimpArgs false
namespace Go.Proofs.Ytfbbdnicplbmdaa
open Go.RowKit Sp
namespace Sp
def setAll {α : Type} : List α → Nat → List α → List α
  | xs, _, [] => xs
  | xs, o, u :: us => setAll (xs.set o u) (o + 1) us
theorem setAll_length {α : Type} : ∀ (us xs : List α) (o : Nat), (setAll xs o us).length = xs.length
  | [], _, _ => rfl
  | u :: us, xs, o => by rw [setAll, setAll_length us]; simp
theorem setAll_take {α : Type} : ∀ (us xs : List α) (o k : Nat), k ≤ o → (setAll xs o us).take k = xs.take k
  | [], _, _, _, _ => rfl
  | u :: us, xs, o, k, h => by rw [setAll, setAll_take us _ _ _ (by omega), List.take_set_of_le h]
theorem setAll_eq {α : Type} : ∀ (us xs : List α) (o : Nat), o + us.length ≤ xs.length → (setAll xs o us).take (o + us.length) = xs.take o ++ us
  | [], xs, o, _ => by simp [setAll]
  | u :: us, xs, o, h => by
    rw [setAll, show o + (u :: us).length = (o + 1) + us.length from by simp; omega, setAll_eq us _ _ (by simp at h ⊢; omega)]
    rw [List.take_succ_eq_append_getElem (by simp at h ⊢; omega), List.take_set_of_le (Nat.le_refl _)]
    simp
theorem flat_take {α β : Type} {f : α → List β} {n : Nat} (hf : ∀ x, (f x).length = n) : ∀ (l : List α) (k : Nat), ((l.map f).flatten).take (k * n) = ((l.take k).map f).flatten
  | [], k => by simp
  | x :: l, 0 => by simp
  | x :: l, k + 1 => by
    rw [List.map_cons, List.flatten_cons, List.take_succ_cons, List.map_cons, List.flatten_cons, List.take_append, ← flat_take hf l k, hf]
    rw [List.take_of_length_le (by rw [hf, Nat.succ_mul]; omega), show (k + 1) * n - n = k * n from by rw [Nat.succ_mul]; omega]
end Sp
theorem own_setCells {e size base g n cap : Nat} : ∀ (us : List Value) (w : World) (xs : List Value) (o : Nat), w.ownsRow base e size (.slice (some ⟨g, 0, none⟩) n cap) n xs →
    (w.setCells g o us).ownsRow base e size (.slice (some ⟨g, 0, none⟩) n cap) n (setAll xs o us) ∧ w.grownBy (w.setCells g o us) (some g)
  | [], w, xs, o, h => ⟨h, ⟨rfl, rfl, rfl, Nat.le_refl _, fun k _ _ => rfl⟩⟩
  | u :: us, w, xs, o, h => by
    have h1 := h.stored o u
    have h2 := own_setCells us (w.setCell ⟨g, o, none⟩ u) _ (o + 1) h1.1
    refine ⟨h2.1, ?_⟩
    have a := h1.2
    have b := h2.2
    exact ⟨b.os.trans a.os, b.tape.trans a.tape, b.output.trans a.output, Nat.le_trans a.size b.size, fun k hk hne => (b.block k (Nat.lt_of_lt_of_le hk a.size) hne).trans (a.block k hk hne)⟩
theorem own_cut {w : World} {e size base g n cap m : Nat} {xs : List Value} (h : w.ownsRow base e size (.slice (some ⟨g, 0, none⟩) n cap) n xs) (hm : m ≤ n) : w.ownsRow base e size (.slice (some ⟨g, 0, none⟩) m cap) m (xs.take (m * size)) := by
  refine ⟨by rw [List.length_take, h.1]; exact Nat.min_eq_left (Nat.mul_le_mul_right _ hm), ?_⟩
  rcases h.2 with ⟨hn, _⟩ | ⟨g', cap', cur, hv, hb', hg, hc, hcm, hcs, ht⟩
  · cases hn
  · simp only [Value.slice.injEq, Option.some.injEq, Addr.mk.injEq, and_true, true_and] at hv
    obtain ⟨rfl, rfl⟩ := hv
    refine .inr ⟨g, cap, cur, rfl, hb', hg, by omega, hcm, hcs, ?_⟩
    rw [← ht, List.take_take, Nat.min_eq_left (Nat.mul_le_mul_right _ hm)]
theorem own_cell {w : World} {e size base g n cap : Nat} {xs : List Value} (h : w.ownsRow base e size (.slice (some ⟨g, 0, none⟩) n cap) n xs) {k : Nat} {u : Value} (hk : xs[k]? = some u) : w.cell? ⟨g, k, none⟩ = some u := by
  rcases h.2 with ⟨hn, _⟩ | ⟨g', cap', cur, hv, hb', hg, hc, hcm, hcs, ht⟩
  · cases hn
  · simp only [Value.slice.injEq, Option.some.injEq, Addr.mk.injEq, and_true, true_and] at hv
    obtain ⟨rfl, rfl⟩ := hv
    rw [cell_of_row w g k cur e (0, 0) hg]
    rw [← ht, List.getElem?_take] at hk
    split at hk
    · simpa using hk
    · simp at hk
theorem run_clear_recs {P : Program} (w : World) (t e ty : TypeId) (z : Value) (ht : P.underlying t = some (.slice e)) (hv : ∀ w, (zeroValue e).run P w = .ok z w) (h1 : ∀ u ∈ (Builtin.zeroCells z.cells 1).toList, u.oneCell' = true) (b o c : Nat)
    (hc : ∀ j, j < (Builtin.zeroCells z.cells 1).toList.length → (w.cell? ⟨b, o + j, none⟩).isSome = true) (hf : ∀ j, j < (Builtin.zeroCells z.cells 1).toList.length → w.frozen? ⟨b, o + j, none⟩ = false) :
    (Builtin.clear_ #[t] ty #[.slice (some ⟨b, o, none⟩) 1 c]).run P w = .ok (.tuple #[]) (w.setCells b o (Builtin.zeroCells z.cells 1).toList) := by
  have hst := run_storeCells_cells (P := P) b o (Builtin.zeroCells z.cells 1).toList 0 w (by simpa using hc) (by simpa using hf) h1
  simp only [Nat.add_zero] at hst
  simp [Builtin.clear_, run_underlying ht, hv, hst]
end Go.Proofs.Ytfbbdnicplbmdaa

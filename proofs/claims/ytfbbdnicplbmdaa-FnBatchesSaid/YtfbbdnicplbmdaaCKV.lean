
/- Walks: slices.Clone at KV. -/
import Derived.Test.YtfbbdnicplbmdaaApp
import Derived.Test.YtfbbdnicplbmdaaRow
import Derived.Test.YtfbbdnicplbmdaaKKVA
import Derived.Lib.LazyBuf
set_option linter.unusedVariables false
set_option linter.unusedSimpArgs false
namespace Go.Proofs.Ytfbbdnicplbmdaa
open Go.RowKit Sp Go.Sort

set_option maxRecDepth 100000 in
set_option maxHeartbeats 400000 in
theorem cloneKV_row (ad : Option Addr) (cap : Nat) (l : List KV) (w : World) (h : SlT KV.cells 2 w (.slice ad l.length cap) l) (hl : (l.length : Int) ≤ 1048576) :
    Calls Try.prog 96 #[.slice ad l.length cap] w fun e w' => ∃ v', e = .returned v' ∧ Row KV.cells 134 2 w.heap.size w'.heap.size w' v' l ∧ Below w.heap.size w w' := by
  cases ad with
  | none =>
    obtain ⟨ao', cp, hv, _, _, hsh⟩ := h.shape
    obtain ⟨rfl, rfl⟩ : none = ao' ∧ cap = cp := by simpa using hv
    have hl0 : l.length = 0 := Nat.eq_zero_of_not_pos fun h => by
      obtain ⟨b, off, hb, _⟩ := hsh h
      cases hb
    obtain rfl : l = [] := List.eq_nil_of_length_eq_zero hl0
    have hn := fun w : World => run_eql_slice_nil (P := Try.prog) w 43 _ none 0 cap Try.underlying43
    go_enter Try.func96, Try.ntmps96
    go_wp2
    go_ret
    exact ⟨_, rfl, Row.nil _ _ _, Below.refl _ _⟩
  | some ad =>
    have h0 : (w.alloc (.cells #[] 134)).ownsRow w.heap.size 134 2 (.slice (some ⟨w.heap.size, 0, none⟩) 0 0) 0 [] := World.ownsRow_lit w #[] 0 (Nat.le_refl _) (by simp [maxLen]) rfl
    have hb0 : RowKit.Below w.heap.size w (w.alloc (.cells #[] 134)) := (Below.refl _ _).alloc (Nat.le_refl _) _
    have hb := h.below hb0
    have h1 : ∀ x : KV, ∀ u ∈ KV.cells x, u.oneCell' = true := by
      intro x u hu
      simp [KV.cells] at hu
      first | (rcases hu with rfl | rfl | rfl | rfl | rfl <;> rfl) | (rcases hu with rfl | rfl | rfl | rfl <;> rfl) | (rcases hu with rfl | rfl | rfl <;> rfl) | (rcases hu with rfl | rfl <;> rfl) | (subst hu; rfl)
    have hn := fun w : World => run_eql_slice_nil (P := Try.prog) w 43 _ (some ad) l.length cap Try.underlying43
    go_enter Try.func96, Try.ntmps96
    go_wp2_with (at_builtin; refine app_recs rfl rfl Try.underlying43 info_KV rfl (by decide) h0 rfl (some ad) cap hb rfl (fun _ => rfl) h1 (by omega) hb0 (Nat.le_refl _) hb0.size ?_; intro v' w1 hr1 hbl1 hg1)
    go_ret
    exact ⟨_, rfl, Row.of_own (by simpa using hr1) (by simp), hbl1⟩
end Go.Proofs.Ytfbbdnicplbmdaa

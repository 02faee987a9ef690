/- Walks: slices.Clone at KV. -/
import Derived.Test.YtajjefpopjdfaaaApp
import Derived.Test.YtajjefpopjdfaaaRow
import Derived.Test.YtajjefpopjdfaaaKKVA
import Derived.Lib.LazyBuf
set_option linter.unusedVariables false
set_option linter.unusedSimpArgs false
namespace Go.Proofs.Ytajjefpopjdfaaa
open Go.RowKit Sp Go.Sort

set_option maxRecDepth 100000 in
set_option maxHeartbeats 400000 in
theorem cloneKV_row (ad : Addr) (cap : Nat) (l : List KV) (w : World) (h : SlT KV.cells 2 w (.slice (some ad) l.length cap) l) (hl : (l.length : Int) ≤ 1048576) :
    Calls Try.prog 72 #[.slice (some ad) l.length cap] w fun e w' => ∃ v', e = .returned v' ∧ Row KV.cells 95 2 w.heap.size w'.heap.size w' v' l ∧ Below w.heap.size w w' := by
  have h0 : (w.alloc (.cells #[] 95)).ownsRow w.heap.size 95 2 (.slice (some ⟨w.heap.size, 0, none⟩) 0 0) 0 [] := World.ownsRow_lit w #[] 0 (Nat.le_refl _) (by simp [maxLen]) rfl
  have hb0 : RowKit.Below w.heap.size w (w.alloc (.cells #[] 95)) := (Below.refl _ _).alloc (Nat.le_refl _) _
  have hb := h.below hb0
  have h1 : ∀ x : KV, ∀ u ∈ KV.cells x, u.oneCell' = true := by
    intro x u hu
    simp [KV.cells] at hu
    first | (rcases hu with rfl | rfl | rfl | rfl | rfl <;> rfl) | (rcases hu with rfl | rfl | rfl | rfl <;> rfl) | (rcases hu with rfl | rfl | rfl <;> rfl) | (rcases hu with rfl | rfl <;> rfl) | (subst hu; rfl)
  have hn := fun w : World => run_eql_slice_nil (P := Try.prog) w 44 _ (some ad) l.length cap Try.underlying44
  go_enter Try.func72, Try.ntmps72
  go_wp2_with (at_builtin; refine app_recs rfl rfl Try.underlying44 info_KV rfl (by decide) h0 rfl ad cap hb rfl (fun _ => rfl) h1 (by omega) hb0 (Nat.le_refl _) hb0.size ?_; intro v' w1 hr1 hbl1 hg1)
  go_ret
  exact ⟨_, rfl, Row.of_own (by simpa using hr1) (by simp), hbl1⟩
end Go.Proofs.Ytajjefpopjdfaaa

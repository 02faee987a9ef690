/- Walks: IterOk of the reference and of the program. -/
import Derived.Test.YtcdcpdbolakfaaaSIterA
import Derived.Test.YtcdcpdbolakfaaaMapS
set_option linter.unusedVariables false
set_option linter.unusedSimpArgs false
namespace Go.Proofs.Ytcdcpdbolakfaaa
open Go.RowKit Sp Go.Sort
namespace Sp
def iterB (d : IterR) : Bool := mapB d.list && inB d.at_ (-1) d.list.length
end Sp

set_option maxRecDepth 100000 in
set_option maxHeartbeats 800000 in
theorem specIterOk (v : Value) (d : IterR) (w : World) (h : IsIter w v d) (hl : (d.list.length : Int) ≤ 1048576) :
    Calls Try.prog 26 #[v] w fun e w' => e = .returned (.bool (iterB d)) ∧ Below w.heap.size w w' := by
  obtain ⟨s0, rfl, h0⟩ := h
  obtain ⟨ao, cap, hv, hlc, hcm, _⟩ := h0.shape
  subst hv
  have hbox : ∀ o : Obj, RowKit.Below w.heap.size w (w.alloc o) := fun o => (Below.refl _ _).alloc (Nat.le_refl _) _
  by_cases hm : mapB d.list = true
  · have HR : iterB d = inB d.at_ (-1) d.list.length := by simp [iterB, hm]
    go_enter Try.func26, Try.ntmps26
    go_wp2_with (first | (go_at_call 59; refine (specMapOk _ _ _ (h0.below (hbox _)) hl).mono ?_; rintro e w1 ⟨rfl, b1⟩; rw [hm]; have x1 := Below.trans (hbox _) (b1.mono (Below.size (hbox _))); obtain ⟨hc, hf⟩ := bcell b1; have ca := fun o => hc w.heap.size o (by simp <;> omega); have fa := fun o => hf w.heap.size o (by simp <;> omega); clear hc hf) | (go_at_call 65; refine (l1In_any _ _ _ _).mono ?_; rintro e w' ⟨rfl, rfl⟩))
    go_ret
    exact ⟨by rw [HR]; rfl, x1⟩
  · have hm' : mapB d.list = false := by simpa using hm
    have HR : iterB d = false := by simp [iterB, hm']
    go_enter Try.func26, Try.ntmps26
    go_wp2_with (go_at_call 59; refine (specMapOk _ _ _ (h0.below (hbox _)) hl).mono ?_; rintro e w1 ⟨rfl, b1⟩; rw [hm']; have x1 := Below.trans (hbox _) (b1.mono (Below.size (hbox _))))
    go_ret
    exact ⟨by rw [HR]; rfl, x1⟩

set_option maxRecDepth 100000 in
set_option maxHeartbeats 800000 in
theorem implIterOk (v : Value) (d : IterR) (w : World) (h : IsIter w v d) (hl : (d.list.length : Int) ≤ 1048576) :
    Calls Try.prog 28 #[v] w fun e w' => e = .returned (.bool (iterB d)) ∧ Below w.heap.size w w' := by
  obtain ⟨s0, rfl, h0⟩ := h
  obtain ⟨ao, cap, hv, hlc, hcm, _⟩ := h0.shape
  subst hv
  have hbox : ∀ o : Obj, RowKit.Below w.heap.size w (w.alloc o) := fun o => (Below.refl _ _).alloc (Nat.le_refl _) _
  by_cases hm : inB d.at_ (-1) d.list.length = true
  · have HR : iterB d = mapB d.list := by simp [iterB, hm]
    go_enter Try.func28, Try.ntmps28
    go_wp2_with (first | (go_at_call 70; refine (inRange_any _ _ _ _).mono ?_; rintro e w' ⟨rfl, rfl⟩; rw [hm]) | (go_at_call 61; refine (implMapOk _ _ _ (h0.below (hbox _)) hl).mono ?_; rintro e w1 ⟨rfl, b1⟩; have x1 := Below.trans (hbox _) (b1.mono (Below.size (hbox _)))))
    go_ret
    exact ⟨by rw [HR]; rfl, x1⟩
  · have hm' : inB d.at_ (-1) d.list.length = false := by simpa using hm
    have HR : iterB d = false := by simp [iterB, hm']
    go_enter Try.func28, Try.ntmps28
    go_wp2_with (go_at_call 70; refine (inRange_any _ _ _ _).mono ?_; rintro e w' ⟨rfl, rfl⟩; rw [hm'])
    go_ret
    exact ⟨by rw [HR]; rfl, hbox _⟩
end Go.Proofs.Ytcdcpdbolakfaaa

/- Walk: the law of ShowBlock. -/
import Derived.Test.YthmfiohcmnaacaaBlkS
import Derived.Test.YthmfiohcmnaacaaBlkI
import Derived.Test.YthmfiohcmnaacaaKEntA
set_option linter.unusedVariables false
set_option linter.unusedSimpArgs false
namespace Go.Proofs.Ythmfiohcmnaacaa
open Go.RowKit Sp Go.Sort

set_option maxRecDepth 100000 in
set_option maxHeartbeats 400000 in
theorem walkFnExactShowBlock (w : World) (v : Value) (l : List EntR) (h : SlT EntR.cells 4 w v l) (hok : ∀ x ∈ l, x.ok) :
    Calls Try.prog 7 #[v] w fun e w' => e = .returned (.bool true) ∧ Below w.heap.size w w' := by
  have hnn := sumSz_nonneg EntR.sz_nonneg l
  by_cases hbig : (1048576 : Int) - (l.length + sumSz EntR.sz l) < 0
  · have hd := dec_neg hbig
    go_enter Try.func7, Try.ntmps7
    go_wp2_with (go_at_call 15; refine (szEntS_any v l hok _ _ h (by omega) (by omega)).mono ?_; rintro e w1 ⟨rfl, b1⟩; rw [hd])
    go_ret
    exact ⟨rfl, b1⟩
  · have hd := dec_pos hbig
    have hd2 : decide ((1048576 : Int) - (l.length + sumSz EntR.sz l) < 0) = false := decide_eq_false hbig
    have hl : (l.length : Int) ≤ 1048576 := by omega
    have hsum : sumSz EntR.sz l ≤ 1048576 := by omega
    go_enter Try.func7, Try.ntmps7
    go_wp2_with (go_at_call 15; refine (szEntS_any v l hok _ _ h (by omega) (by omega)).mono ?_; rintro e w1 ⟨rfl, b1⟩; rw [hd])
    have h1 := h.below b1
    go_wp2_with (go_at_call 17; refine (toEntS_any v l _ h1 hl).mono ?_; rintro e w2 ⟨g, rfl, o2, b2⟩; have c2 := b1.trans (b2.mono b1.size); have h2 := h.below c2; have s2 := SlT.of_own o2 (fun _ => rfl) (by omega))
    go_wp2_with (go_at_call 31; refine (specShowBlock _ l _ s2 hl).mono ?_; rintro e w3 ⟨rfl, b3⟩; have c3 := c2.trans (b3.mono c2.size); have h3 := h.below c3)
    go_wp2_with (go_at_call 17; refine (toEntS_any v l _ h3 hl).mono ?_; rintro e w4 ⟨g', rfl, o4, b4⟩; have c4 := c3.trans (b4.mono c3.size); have h4 := h.below c4; have s4 := SlT.of_own o4 (fun _ => rfl) (by omega))
    go_wp2_with (go_at_call 32; refine (implShowBlock _ l _ s4 hl).mono ?_; rintro e w5 ⟨rfl, b5⟩; have c5 := c4.trans (b5.mono c4.size); have h5 := h.below c5; have s5 := s4.below b5)
    go_wp2_with (go_at_call 17; refine (toEntS_any v l _ h5 hl).mono ?_; rintro e w6 ⟨g'', rfl, o6, b6⟩; have c6 := c5.trans (b6.mono c5.size); have s6 := SlT.of_own o6 (fun _ => rfl) (by omega); have s5' := s5.below b6)
    go_wp2_with (go_at_call 19; refine (eqEntS_any _ _ l _ s5' s6 hl).mono ?_; rintro e w7 ⟨rfl, b7⟩; have c7 := c6.trans (b7.mono c6.size))
    go_ret
    exact ⟨rfl, c7⟩
end Go.Proofs.Ythmfiohcmnaacaa

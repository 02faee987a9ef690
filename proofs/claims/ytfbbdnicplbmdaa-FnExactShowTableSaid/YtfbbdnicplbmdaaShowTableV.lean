
/- Walk: the law of ShowTable. -/
import Derived.Test.YtfbbdnicplbmdaaTabM3
import Derived.Test.YtfbbdnicplbmdaaTabM1
import Derived.Deep.RegionWith
set_option linter.unusedVariables false
set_option linter.unusedSimpArgs false
namespace Go.Proofs.Ytfbbdnicplbmdaa
open Go.RowKit Sp Go.Sort

set_option maxRecDepth 100000 in
set_option maxHeartbeats 400000 in
theorem walkFnExactShowTable (w : World) (v : Value) (d : TabR) (h : IsTable w v d) (hok : d.ok) :
    Calls Try.prog 7 #[v] w fun e w' => e = .returned (.bool true) ∧ Below w.heap.size w w' := by
  have hnn := TabR.sz_nonneg d
  have hcopy := h
  obtain ⟨s0, hv, h0⟩ := hcopy
  subst hv
  have hbox : ∀ o : Obj, RowKit.Below w.heap.size w (w.alloc o) := fun o => (Below.refl _ _).alloc (Nat.le_refl _) _
  by_cases hbig : (1048576 : Int) - d.sz < 0
  · have hd := dec_neg hbig
    go_enter Try.func7, Try.ntmps7
    go_wp2_with (go_at_call 57; refine (szTable_any _ d hok _ _ (h.below (hbox _)) (by omega) (by omega)).mono ?_; rintro e w1 ⟨rfl, b1⟩; rw [hd])
    go_ret
    exact ⟨rfl, (hbox _).trans (b1.mono (Below.size (hbox _)))⟩
  · have hd := dec_pos hbig
    have hd2 : decide ((1048576 : Int) - d.sz < 0) = false := decide_eq_false hbig
    have hle : d.sz ≤ 1048576 := by omega

    have l0 : (d.parts.length : Int) ≤ 1048576 := by unfold TabR.sz at hle; have := sumSz_nonneg PartR.sz_nonneg d.parts; omega
    have HLS := Lib.hid (show ∀ k (hk : k < d.parts.length), (d.parts[k].text.size : Int) ≤ 1048576 from part_sz hle)
    have lf : ((flatT d.parts).length : Int) ≤ 1048576 := by unfold TabR.sz at hle; have := flatT_sz d.parts; omega
    go_enter Try.func7, Try.ntmps7
    go_wp2_with (go_at_call 57; refine (szTable_any _ d hok _ _ (h.below (hbox _)) (by omega) (by omega)).mono ?_; rintro e w1 ⟨rfl, b1⟩; have c1 := b1; have h1' := (h.below (hbox _)).below c1; have ca1 := fun o => (bcell c1).1 w.heap.size o (by simp <;> omega); rw [hd])
    go_wp2_with (go_at_call 59; refine (toTable_is _ d _ h1' l0).mono ?_; rintro e w2 ⟨z2, rfl, s2, b2⟩; have c2 := c1.trans (b2.mono c1.size); have h2' := (h.below (hbox _)).below c2; have ca2 := fun o => (bcell c2).1 w.heap.size o (by simp <;> omega))
    go_wp2_with (go_at_call 58; refine (specShowTable _ d _ s2 l0 HLS.out lf).mono ?_; rintro e w3 ⟨rfl, b3⟩; have c3 := c2.trans (b3.mono c2.size); have h3' := (h.below (hbox _)).below c3; have ca3 := fun o => (bcell c3).1 w.heap.size o (by simp <;> omega))
    go_wp2_with (go_at_call 59; refine (toTable_is _ d _ h3' l0).mono ?_; rintro e w4 ⟨z4, rfl, s4, b4⟩; have c4 := c3.trans (b4.mono c3.size); have h4' := (h.below (hbox _)).below c4; have ca4 := fun o => (bcell c4).1 w.heap.size o (by simp <;> omega); have s4c := s4; obtain ⟨y0, hv4, e0⟩ := s4c; subst hv4; obtain ⟨ao0, cp0, hq0, _⟩ := e0.shape; subst hq0; have hbox4 : ∀ o : Obj, RowKit.Below w4.heap.size w4 (w4.alloc o) := fun o => (Below.refl _ _).alloc (Nat.le_refl _) _)
    go_wp2_with (go_at_call 17; refine (implShowTable _ d _ (s4.below (hbox4 _)) l0 HLS.out).mono ?_; rintro e w5 ⟨rfl, b5⟩; have c5 := (c4.alloc c4.size _).trans (b5.mono (Below.size (c4.alloc c4.size _))); have h5' := (h.below (hbox _)).below c5; have ca5 := fun o => (bcell c5).1 w.heap.size o (by simp <;> omega); have s5 := (s4.below (hbox4 _)).below b5; have hs5 : w4.heap.size < w5.heap.size := Nat.lt_of_lt_of_le (by simp <;> omega) b5.size; have cb5 := fun o => (bcell b5).1 w4.heap.size o (by simp <;> omega); have c5d := c5.drew; have h5d := (h.below (hbox _)).below c5d; have s5d := s5.below ((Below.refl _ _).drew))
    go_region_with (first | (go_at_call 59; refine (toTable_is _ d _ h5d l0).mono ?_; rintro e w6 ⟨z6, rfl, s6, b6⟩; have c6 := c5d.trans (b6.mono c5d.size); have h6' := (h.below (hbox _)).below c6; have ca6 := fun o => (bcell c6).1 w.heap.size o (by simp <;> omega); have s5' := s5d.below b6; have cb6 := fun o => (bcell b6).1 w4.heap.size o hs5) | (go_at_call 52; refine (eqTable_any _ _ d _ s5' s6 l0).mono ?_; rintro e w7 ⟨rfl, b7⟩; have c7 := c6.trans (b7.mono c6.size); have h7' := (h.below (hbox _)).below c7; have ca7 := fun o => (bcell c7).1 w.heap.size o (by simp <;> omega)))
    all_goals
      go_wp2
      go_ret
      exact ⟨rfl, (hbox _).trans (c7.mono (Below.size (hbox _)))⟩
end Go.Proofs.Ytfbbdnicplbmdaa

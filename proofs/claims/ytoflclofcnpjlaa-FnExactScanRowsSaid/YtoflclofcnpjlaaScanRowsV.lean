/- Walk: the law of ScanRows. -/
import Derived.Test.YtoflclofcnpjlaaScanI
import Derived.Test.YtoflclofcnpjlaaScanS
import Derived.Test.YtoflclofcnpjlaaKLogRowR
import Derived.Test.YtoflclofcnpjlaaKLogRowE
import Derived.Deep.RegionWith
import Derived.Deep.RegionHeld
import Derived.Lib.Hide
set_option linter.unusedVariables false
set_option linter.unusedSimpArgs false
namespace Go.Proofs.Ytoflclofcnpjlaa
open Go.RowKit Sp Go.Sort

set_option maxRecDepth 100000 in
set_option maxHeartbeats 1600000 in
theorem walkFnExactScanRows (w : World) (a0 : ByteArray) (y0 : a0.size ≤ maxLen) :
    Calls Try.prog 13 #[.string a0] w fun e w' => e = .returned (.bool true) ∧ Below w.heap.size w w' := by
  have hal : ∀ (W : World) (o : Obj), RowKit.Below W.heap.size W (W.alloc o) := fun W o => (Below.refl _ _).alloc (Nat.le_refl _) _
  by_cases hbig0 : (1048576 : Int) < a0.size
  · go_enter Try.func13, Try.ntmps13
    go_wp2
    go_ret
    exact ⟨rfl, (Below.refl _ _)⟩
  obtain ⟨L, E, hC⟩ := ScanC.exists a0 a0.size 0 (Nat.zero_le _) (by omega)
  have r0 : ((L).length : Int) ≤ 1048576 := by have := hC.len (Nat.zero_le _); omega
  go_enter Try.func13, Try.ntmps13
  go_wp2_with (go_at_call 36; refine (specScanRows a0 L E hC _ (by omega)).mono ?_; rintro e w1 ⟨vu, rfl, Ru, b1⟩; have c1 := Below.trans (Below.refl w.heap.size w) (b1.mono (Below.size (Below.refl w.heap.size w))); have z1 := b1.size; have ux := Ru; obtain ⟨aou, cpu, hqu, _⟩ := Ru.shape; subst hqu; clear Ru)
  go_wp2_with (go_at_call 37; refine (implScanRows a0 L E hC _ (by omega)).mono ?_; rintro e w2 ⟨vg, rfl, Rg, b2⟩; have c2 := Below.trans c1 (b2.mono (Below.size c1)); have z2 := b2.size; have cu2 := Below.trans (Below.refl w1.heap.size w1) (b2.mono (Below.size (Below.refl w1.heap.size w1))); have g_2 := Rg; obtain ⟨aog, cpg, hqg⟩ := Rg.form; subst hqg)
  go_wp2_with (go_at_call 38; refine (eqLogRowS_any _ _ _ _ (g_2.slT (fun _ => rfl) (by decide)) (ux.below cu2) r0).mono ?_; rintro e w3 ⟨rfl, b3⟩; have c3 := Below.trans c2 (b3.mono (Below.size c2)); have z3 := b3.size; have cu3 := Below.trans cu2 (b3.mono (Below.size cu2)); have g_3 := g_2.below b3)
  go_wp2_with (go_at_call 39; refine (markLogRowS_rowi _ _ _ 1 (by rfl) _ _ _ g_3 (by omega) (by omega)).mono ?_; rintro e w4 ⟨rfl, g_4, t4⟩; have c4 : RowKit.Below w.heap.size w w4 := Below.trans c3 (t4.below (by omega) (by omega)); have z4 := t4.size; have cu4 := Below.trans cu3 (t4.below (by omega) (Below.size cu3)))
  go_wp2_with (go_at_call 40; refine (heldLogRowS_rowi _ _ 1 _ (by rfl) _ _ _ g_4 (by omega) (by omega)).mono ?_; rintro e w5 ⟨rfl, b5⟩; have c5 := Below.trans c4 (b5.mono (Below.size c4)); have z5 := b5.size; have cu5 := Below.trans cu4 (b5.mono (Below.size cu4)); have g_5 := g_4.below b5)
  go_wp2_with (go_at_call 37; refine (implScanRows a0 L E hC _ (by omega)).mono ?_; rintro e w6 ⟨vh, rfl, Rh, b6⟩; have c6 := Below.trans c5 (b6.mono (Below.size c5)); have z6 := b6.size; have cu6 := Below.trans cu5 (b6.mono (Below.size cu5)); have g_6 := g_5.below b6; have h_6 := Rh; obtain ⟨aoh, cph, hqh⟩ := Rh.form; subst hqh)
  go_wp2_with (go_at_call 38; refine (eqLogRowS_any _ _ _ _ (h_6.slT (fun _ => rfl) (by decide)) (ux.below cu6) r0).mono ?_; rintro e w7 ⟨rfl, b7⟩; have c7 := Below.trans c6 (b7.mono (Below.size c6)); have z7 := b7.size; have cu7 := Below.trans cu6 (b7.mono (Below.size cu6)); have g_7 := g_6.below b7; have h_7 := h_6.below b7)
  go_wp2_with (go_at_call 40; refine (heldLogRowS_rowi _ _ 1 _ (by rfl) _ _ _ g_7 (by omega) (by omega)).mono ?_; rintro e w8 ⟨rfl, b8⟩; have c8 := Below.trans c7 (b8.mono (Below.size c7)); have z8 := b8.size; have cu8 := Below.trans cu7 (b8.mono (Below.size cu7)); have g_8 := g_7.below b8; have h_8 := h_7.below b8)
  go_wp2
  go_ret
  exact ⟨rfl, c8⟩
end Go.Proofs.Ytoflclofcnpjlaa

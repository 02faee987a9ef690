
/- Walks: copyDev of the program: fresh rows. -/
import Derived.Test.YtmbmflhcimkjpaaDevC
set_option linter.unusedVariables false
set_option linter.unusedSimpArgs false
namespace Go.Proofs.Ytmbmflhcimkjpaa
open Go.RowKit Sp Go.Sort

set_option maxRecDepth 100000 in
set_option maxHeartbeats 1600000 in
theorem copyDev_row (d : DevR) (ad0 ad1 : Option Addr) (cap0 cap1 : Nat) (w : World) (h0 : SlT strCells 1 w (.slice ad0 d.sectors.length cap0) d.sectors) (h1 : SlT PutR.cells 2 w (.slice ad1 d.cached.length cap1) d.cached)
    (l0 : (d.sectors.length : Int) ≤ 1048576) (l1 : (d.cached.length : Int) ≤ 1048576) :
    Calls Try.prog 112 #[.agg #[.slice ad0 d.sectors.length cap0, .slice ad1 d.cached.length cap1, .int .i64 d.writes]] w fun e w' => ∃ v', e = .returned v' ∧ RowDev w.heap.size w'.heap.size w' v' d ∧ Below w.heap.size w w' := by
  have hb2 : ∀ o₁ o₂ : Obj, RowKit.Below w.heap.size w ((w.alloc o₁).alloc o₂) := fun o₁ o₂ => ((Below.refl _ _).alloc (Nat.le_refl _) _).alloc (by simp <;> omega) _
  go_enter Try.func112, Try.ntmps112
  go_wp2_with (go_at_call 173; refine (cloneStr_row ad0 cap0 d.sectors _ (h0.below (hb2 _ _)) l0).mono ?_; rintro e w1 ⟨v0, rfl, r0, b1⟩; obtain ⟨ao, cp, rfl⟩ := r0.form; have x1 := Below.trans (hb2 _ _) (b1.mono (Below.size (hb2 _ _))); have hs1 : w.heap.size + 1 < w1.heap.size := Nat.lt_of_lt_of_le (by simp) b1.size; obtain ⟨hc, hf⟩ := bcell b1; have ca1 := fun o => hc w.heap.size o (by simp <;> omega); have fa1 := fun o => hf w.heap.size o (by simp <;> omega); have ra1 := fun o => hc (w.heap.size + 1) o (by simp <;> omega); have rf1 := fun o => hf (w.heap.size + 1) o (by simp <;> omega); clear hc hf; have x1' := Below.setCell x1 (p := ⟨w.heap.size, 0, none⟩) (Nat.le_refl _) (.slice ao d.sectors.length cp))
  go_wp2_with (go_at_call 174; go_loud (refine (clonePut_row ad1 cap1 d.cached _ (h1.below x1') l1).mono ?_; rintro e w2 ⟨v1, rfl, r1, b2⟩; obtain ⟨bo, dp, rfl⟩ := r1.form; have x2 := Below.trans x1' (b2.mono (Below.size x1')); have hs2 : w1.heap.size ≤ w2.heap.size := (by simpa using b2.size); obtain ⟨hc, hf⟩ := bcell b2; have ca2 := fun o => hc w.heap.size o (by simp <;> omega); have fa2 := fun o => hf w.heap.size o (by simp <;> omega); have ra2 := fun o => hc (w.heap.size + 1) o (by simp <;> omega); have rf2 := fun o => hf (w.heap.size + 1) o (by simp <;> omega); clear hc hf; have r0' := own_below (own_other r0.1 ⟨w.heap.size, 0, none⟩ (by simp <;> omega) (.slice ao d.sectors.length cp)) b2; have r1' := r1.1))
  go_wp2
  refine bodyPost_ret (v := .agg #[.slice ao d.sectors.length cp, .slice bo d.cached.length dp, .int .i64 d.writes]) (by simp [results, Try.results112, go_sem, ca1, ca2, ra1, ra2]) rfl ?_
  refine ⟨_, rfl, ⟨_, _, w1.heap.size, rfl, by omega, by simp <;> omega, ⟨own_mono (base := w.heap.size + 1 + 1) ?_ (by omega), fun k hk => r0.2 k hk⟩, ⟨own_mono (base := w1.heap.size) ?_ (by omega), fun k hk => ?_⟩⟩, ?_⟩
  · repeat (refine own_other ?_ _ (by simp <;> omega) _)
    refine own_mono r0' (by simp)
  · repeat (refine own_other ?_ _ (by simp <;> omega) _)
    refine own_mono r1' (by simp)
  · have := r1.2 k hk
    simpa using this
  · repeat (refine Below.setCell ?_ (by simp <;> omega) _)
    exact x2
end Go.Proofs.Ytmbmflhcimkjpaa

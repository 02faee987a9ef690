/- Walks: copies of a key device: fresh rows. -/
import Derived.Test.YtcdcpdbolakfaaaSKeyDevR
import Derived.Test.YtcdcpdbolakfaaaDelW
import Derived.Test.YtcdcpdbolakfaaaCKeySlot
import Derived.Deep.DeepCutAuto
set_option linter.unusedVariables false
set_option linter.unusedSimpArgs false
namespace Go.Proofs.Ytcdcpdbolakfaaa
open Go.RowKit Sp Go.Sort

set_option maxRecDepth 100000 in
set_option maxHeartbeats 800000 in
theorem l4Copy_row (d : KeyDevR) (ad : Addr) (cap : Nat) (w : World) (h0 : SlT SlotR.cells 2 w (.slice (some ad) d.slots.length cap) d.slots) (l0 : (d.slots.length : Int) ≤ 1048576) :
    Calls Try.prog 82 #[.agg #[.string d.master, .slice (some ad) d.slots.length cap, .int .i64 d.wiped]] w fun e w' => ∃ v', e = .returned v' ∧ RowKeyDev w.heap.size w'.heap.size w' v' d ∧ Below w.heap.size w w' := by
  have hb2 : ∀ o₁ o₂ : Obj, RowKit.Below w.heap.size w ((w.alloc o₁).alloc o₂) := fun o₁ o₂ => ((Below.refl _ _).alloc (Nat.le_refl _) _).alloc (by simp <;> omega) _
  have hb3 : ∀ o₁ o₂ o₃ : Obj, RowKit.Below (w.heap.size + 1 + 1) ((w.alloc o₁).alloc o₂) (((w.alloc o₁).alloc o₂).alloc o₃) := fun o₁ o₂ o₃ => (Below.refl _ _).alloc (by simp) _
  have hb4 : ∀ o₁ o₂ o₃ : Obj, RowKit.Below w.heap.size w (((w.alloc o₁).alloc o₂).alloc o₃) := fun o₁ o₂ o₃ => (hb2 o₁ o₂).alloc (by simp <;> omega) _
  have hb5 : ∀ o₁ o₂ o₃ : Obj, w.heap.size + 1 + 1 ≤ (((w.alloc o₁).alloc o₂).alloc o₃).heap.size := fun o₁ o₂ o₃ => by simp
  have hz : ∀ o₁ o₂ : Obj, (((w.alloc o₁).alloc o₂).alloc (.cells #[] 92)).ownsRow (w.heap.size + 1 + 1) 92 2 (.slice (some ⟨w.heap.size + 1 + 1, 0, none⟩) 0 0) 0 [] := fun o₁ o₂ => own0 (by simp) (Nat.le_refl _)
  go_enter Try.func82, Try.ntmps82
  go_upto_region 2 with (at_builtin; refine app_recs rfl rfl Try.underlying34 info_KeySlot rfl (by decide) (hz _ _) rfl ad cap (h0.below (hb4 _ _ _)) rfl (fun _ => rfl) slotOne (by omega) (hb3 _ _ _) (Nat.le_refl _) (hb5 _ _ _) ?_; intro v' w1 hr1 hbl1 hg1; have hx := (hb2 _ _).trans (hbl1.mono (show w.heap.size ≤ w.heap.size + 1 + 1 from by omega)); obtain ⟨ao, cp, rfl⟩ := (Row.of_own hr1 (by simp)).form; obtain ⟨hc, hf⟩ := bcellB hbl1; have ca0 := fun o => hc w.heap.size o (by omega); have fa0 := fun o => hf w.heap.size o (by omega); have ca1 := fun o => hc (w.heap.size + 1) o (by omega); have fa1 := fun o => hf (w.heap.size + 1) o (by omega); clear hc hf)
  have hr2 : w1.ownsRow (w.heap.size + 1 + 1) 92 2 (.slice ao d.slots.length cp) d.slots.length (d.slots.map SlotR.cells).flatten := by simpa using hr1
  clear hr1 hg1
  go_wp2
  refine bodyPost_ret (v := .agg #[.string d.master, .slice ao d.slots.length cp, .int .i64 d.wiped]) (by simp [results, Try.results82, go_sem, ca0, ca1]) rfl ?_
  refine ⟨_, rfl, ⟨_, rfl, Row.of_own (own_mono (base := w.heap.size + 1 + 1) ?_ (by omega)) rfl⟩, ?_⟩
  · repeat (refine own_other ?_ _ (by simp <;> omega) _)
    exact hr2
  · repeat (refine Below.setCell ?_ (by simp <;> omega) _)
    exact hx

set_option maxRecDepth 100000 in
set_option maxHeartbeats 800000 in
theorem copyKeys_row (d : KeyDevR) (ad : Addr) (cap : Nat) (w : World) (h0 : SlT SlotR.cells 2 w (.slice (some ad) d.slots.length cap) d.slots) (l0 : (d.slots.length : Int) ≤ 1048576) :
    Calls Try.prog 83 #[.agg #[.string d.master, .slice (some ad) d.slots.length cap, .int .i64 d.wiped]] w fun e w' => ∃ v', e = .returned v' ∧ RowKeyDev w.heap.size w'.heap.size w' v' d ∧ Below w.heap.size w w' := by
  have hb2 : ∀ o₁ o₂ : Obj, RowKit.Below w.heap.size w ((w.alloc o₁).alloc o₂) := fun o₁ o₂ => ((Below.refl _ _).alloc (Nat.le_refl _) _).alloc (by simp <;> omega) _
  go_enter Try.func83, Try.ntmps83
  go_wp2_with (go_at_call 105; refine (cloneKeySlot_row ad cap d.slots _ (h0.below (hb2 _ _)) l0).mono ?_; rintro e w1 ⟨v0, rfl, r0, b1⟩; obtain ⟨ao, cp, rfl⟩ := r0.form; have x1 := Below.trans (hb2 _ _) (b1.mono (Below.size (hb2 _ _))); have hs1 : w.heap.size + 1 < w1.heap.size := Nat.lt_of_lt_of_le (by simp) b1.size; obtain ⟨hc, hf⟩ := bcell b1; have cA1 := fun o => hc w.heap.size o (by first | omega | (simp <;> omega)); have fA1 := fun o => hf w.heap.size o (by first | omega | (simp <;> omega)); have cR1 := fun o => hc (w.heap.size + 1) o (by first | omega | (simp <;> omega)); have fR1 := fun o => hf (w.heap.size + 1) o (by first | omega | (simp <;> omega)); clear hc hf)
  go_wp2
  refine bodyPost_ret (v := .agg #[.string d.master, .slice ao d.slots.length cp, .int .i64 d.wiped]) (by simp [results, Try.results83, go_sem, cA1, cR1]) rfl ?_
  refine ⟨_, rfl, ⟨_, rfl, Row.of_own (own_mono (base := w.heap.size + 1 + 1) ?_ (by omega)) rfl⟩, ?_⟩
  · repeat (refine own_other ?_ _ (by simp <;> omega) _)
    exact own_mono r0.1 (by simp)
  · repeat (refine Below.setCell ?_ (by simp <;> omega) _)
    exact x1
end Go.Proofs.Ytcdcpdbolakfaaa

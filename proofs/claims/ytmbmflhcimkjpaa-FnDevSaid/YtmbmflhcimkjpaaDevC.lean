
/- Walks: copies of a device: fresh rows. -/
import Derived.Test.YtmbmflhcimkjpaaSDevR
import Derived.Test.YtmbmflhcimkjpaaDevW
import Derived.Test.YtmbmflhcimkjpaaStepR
import Derived.Test.YtmbmflhcimkjpaaCStr
import Derived.Test.YtmbmflhcimkjpaaCPut
import Derived.Deep.DeepCutAuto
import Derived.Deep.RegionHeldLaw
import Derived.Lib.Hide
set_option linter.unusedVariables false
set_option linter.unusedSimpArgs false
namespace Go.Proofs.Ytmbmflhcimkjpaa
open Go.RowKit Sp Go.Sort
theorem strOne : ∀ x : ByteArray, ∀ u ∈ strCells x, u.oneCell' = true := by
  intro x u hu
  simp [strCells] at hu
  subst hu; rfl
theorem putOne : ∀ x : PutR, ∀ u ∈ PutR.cells x, u.oneCell' = true := by
  intro x u hu
  simp [PutR.cells] at hu
  rcases hu with rfl | rfl <;> rfl

/-- The value is the device, its slices rows of one's own in blocks that are not one. -/
def OwnDev (lo : Nat) (w : World) (v : Value) (d : DevR) : Prop := ∃ s0 s1 : Value, v = .agg #[s0, s1, .int .i64 d.writes] ∧ w.ownsRow lo 9 1 s0 d.sectors.length (d.sectors.map strCells).flatten ∧ w.ownsRow lo 61 2 s1 d.cached.length (d.cached.map PutR.cells).flatten ∧ Apart s0 s1
theorem OwnDev.is {lo : Nat} {w : World} {v : Value} {d : DevR} (h : OwnDev lo w v d) : IsDev w v d := by
  obtain ⟨s0, s1, rfl, r0, r1, _⟩ := h
  exact ⟨s0, s1, rfl, SlT.of_own r0 (fun _ => rfl) (by decide), SlT.of_own r1 (fun _ => rfl) (by decide)⟩

set_option maxRecDepth 100000 in
set_option maxHeartbeats 1600000 in
theorem l5Copy_own (d : DevR) (ad0 ad1 : Option Addr) (cap0 cap1 : Nat) (w : World) (h0 : SlT strCells 1 w (.slice ad0 d.sectors.length cap0) d.sectors) (h1 : SlT PutR.cells 2 w (.slice ad1 d.cached.length cap1) d.cached)
    (l0 : (d.sectors.length : Int) ≤ 1048576) (l1 : (d.cached.length : Int) ≤ 1048576) :
    Calls Try.prog 113 #[.agg #[.slice ad0 d.sectors.length cap0, .slice ad1 d.cached.length cap1, .int .i64 d.writes]] w fun e w' => ∃ v', e = .returned v' ∧ OwnDev w.heap.size w' v' d ∧ Below w.heap.size w w' := by
  have hb2 : ∀ o₁ o₂ : Obj, RowKit.Below w.heap.size w ((w.alloc o₁).alloc o₂) := fun o₁ o₂ => ((Below.refl _ _).alloc (Nat.le_refl _) _).alloc (by simp <;> omega) _
  go_enter Try.func113, Try.ntmps113
  go_upto_region 1 with fail
  have hS : ((w.alloc (.cells #[.slice ad0 d.sectors.length cap0, .slice ad1 d.cached.length cap1, .int .i64 d.writes] 52)).alloc (.cells #[.slice none 0 0, .slice none 0 0, .int .i64 0] 52)).heap.size = w.heap.size + 1 + 1 := by simp
  have hA0 : ((w.alloc (.cells #[.slice ad0 d.sectors.length cap0, .slice ad1 d.cached.length cap1, .int .i64 d.writes] 52)).alloc (.cells #[.slice none 0 0, .slice none 0 0, .int .i64 0] 52)).cell? ⟨w.heap.size, 0, none⟩ = some (.slice ad0 d.sectors.length cap0) := by simp [go_sem]
  have hA1 : ((w.alloc (.cells #[.slice ad0 d.sectors.length cap0, .slice ad1 d.cached.length cap1, .int .i64 d.writes] 52)).alloc (.cells #[.slice none 0 0, .slice none 0 0, .int .i64 0] 52)).cell? ⟨w.heap.size, 1, none⟩ = some (.slice ad1 d.cached.length cap1) := by simp [go_sem]
  have hA2 : ((w.alloc (.cells #[.slice ad0 d.sectors.length cap0, .slice ad1 d.cached.length cap1, .int .i64 d.writes] 52)).alloc (.cells #[.slice none 0 0, .slice none 0 0, .int .i64 0] 52)).cell? ⟨w.heap.size, 2, none⟩ = some (.int .i64 d.writes) := by simp [go_sem]
  have hR0 : ((w.alloc (.cells #[.slice ad0 d.sectors.length cap0, .slice ad1 d.cached.length cap1, .int .i64 d.writes] 52)).alloc (.cells #[.slice none 0 0, .slice none 0 0, .int .i64 0] 52)).cell? ⟨w.heap.size + 1, 0, none⟩ = some (.slice none 0 0) := by simp [go_sem]
  have hR1 : ((w.alloc (.cells #[.slice ad0 d.sectors.length cap0, .slice ad1 d.cached.length cap1, .int .i64 d.writes] 52)).alloc (.cells #[.slice none 0 0, .slice none 0 0, .int .i64 0] 52)).cell? ⟨w.heap.size + 1, 1, none⟩ = some (.slice none 0 0) := by simp [go_sem]
  have hR2 : ((w.alloc (.cells #[.slice ad0 d.sectors.length cap0, .slice ad1 d.cached.length cap1, .int .i64 d.writes] 52)).alloc (.cells #[.slice none 0 0, .slice none 0 0, .int .i64 0] 52)).cell? ⟨w.heap.size + 1, 2, none⟩ = some (.int .i64 0) := by simp [go_sem]
  have hF : ∀ o, ((w.alloc (.cells #[.slice ad0 d.sectors.length cap0, .slice ad1 d.cached.length cap1, .int .i64 d.writes] 52)).alloc (.cells #[.slice none 0 0, .slice none 0 0, .int .i64 0] 52)).frozen? ⟨w.heap.size + 1, o, none⟩ = false := fun o => by simp [go_sem]
  have hB := hb2 (.cells #[.slice ad0 d.sectors.length cap0, .slice ad1 d.cached.length cap1, .int .i64 d.writes] 52) (.cells #[.slice none 0 0, .slice none 0 0, .int .i64 0] 52)
  generalize ((w.alloc (.cells #[.slice ad0 d.sectors.length cap0, .slice ad1 d.cached.length cap1, .int .i64 d.writes] 52)).alloc (.cells #[.slice none 0 0, .slice none 0 0, .int .i64 0] 52)) = W0 at hS hA0 hA1 hA2 hR0 hR1 hR2 hF hB ⊢
  have bB1 : ∀ o : Obj, RowKit.Below w.heap.size w (W0.alloc o).drew := fun o => (hB.alloc (by omega) o).drew
  have bB2 : ∀ o o' : Obj, RowKit.Below w.heap.size w ((W0.alloc o).alloc o').drew := fun o o' => ((hB.alloc (by omega) o).alloc (by simp <;> omega) o').drew
  have bR1 : ∀ o : Obj, RowKit.Below (w.heap.size + 1 + 1) W0 (W0.alloc o).drew := fun o => ((Below.refl _ _).alloc (by omega) o).drew
  have bR2 : ∀ o o' : Obj, RowKit.Below (w.heap.size + 1 + 1) W0 ((W0.alloc o).alloc o').drew := fun o o' => (((Below.refl _ _).alloc (by omega) o).alloc (by simp <;> omega) o').drew
  have bS1 : ∀ o : Obj, w.heap.size + 1 + 1 ≤ (W0.alloc o).drew.heap.size := fun o => Nat.le_trans (by omega) (bR1 o).size
  have bS2 : ∀ o o' : Obj, w.heap.size + 1 + 1 ≤ ((W0.alloc o).alloc o').drew.heap.size := fun o o' => Nat.le_trans (by omega) (bR2 o o').size
  have oA1 : (W0.alloc (.cells #[] 9)).drew.ownsRow (w.heap.size + 1 + 1) 9 1 (.slice (some ⟨w.heap.size + 1 + 1, 0, none⟩) 0 0) 0 [] := (own0 hS (by omega)).drew
  have oA2 : ∀ o : Obj, ((W0.alloc (.cells #[] 9)).alloc o).drew.ownsRow (w.heap.size + 1 + 1) 9 1 (.slice (some ⟨w.heap.size + 1 + 1, 0, none⟩) 0 0) 0 [] := fun o => ((own0 hS (by omega)).alloc o).drew
  have oA3 : ∀ o : Obj, ((W0.alloc o).alloc (.cells #[] 9)).drew.ownsRow (w.heap.size + 1 + 1) 9 1 (.slice (some ⟨w.heap.size + 1 + 1 + 1, 0, none⟩) 0 0) 0 [] := fun o => (own0 (by simp [hS]) (by omega)).drew
  have oB2 : ∀ o : Obj, ((W0.alloc (.cells #[] 61)).alloc o).drew.ownsRow (w.heap.size + 1 + 1) 61 2 (.slice (some ⟨w.heap.size + 1 + 1, 0, none⟩) 0 0) 0 [] := fun o => ((own0 hS (by omega)).alloc o).drew
  have oB3 : ∀ o : Obj, ((W0.alloc o).alloc (.cells #[] 61)).drew.ownsRow (w.heap.size + 1 + 1) 61 2 (.slice (some ⟨w.heap.size + 1 + 1 + 1, 0, none⟩) 0 0) 0 [] := fun o => (own0 (by simp [hS]) (by omega)).drew
  go_region_held_law (fun w' => w'.cell? ⟨w.heap.size, 0, none⟩ = some (.slice ad0 d.sectors.length cap0) ∧ w'.cell? ⟨w.heap.size, 1, none⟩ = some (.slice ad1 d.cached.length cap1) ∧ w'.cell? ⟨w.heap.size, 2, none⟩ = some (.int .i64 d.writes))
    (go_keep)
    (first
      | (refine step_app_recs (o := ⟨some 6, _, _, _, _, _⟩) (base := w.heap.size + 1 + 1) (B0 := w.heap.size + 1 + 1) (W0 := W0) rfl rfl Try.underlying43 info_Str rfl (by decide) (by rfl) (by first | exact oA1 | exact oA2 _ | exact oA3 _) ad0 cap0 (by rfl) (h0.below (by first | exact bB1 _ | exact bB2 _ _)) (fun _ => rfl) strOne (by omega) (by first | exact bR1 _ | exact bR2 _ _) (Nat.le_refl _) (by first | exact bS1 _ | exact bS2 _ _) ?_; intro v1 w1 r1 y1 g1 e1; have q1 := hB.trans (y1.mono (show w.heap.size ≤ w.heap.size + 1 + 1 from by omega)); have z1 := y1.size; obtain ⟨ao, cp, rfl⟩ := (Row.of_own r1 (by simp)).form; have ca1 := fun o => (bcellB y1).1 w.heap.size o (by omega))
      | (have oo := own_grown (oB2 _) g1 (own_ne (by omega)); refine step_app_recs (o := ⟨some 10, _, _, _, _, _⟩) (base := w.heap.size + 1 + 1) (B0 := w.heap.size + 1 + 1) (W0 := W0) rfl rfl Try.underlying50 info_Put rfl (by decide) (by rfl) oo ad1 cap1 (by rfl) (h1.below q1) (fun _ => rfl) putOne (by omega) y1 (Nat.le_refl _) (by omega) ?_; intro v2 w2 r2 y2 g2 e2; have q2 := hB.trans (y2.mono (show w.heap.size ≤ w.heap.size + 1 + 1 from by omega)); have z2 := y2.size; obtain ⟨bo, dp, rfl⟩ := (Row.of_own r2 (by simp)).form; obtain ⟨hc, hf⟩ := bcellB y2; have ca2 := fun o => hc w.heap.size o (by omega); have ra2 := fun o => hc (w.heap.size + 1) o (by omega); have rf2 := fun o => hf (w.heap.size + 1) o (by omega); clear hc hf)
      | (have oo := own_grown (oB3 _) g1 (own_ne (by omega)); refine step_app_recs (o := ⟨some 10, _, _, _, _, _⟩) (base := w.heap.size + 1 + 1) (B0 := w.heap.size + 1 + 1) (W0 := W0) rfl rfl Try.underlying50 info_Put rfl (by decide) (by rfl) oo ad1 cap1 (by rfl) (h1.below q1) (fun _ => rfl) putOne (by omega) y1 (Nat.le_refl _) (by omega) ?_; intro v2 w2 r2 y2 g2 e2; have q2 := hB.trans (y2.mono (show w.heap.size ≤ w.heap.size + 1 + 1 from by omega)); have z2 := y2.size; obtain ⟨bo, dp, rfl⟩ := (Row.of_own r2 (by simp)).form; obtain ⟨hc, hf⟩ := bcellB y2; have ca2 := fun o => hc w.heap.size o (by omega); have ra2 := fun o => hc (w.heap.size + 1) o (by omega); have rf2 := fun o => hf (w.heap.size + 1) o (by omega); clear hc hf)
      | (refine step_app_recs (o := ⟨some 10, _, _, _, _, _⟩) (base := w.heap.size + 1 + 1) (B0 := w.heap.size + 1 + 1) (W0 := W0) rfl rfl Try.underlying50 info_Put rfl (by decide) (by rfl) (own0 rfl (by omega)) ad1 cap1 (by rfl) (h1.below (q1.alloc q1.size _)) (fun _ => rfl) putOne (by omega) (y1.alloc (by omega) _) (Nat.le_refl _) (by simp; omega) ?_; intro v2 w2 r2 y2 g2 e2; have q2 := hB.trans (y2.mono (show w.heap.size ≤ w.heap.size + 1 + 1 from by omega)); have z2 := y2.size; obtain ⟨bo, dp, rfl⟩ := (Row.of_own r2 (by simp)).form; obtain ⟨hc, hf⟩ := bcellB y2; have ca2 := fun o => hc w.heap.size o (by omega); have ra2 := fun o => hc (w.heap.size + 1) o (by omega); have rf2 := fun o => hf (w.heap.size + 1) o (by omega); clear hc hf))
  all_goals
    have r1' : w2.ownsRow (w.heap.size + 1 + 1) 9 1 (.slice ao d.sectors.length cp) (0 + d.sectors.length) ([] ++ (d.sectors.map strCells).flatten) := by
      first
        | refine own_grown r1 g2 ?_
        | refine own_grown (r1.alloc _) g2 ?_
      intro k h2 h3
      have hk := (r1.lt k h2).2
      rcases e1 with e | e <;> rw [e] at h2 <;> simp [Act.eval, Value.ownBlock, hS] at h2 h3 <;> omega
    have ap : Apart (.slice ao d.sectors.length cp) (.slice bo d.cached.length dp) := by
      intro k h2 h3
      have hk := (r1.lt k h2).2
      rcases e2 with e' | e' <;> rw [e'] at h3
      · rcases e1 with e | e <;> rw [e] at h2 <;> simp [Act.eval, Value.ownBlock, hS] at h2 h3 <;> omega
      · simp at h3; omega
    simp only [Nat.zero_add, List.nil_append] at r1' r2
    clear r1 g1 g2 e1 e2 y1 y2 ca1 oA1 oA2 oA3 oB2 oB3 bB1 bB2 bR1 bR2 bS1 bS2
    go_wp2
    refine bodyPost_ret (v := .agg #[.slice ao d.sectors.length cp, .slice bo d.cached.length dp, .int .i64 d.writes]) (by simp [results, Try.results113, go_sem, ca2, ra2, hR0, hR1, hR2]) rfl ?_
    refine ⟨_, rfl, ⟨_, _, rfl, own_mono (base := w.heap.size + 1 + 1) ?_ (by omega), own_mono (base := w.heap.size + 1 + 1) ?_ (by omega), ap⟩, ?_⟩
    · repeat (refine own_other ?_ _ (by simp <;> omega) _)
      exact r1'
    · repeat (refine own_other ?_ _ (by simp <;> omega) _)
      exact r2
    · repeat (refine Below.setCell ?_ (by simp <;> omega) _)
      exact q2
end Go.Proofs.Ytmbmflhcimkjpaa

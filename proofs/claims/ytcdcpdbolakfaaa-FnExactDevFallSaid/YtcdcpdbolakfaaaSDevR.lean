/- Walks: the laws' helpers that mark Dev and read its marks; its slices are rows of one's own. -/
import Derived.Test.YtcdcpdbolakfaaaSDevA
import Derived.Test.YtcdcpdbolakfaaaKStrR
import Derived.Test.YtcdcpdbolakfaaaKPutR
set_option linter.unusedVariables false
set_option linter.unusedSimpArgs false
namespace Go.Proofs.Ytcdcpdbolakfaaa
open Go.RowKit Sp Go.Sort

/-- The value is the record, with slices of its own in the blocks from lo up to below hi. -/
def RowDev (lo hi : Nat) (w : World) (v : Value) (d : DevR) : Prop := ∃ s0 s1 : Value, ∃ m1 : Nat, v = .agg #[s0, s1, .int .i64 d.writes] ∧ lo ≤ m1 ∧ m1 ≤ hi ∧ Row strCells 9 1 lo m1 w s0 d.sectors ∧ Row PutR.cells 99 2 m1 hi w s1 d.cached
theorem RowDev.is {lo hi : Nat} {w : World} {v : Value} {d : DevR} (h : RowDev lo hi w v d) : IsDev w v d := by
  obtain ⟨s0, s1, m1, rfl, e0, e1, r0, r1⟩ := h
  exact ⟨s0, s1, rfl, r0.slT (fun _ => rfl) (by decide), r1.slT (fun _ => rfl) (by decide)⟩
theorem RowDev.below {lo hi : Nat} {w : World} {v : Value} {d : DevR} {w' : World} (h : RowDev lo hi w v d) (hb : Below w.heap.size w w') : RowDev lo hi w' v d := by
  obtain ⟨s0, s1, m1, rfl, e0, e1, r0, r1⟩ := h
  exact ⟨s0, s1, m1, rfl, e0, e1, r0.below hb, r1.below hb⟩
theorem RowDev.kept {lo hi : Nat} {w : World} {v : Value} {d : DevR} {w' : World} {a b : Nat} (h : RowDev lo hi w v d) (hw : Wrote a b w w') (hd : hi ≤ a ∨ b ≤ lo) : RowDev lo hi w' v d := by
  obtain ⟨s0, s1, m1, rfl, e0, e1, r0, r1⟩ := h
  exact ⟨s0, s1, m1, rfl, e0, e1, r0.kept hw (by omega), r1.kept hw (by omega)⟩
theorem RowDev.wide {lo hi : Nat} {w : World} {v : Value} {d : DevR} (h : RowDev lo hi w v d) {lo' hi' : Nat} (h1 : lo' ≤ lo) (h2 : hi ≤ hi') : RowDev lo' hi' w v d := by
  obtain ⟨s0, s1, m1, rfl, e0, e1, r0, r1⟩ := h
  exact ⟨s0, s1, m1, rfl, by omega, by omega, r0.wide h1 (Nat.le_refl _), r1.wide (Nat.le_refl _) h2⟩
theorem toDev_row (v : Value) (d : DevR) (w : World) (h : IsDev w v d) (l0 : (d.sectors.length : Int) ≤ 1048576) (l1 : (d.cached.length : Int) ≤ 1048576) :
    Calls Try.prog 34 #[v] w fun e w' => ∃ g0 g1 : Nat, e = .returned (.agg #[.slice (some ⟨g0, 0, none⟩) d.sectors.length d.sectors.length, .slice (some ⟨g1, 0, none⟩) d.cached.length d.cached.length, .int .i64 d.writes]) ∧ RowDev w.heap.size w'.heap.size w' (.agg #[.slice (some ⟨g0, 0, none⟩) d.sectors.length d.sectors.length, .slice (some ⟨g1, 0, none⟩) d.cached.length d.cached.length, .int .i64 d.writes]) d ∧ Below w.heap.size w w' := by
  refine (toDev_any v d w h l0 l1).mono ?_
  rintro e w' ⟨g0, g1, rfl, o0, o1, q0, hb⟩
  exact ⟨g0, g1, rfl, ⟨_, _, g0 + 1, rfl, (by have h1 : w.heap.size ≤ g0 := (o0.lt _ rfl).1; omega), (by have h1 : g1 < w'.heap.size := (o1.lt _ rfl).2; omega), (Row.cut (Row.of_own o0 rfl) (by have h1 : w.heap.size ≤ g0 := (o0.lt _ rfl).1; omega) (by have h1 : g0 < w'.heap.size := (o0.lt _ rfl).2; omega)), (Row.cut (Row.of_own o1 rfl) (by have h1 : w.heap.size ≤ g1 := (o1.lt _ rfl).1; omega) (by have h1 : g1 < w'.heap.size := (o1.lt _ rfl).2; omega))⟩, hb⟩
theorem IsDev.s0 {w : World} {d : DevR} {a0 : Value} {a1 : Value} {a2 : Int} (h : IsDev w (.agg #[a0, a1, .int .i64 a2]) d) : SlT strCells 1 w a0 d.sectors := by
  obtain ⟨s0, s1, he, h0, h1⟩ := h
  simp at he
  obtain rfl : a0 = s0 := by first | exact he.1 | exact he.2.1 | exact he.2.2.1 | exact he
  exact h0
theorem IsDev.s1 {w : World} {d : DevR} {a0 : Value} {a1 : Value} {a2 : Int} (h : IsDev w (.agg #[a0, a1, .int .i64 a2]) d) : SlT PutR.cells 2 w a1 d.cached := by
  obtain ⟨s0, s1, he, h0, h1⟩ := h
  simp at he
  obtain rfl : a1 = s1 := by first | exact he.1 | exact he.2.1 | exact he.2.2.1 | exact he
  exact h1
/-- The record, marked from k on. -/
def Sp.DevR.marked (d : DevR) (k : Nat) : DevR := { d with sectors := marksStr (k) d.sectors.length, cached := marksPut (k + 1 * d.sectors.length) d.cached.length }
set_option maxRecDepth 100000 in
set_option maxHeartbeats 800000 in
theorem markDev_row (v : Value) (d : DevR) (k : Nat) (w : World) (lo hi : Nat) (h : RowDev lo hi w v d) (hhi : hi ≤ w.heap.size) (hk1 : 1 ≤ (k : Int)) (hkl : (k : Int) + 1 * d.sectors.length + 2 * d.cached.length ≤ 999999999) :
    Calls Try.prog 50 #[v, .int .i64 k] w fun e w' => e = .returned (.int .i64 ((k + 1 * d.sectors.length + 2 * d.cached.length : Nat) : Int)) ∧ RowDev lo hi w' v (d.marked k) ∧ Wrote lo hi w w' := by
  obtain ⟨s0, s1, m1, rfl, e0, e1, r0, r1⟩ := h
  have hbox : ∀ o : Obj, RowKit.Below w.heap.size w (w.alloc o) := fun o => (Below.refl _ _).alloc (Nat.le_refl _) _
  go_enter Try.func50, Try.ntmps50
  go_wp2_with (go_at_call 89; refine (markStrS_rowi s0 _ _ (k) (by omega) _ lo m1 (r0.below (hbox _)) (by omega) (by omega)).mono ?_; rintro e w0 ⟨rfl, q0, t0⟩; have ca0 := fun o => t0.cell (p := ⟨w.heap.size, o, none⟩) (by simp) (by simp; omega); have r1x1 := (r1.below (hbox _)).kept t0 (by omega))
  go_wp2_with (go_at_call 90; refine (markPutS_rowi s1 _ _ (k + 1 * d.sectors.length) (by omega) _ m1 hi (r1x1) (by omega) (by omega)).mono ?_; rintro e w1 ⟨rfl, q1, t1⟩)
  go_ret
  exact ⟨ret_int (by omega), ⟨s0, s1, m1, rfl, e0, e1, (q0.kept t1 (by omega)), q1⟩, Wrote.trans (Wrote.trans (Wrote.of_below (hbox _)) (t0.wide (by omega) (by omega))) (t1.wide (by omega) (by omega))⟩

set_option maxRecDepth 100000 in
set_option maxHeartbeats 800000 in
theorem heldDev_row (v : Value) (d : DevR) (k : Nat) (w : World) (lo hi : Nat) (h : RowDev lo hi w v (d.marked k)) (hk1 : 1 ≤ (k : Int)) (hkl : (k : Int) + 1 * d.sectors.length + 2 * d.cached.length ≤ 999999999) :
    Calls Try.prog 51 #[v, .int .i64 k] w fun e w' => e = .returned (.int .i64 ((k + 1 * d.sectors.length + 2 * d.cached.length : Nat) : Int)) ∧ Below w.heap.size w w' := by
  obtain ⟨s0, s1, m1, rfl, e0, e1, r0, r1⟩ := h
  have hbox : ∀ o : Obj, RowKit.Below w.heap.size w (w.alloc o) := fun o => (Below.refl _ _).alloc (Nat.le_refl _) _
  go_enter Try.func51, Try.ntmps51
  go_wp2_with (go_at_call 91; refine (heldStrS_rowi s0 _ (k) _ (by omega) _ lo m1 (r0.below (hbox _)) (by omega) (by omega)).mono ?_; rintro e w0 ⟨rfl, b0⟩; have x0 := Below.trans (hbox _) (b0.mono (Below.size (hbox _))); have ca0 := fun o => (bcell b0).1 w.heap.size o (by simp <;> omega); have r1x1 := (r1.below (hbox _)).below b0)
  go_wp2_with (go_at_call 92; refine (heldPutS_rowi s1 _ (k + 1 * d.sectors.length) _ (by omega) _ m1 hi (r1x1) (by omega) (by omega)).mono ?_; rintro e w1 ⟨rfl, b1⟩; have x1 := Below.trans (x0) (b1.mono (Below.size (x0))))
  go_ret
  exact ⟨ret_int (by omega), x1⟩
theorem markDev_rowi (v : Value) (d : DevR) (x : Int) (k : Nat) (hx : x = (k : Int)) (w : World) (lo hi : Nat) (h : RowDev lo hi w v d) (hhi : hi ≤ w.heap.size) (hk1 : 1 ≤ (k : Int)) (hkl : (k : Int) + 1 * d.sectors.length + 2 * d.cached.length ≤ 999999999) :
    Calls Try.prog 50 #[v, .int .i64 x] w fun e w' => e = .returned (.int .i64 ((k + 1 * d.sectors.length + 2 * d.cached.length : Nat) : Int)) ∧ RowDev lo hi w' v (d.marked k) ∧ Wrote lo hi w w' := by
  subst hx; exact markDev_row v d k w lo hi h hhi hk1 hkl
theorem heldDev_rowi (v : Value) (d : DevR) (x : Int) (k : Nat) (hx : x = (k : Int)) (w : World) (lo hi : Nat) (h : RowDev lo hi w v (d.marked k)) (hk1 : 1 ≤ (k : Int)) (hkl : (k : Int) + 1 * d.sectors.length + 2 * d.cached.length ≤ 999999999) :
    Calls Try.prog 51 #[v, .int .i64 x] w fun e w' => e = .returned (.int .i64 ((k + 1 * d.sectors.length + 2 * d.cached.length : Nat) : Int)) ∧ Below w.heap.size w w' := by
  subst hx; exact heldDev_row v d k w lo hi h hk1 hkl
end Go.Proofs.Ytcdcpdbolakfaaa

/- Walks: the laws' helpers that mark Iter and read its marks; its slices are rows of one's own. -/
import Derived.Test.YtcdcpdbolakfaaaSIterA
import Derived.Test.YtcdcpdbolakfaaaKKVR
set_option linter.unusedVariables false
set_option linter.unusedSimpArgs false
namespace Go.Proofs.Ytcdcpdbolakfaaa
open Go.RowKit Sp Go.Sort

/-- The value is the record, with slices of its own in the blocks from lo up to below hi. -/
def RowIter (lo hi : Nat) (w : World) (v : Value) (d : IterR) : Prop := ∃ s0 : Value, v = .agg #[s0, .string d.from_, .string d.to, .int .i64 d.at_] ∧ Row KV.cells 86 2 lo hi w s0 d.list
theorem RowIter.is {lo hi : Nat} {w : World} {v : Value} {d : IterR} (h : RowIter lo hi w v d) : IsIter w v d := by
  obtain ⟨s0, rfl, r0⟩ := h
  exact ⟨s0, rfl, r0.slT (fun _ => rfl) (by decide)⟩
theorem RowIter.below {lo hi : Nat} {w : World} {v : Value} {d : IterR} {w' : World} (h : RowIter lo hi w v d) (hb : Below w.heap.size w w') : RowIter lo hi w' v d := by
  obtain ⟨s0, rfl, r0⟩ := h
  exact ⟨s0, rfl, r0.below hb⟩
theorem RowIter.kept {lo hi : Nat} {w : World} {v : Value} {d : IterR} {w' : World} {a b : Nat} (h : RowIter lo hi w v d) (hw : Wrote a b w w') (hd : hi ≤ a ∨ b ≤ lo) : RowIter lo hi w' v d := by
  obtain ⟨s0, rfl, r0⟩ := h
  exact ⟨s0, rfl, r0.kept hw (by omega)⟩
theorem RowIter.wide {lo hi : Nat} {w : World} {v : Value} {d : IterR} (h : RowIter lo hi w v d) {lo' hi' : Nat} (h1 : lo' ≤ lo) (h2 : hi ≤ hi') : RowIter lo' hi' w v d := by
  obtain ⟨s0, rfl, r0⟩ := h
  exact ⟨s0, rfl, r0.wide h1 h2⟩
theorem toIter_row (v : Value) (d : IterR) (w : World) (h : IsIter w v d) (l0 : (d.list.length : Int) ≤ 1048576) :
    Calls Try.prog 27 #[v] w fun e w' => ∃ v', e = .returned v' ∧ RowIter w.heap.size w'.heap.size w' v' d ∧ Below w.heap.size w w' := by
  refine (toIter_any v d w h l0).mono ?_
  rintro e w' ⟨g0, rfl, o0, hb⟩
  exact ⟨_, rfl, ⟨_, rfl, (Row.of_own o0 rfl)⟩, hb⟩
/-- The record, marked from k on. -/
def Sp.IterR.marked (d : IterR) (k : Nat) : IterR := { d with list := marksKV (k) d.list.length }
set_option maxRecDepth 100000 in
set_option maxHeartbeats 800000 in
theorem markIter_row (v : Value) (d : IterR) (k : Nat) (w : World) (lo hi : Nat) (h : RowIter lo hi w v d) (hhi : hi ≤ w.heap.size) (hk1 : 1 ≤ (k : Int)) (hkl : (k : Int) + 2 * d.list.length ≤ 999999999) :
    Calls Try.prog 40 #[v, .int .i64 k] w fun e w' => e = .returned (.int .i64 ((k + 2 * d.list.length : Nat) : Int)) ∧ RowIter lo hi w' v (d.marked k) ∧ Wrote lo hi w w' := by
  obtain ⟨s0, rfl, r0⟩ := h
  have hbox : ∀ o : Obj, RowKit.Below w.heap.size w (w.alloc o) := fun o => (Below.refl _ _).alloc (Nat.le_refl _) _
  go_enter Try.func40, Try.ntmps40
  go_wp2_with (go_at_call 39; refine (markKVS_rowi s0 _ _ (k) (by omega) _ lo hi (r0.below (hbox _)) (by omega) (by omega)).mono ?_; rintro e w0 ⟨rfl, q0, t0⟩)
  go_ret
  exact ⟨ret_int (by omega), ⟨s0, rfl, q0⟩, Wrote.trans (Wrote.of_below (hbox _)) t0⟩

set_option maxRecDepth 100000 in
set_option maxHeartbeats 800000 in
theorem heldIter_row (v : Value) (d : IterR) (k : Nat) (w : World) (lo hi : Nat) (h : RowIter lo hi w v (d.marked k)) (hk1 : 1 ≤ (k : Int)) (hkl : (k : Int) + 2 * d.list.length ≤ 999999999) :
    Calls Try.prog 41 #[v, .int .i64 k] w fun e w' => e = .returned (.int .i64 ((k + 2 * d.list.length : Nat) : Int)) ∧ Below w.heap.size w w' := by
  obtain ⟨s0, rfl, r0⟩ := h
  have hbox : ∀ o : Obj, RowKit.Below w.heap.size w (w.alloc o) := fun o => (Below.refl _ _).alloc (Nat.le_refl _) _
  go_enter Try.func41, Try.ntmps41
  go_wp2_with (go_at_call 81; refine (heldKVS_rowi s0 _ (k) _ (by omega) _ lo hi (r0.below (hbox _)) (by omega) (by omega)).mono ?_; rintro e w0 ⟨rfl, b0⟩; have x0 := Below.trans (hbox _) (b0.mono (Below.size (hbox _))))
  go_ret
  exact ⟨ret_int (by omega), x0⟩
theorem markIter_rowi (v : Value) (d : IterR) (x : Int) (k : Nat) (hx : x = (k : Int)) (w : World) (lo hi : Nat) (h : RowIter lo hi w v d) (hhi : hi ≤ w.heap.size) (hk1 : 1 ≤ (k : Int)) (hkl : (k : Int) + 2 * d.list.length ≤ 999999999) :
    Calls Try.prog 40 #[v, .int .i64 x] w fun e w' => e = .returned (.int .i64 ((k + 2 * d.list.length : Nat) : Int)) ∧ RowIter lo hi w' v (d.marked k) ∧ Wrote lo hi w w' := by
  subst hx; exact markIter_row v d k w lo hi h hhi hk1 hkl
theorem heldIter_rowi (v : Value) (d : IterR) (x : Int) (k : Nat) (hx : x = (k : Int)) (w : World) (lo hi : Nat) (h : RowIter lo hi w v (d.marked k)) (hk1 : 1 ≤ (k : Int)) (hkl : (k : Int) + 2 * d.list.length ≤ 999999999) :
    Calls Try.prog 41 #[v, .int .i64 x] w fun e w' => e = .returned (.int .i64 ((k + 2 * d.list.length : Nat) : Int)) ∧ Below w.heap.size w w' := by
  subst hx; exact heldIter_row v d k w lo hi h hk1 hkl
end Go.Proofs.Ytcdcpdbolakfaaa

/- Walks: the laws' helpers that mark KeyDev and read its marks; its slices are rows of one's own. -/
import Derived.Test.YtcdcpdbolakfaaaSKeyDevA
import Derived.Test.YtcdcpdbolakfaaaKKeySlotR
set_option linter.unusedVariables false
set_option linter.unusedSimpArgs false
namespace Go.Proofs.Ytcdcpdbolakfaaa
open Go.RowKit Sp Go.Sort

/-- The value is the record, with slices of its own in the blocks from lo up to below hi. -/
def RowKeyDev (lo hi : Nat) (w : World) (v : Value) (d : KeyDevR) : Prop := ∃ s1 : Value, v = .agg #[.string d.master, s1, .int .i64 d.wiped] ∧ Row SlotR.cells 92 2 lo hi w s1 d.slots
theorem RowKeyDev.is {lo hi : Nat} {w : World} {v : Value} {d : KeyDevR} (h : RowKeyDev lo hi w v d) : IsKeyDev w v d := by
  obtain ⟨s1, rfl, r1⟩ := h
  exact ⟨s1, rfl, r1.slT (fun _ => rfl) (by decide)⟩
theorem RowKeyDev.below {lo hi : Nat} {w : World} {v : Value} {d : KeyDevR} {w' : World} (h : RowKeyDev lo hi w v d) (hb : Below w.heap.size w w') : RowKeyDev lo hi w' v d := by
  obtain ⟨s1, rfl, r1⟩ := h
  exact ⟨s1, rfl, r1.below hb⟩
theorem RowKeyDev.kept {lo hi : Nat} {w : World} {v : Value} {d : KeyDevR} {w' : World} {a b : Nat} (h : RowKeyDev lo hi w v d) (hw : Wrote a b w w') (hd : hi ≤ a ∨ b ≤ lo) : RowKeyDev lo hi w' v d := by
  obtain ⟨s1, rfl, r1⟩ := h
  exact ⟨s1, rfl, r1.kept hw (by omega)⟩
theorem RowKeyDev.wide {lo hi : Nat} {w : World} {v : Value} {d : KeyDevR} (h : RowKeyDev lo hi w v d) {lo' hi' : Nat} (h1 : lo' ≤ lo) (h2 : hi ≤ hi') : RowKeyDev lo' hi' w v d := by
  obtain ⟨s1, rfl, r1⟩ := h
  exact ⟨s1, rfl, r1.wide h1 h2⟩
theorem toKeyDev_row (v : Value) (d : KeyDevR) (w : World) (h : IsKeyDev w v d) (l1 : (d.slots.length : Int) ≤ 1048576) :
    Calls Try.prog 22 #[v] w fun e w' => ∃ g1 : Nat, e = .returned (.agg #[.string d.master, .slice (some ⟨g1, 0, none⟩) d.slots.length d.slots.length, .int .i64 d.wiped]) ∧ RowKeyDev w.heap.size w'.heap.size w' (.agg #[.string d.master, .slice (some ⟨g1, 0, none⟩) d.slots.length d.slots.length, .int .i64 d.wiped]) d ∧ Below w.heap.size w w' := by
  refine (toKeyDev_any v d w h l1).mono ?_
  rintro e w' ⟨g1, rfl, o1, hb⟩
  exact ⟨g1, rfl, ⟨_, rfl, (Row.of_own o1 rfl)⟩, hb⟩
theorem IsKeyDev.s1 {w : World} {d : KeyDevR} {a0 : ByteArray} {a1 : Value} {a2 : Int} (h : IsKeyDev w (.agg #[.string a0, a1, .int .i64 a2]) d) : SlT SlotR.cells 2 w a1 d.slots := by
  obtain ⟨s1, he, h1⟩ := h
  simp at he
  obtain rfl : a1 = s1 := by first | exact he.1 | exact he.2.1 | exact he.2.2.1 | exact he
  exact h1
/-- The record, marked from k on. -/
def Sp.KeyDevR.marked (d : KeyDevR) (k : Nat) : KeyDevR := { d with slots := marksKeySlot (k) d.slots.length }
set_option maxRecDepth 100000 in
set_option maxHeartbeats 800000 in
theorem markKeyDev_row (v : Value) (d : KeyDevR) (k : Nat) (w : World) (lo hi : Nat) (h : RowKeyDev lo hi w v d) (hhi : hi ≤ w.heap.size) (hk1 : 1 ≤ (k : Int)) (hkl : (k : Int) + 2 * d.slots.length ≤ 999999999) :
    Calls Try.prog 46 #[v, .int .i64 k] w fun e w' => e = .returned (.int .i64 ((k + 2 * d.slots.length : Nat) : Int)) ∧ RowKeyDev lo hi w' v (d.marked k) ∧ Wrote lo hi w w' := by
  obtain ⟨s1, rfl, r1⟩ := h
  have hbox : ∀ o : Obj, RowKit.Below w.heap.size w (w.alloc o) := fun o => (Below.refl _ _).alloc (Nat.le_refl _) _
  go_enter Try.func46, Try.ntmps46
  go_wp2_with (go_at_call 85; refine (markKeySlotS_rowi s1 _ _ (k) (by omega) _ lo hi (r1.below (hbox _)) (by omega) (by omega)).mono ?_; rintro e w0 ⟨rfl, q0, t0⟩)
  go_ret
  exact ⟨ret_int (by omega), ⟨s1, rfl, q0⟩, Wrote.trans (Wrote.of_below (hbox _)) t0⟩

set_option maxRecDepth 100000 in
set_option maxHeartbeats 800000 in
theorem heldKeyDev_row (v : Value) (d : KeyDevR) (k : Nat) (w : World) (lo hi : Nat) (h : RowKeyDev lo hi w v (d.marked k)) (hk1 : 1 ≤ (k : Int)) (hkl : (k : Int) + 2 * d.slots.length ≤ 999999999) :
    Calls Try.prog 47 #[v, .int .i64 k] w fun e w' => e = .returned (.int .i64 ((k + 2 * d.slots.length : Nat) : Int)) ∧ Below w.heap.size w w' := by
  obtain ⟨s1, rfl, r1⟩ := h
  have hbox : ∀ o : Obj, RowKit.Below w.heap.size w (w.alloc o) := fun o => (Below.refl _ _).alloc (Nat.le_refl _) _
  go_enter Try.func47, Try.ntmps47
  go_wp2_with (go_at_call 86; refine (heldKeySlotS_rowi s1 _ (k) _ (by omega) _ lo hi (r1.below (hbox _)) (by omega) (by omega)).mono ?_; rintro e w0 ⟨rfl, b0⟩; have x0 := Below.trans (hbox _) (b0.mono (Below.size (hbox _))))
  go_ret
  exact ⟨ret_int (by omega), x0⟩
theorem markKeyDev_rowi (v : Value) (d : KeyDevR) (x : Int) (k : Nat) (hx : x = (k : Int)) (w : World) (lo hi : Nat) (h : RowKeyDev lo hi w v d) (hhi : hi ≤ w.heap.size) (hk1 : 1 ≤ (k : Int)) (hkl : (k : Int) + 2 * d.slots.length ≤ 999999999) :
    Calls Try.prog 46 #[v, .int .i64 x] w fun e w' => e = .returned (.int .i64 ((k + 2 * d.slots.length : Nat) : Int)) ∧ RowKeyDev lo hi w' v (d.marked k) ∧ Wrote lo hi w w' := by
  subst hx; exact markKeyDev_row v d k w lo hi h hhi hk1 hkl
theorem heldKeyDev_rowi (v : Value) (d : KeyDevR) (x : Int) (k : Nat) (hx : x = (k : Int)) (w : World) (lo hi : Nat) (h : RowKeyDev lo hi w v (d.marked k)) (hk1 : 1 ≤ (k : Int)) (hkl : (k : Int) + 2 * d.slots.length ≤ 999999999) :
    Calls Try.prog 47 #[v, .int .i64 x] w fun e w' => e = .returned (.int .i64 ((k + 2 * d.slots.length : Nat) : Int)) ∧ Below w.heap.size w w' := by
  subst hx; exact heldKeyDev_row v d k w lo hi h hk1 hkl
end Go.Proofs.Ytcdcpdbolakfaaa

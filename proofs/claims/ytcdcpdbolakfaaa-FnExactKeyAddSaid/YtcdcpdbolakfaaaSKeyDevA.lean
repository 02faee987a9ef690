/- Walks: the laws' helpers for KeyDev. -/
import Derived.Test.YtcdcpdbolakfaaaKKeySlotA
import Derived.Test.YtcdcpdbolakfaaaOKeySlot
import Derived.Test.YtcdcpdbolakfaaaTypes
import Derived.Test.YtcdcpdbolakfaaaLaws
import Derived.Test.YtcdcpdbolakfaaaRep
import Derived.Test.YtcdcpdbolakfaaaSlices
import Derived.WalkKit
import Derived.WalkSpells
import Derived.WalkLawsBesides
import Derived.BigQuiet
import Derived.Lib.QuietBelow
import Derived.Lib.Hide
import Derived.Lib.SmallJoins
import Derived.Carry
set_option linter.unusedVariables false
set_option linter.unusedSimpArgs false
namespace Go.Proofs.Ytcdcpdbolakfaaa
open Go.RowKit Sp Go.Sort

namespace Sp
structure KeyDevR where
  master : ByteArray
  slots : List SlotR
  wiped : Int
end Sp
/-- The value v reads as the record. -/
def IsKeyDev (w : World) (v : Value) (d : KeyDevR) : Prop := ∃ s1 : Value, v = .agg #[.string d.master, s1, .int .i64 d.wiped] ∧ SlT SlotR.cells 2 w s1 d.slots
theorem IsKeyDev.below {w w' : World} {v : Value} {d : KeyDevR} (h : IsKeyDev w v d) (hb : Below w.heap.size w w') : IsKeyDev w' v d := by
  obtain ⟨s1, rfl, h1⟩ := h
  exact ⟨s1, rfl, h1.below hb⟩
def Sp.KeyDevR.ok (d : KeyDevR) : Prop := szOk d.master ∧ (∀ x ∈ d.slots, x.ok) ∧ inI64 d.wiped
def Sp.KeyDevR.sz (d : KeyDevR) : Int := (d.master.size : Int) + ((d.slots.length : Int) + sumSz SlotR.sz d.slots)
theorem Sp.KeyDevR.sz_nonneg (d : KeyDevR) : 0 ≤ d.sz := by unfold KeyDevR.sz; have := sumSz_nonneg SlotR.sz_nonneg d.slots; omega
set_option maxRecDepth 100000 in
set_option maxHeartbeats 800000 in
theorem szKeyDev_any (v : Value) (d : KeyDevR) (hd : d.ok) (left : Int) (w : World) (h : IsKeyDev w v d) (hl0 : 0 ≤ left) (hl1 : left ≤ 1048576) :
    Calls Try.prog 20 #[v, .int .i64 left] w fun e w' => e = .returned (.int .i64 (dec left d.sz)) ∧ Below w.heap.size w w' := by
  obtain ⟨s1, rfl, h1⟩ := h
  obtain ⟨k0, k1, k2⟩ := hd
  simp only [szOk, inI64] at k0 k2
  have hbox : ∀ o : Obj, RowKit.Below w.heap.size w (w.alloc o) := fun o => (Below.refl _ _).alloc (Nat.le_refl _) _
  have HZ := Lib.hid (show d.sz = (d.master.size : Int) + ((d.slots.length : Int) + sumSz SlotR.sz d.slots) from rfl)
  have n1 := sumSz_nonneg SlotR.sz_nonneg d.slots
  generalize d.sz = z at *
  generalize hz1 : sumSz SlotR.sz d.slots = z1 at *; have HZ1 := Lib.hid hz1; clear hz1
  by_cases c0 : left - (d.master.size : Int) < 0
  · skip
    go_enter Try.func20, Try.ntmps20
    go_wp2
    go_ret
    exact ⟨by rw [dec_neg (by have := HZ.out; omega)] <;> rfl, hbox _⟩
  by_cases c1 : left - (d.master.size : Int) - ((d.slots.length : Int) + z1) < 0
  · have Q1 := dec_neg c1
    go_enter Try.func20, Try.ntmps20
    go_wp2_with (go_at_call 64; refine (szKeySlotS_any s1 _ k1 _ _ (h1.below (hbox _)) (by omega) (by omega)).mono ?_; rintro e w1 ⟨rfl, b1⟩; rw [HZ1.out, Q1]; have x1 := Below.trans (hbox _) (b1.mono (Below.size (hbox _))))
    go_ret
    exact ⟨by rw [dec_neg (by have := HZ.out; omega)] <;> rfl, x1⟩
  have Q1 := dec_pos c1
  have D1 : decide (left - (d.master.size : Int) - ((d.slots.length : Int) + z1) < 0) = false := decide_eq_false c1
  go_enter Try.func20, Try.ntmps20
  go_wp2_with (go_at_call 64; refine (szKeySlotS_any s1 _ k1 _ _ (h1.below (hbox _)) (by omega) (by omega)).mono ?_; rintro e w1 ⟨rfl, b1⟩; rw [HZ1.out, Q1]; have x1 := Below.trans (hbox _) (b1.mono (Below.size (hbox _))))
  go_ret
  exact ⟨by rw [dec_pos (by have := HZ.out; omega)] <;> exact ret_int (by have := HZ.out; omega), x1⟩

set_option maxRecDepth 100000 in
set_option maxHeartbeats 800000 in
theorem toKeyDev_any (v : Value) (d : KeyDevR) (w : World) (h : IsKeyDev w v d) (l1 : (d.slots.length : Int) ≤ 1048576) :
    Calls Try.prog 22 #[v] w fun e w' => ∃ g1, e = .returned (.agg #[.string d.master, (.slice (some ⟨g1, 0, none⟩) d.slots.length d.slots.length), .int .i64 d.wiped]) ∧ w'.ownsRow w.heap.size 92 2 (.slice (some ⟨g1, 0, none⟩) d.slots.length d.slots.length) d.slots.length (d.slots.map SlotR.cells).flatten ∧ Below w.heap.size w w' := by
  obtain ⟨s1, rfl, h1⟩ := h
  have hbox : ∀ o₁ o₂ o₃ : Obj, RowKit.Below w.heap.size w (((w.alloc o₁).alloc o₂).alloc o₃) := fun o₁ o₂ o₃ => (((Below.refl _ _).alloc (Nat.le_refl _) _).alloc (by simp <;> omega) _).alloc (by simp <;> omega) _
  go_enter Try.func22, Try.ntmps22
  go_wp2_with (go_at_call 66; refine (toKeySlotS_any s1 _ _ (h1.below (hbox _ _ _)) l1).mono ?_; rintro e w1 ⟨g1, rfl, o1, b1⟩; have x1 := Below.trans (hbox _ _ _) (b1.mono (Below.size (hbox _ _ _))); obtain ⟨hc1, hf1⟩ := bcell b1; have ca10 := fun o => hc1 w.heap.size o (by simp <;> omega); have fa10 := fun o => hf1 w.heap.size o (by simp <;> omega); have ca11 := fun o => hc1 (w.heap.size + 1) o (by simp <;> omega); have fa11 := fun o => hf1 (w.heap.size + 1) o (by simp <;> omega); have ca12 := fun o => hc1 (w.heap.size + 1 + 1) o (by simp <;> omega); have fa12 := fun o => hf1 (w.heap.size + 1 + 1) o (by simp <;> omega); clear hc1 hf1)
  refine bodyPost_ret (v := .agg #[.string d.master, (.slice (some ⟨g1, 0, none⟩) d.slots.length d.slots.length), .int .i64 d.wiped]) (by simp [results, Try.results22, go_sem, ca10, ca11, ca12]) rfl ⟨g1, rfl, own_mono (own_other (own_other (own_other (own_other (own_other o1 _ (by simp <;> omega) _) _ (by simp <;> omega) _) _ (by simp <;> omega) _) _ (by simp <;> omega) _) _ (by simp <;> omega) _) (by simp <;> omega), (Below.setCell (Below.setCell (Below.setCell (Below.setCell (Below.setCell x1 (by simp <;> omega) _) (by simp <;> omega) _) (by simp <;> omega) _) (by simp <;> omega) _) (by simp <;> omega) _)⟩
theorem toKeyDev_is (v : Value) (d : KeyDevR) (w : World) (h : IsKeyDev w v d) (l1 : (d.slots.length : Int) ≤ 1048576) :
    Calls Try.prog 22 #[v] w fun e w' => ∃ v', e = .returned v' ∧ IsKeyDev w' v' d ∧ Below w.heap.size w w' := by
  refine (toKeyDev_any v d w h l1).mono ?_
  rintro e w' ⟨g1, he, o1, hb⟩
  exact ⟨_, he, ⟨_, rfl, SlT.of_own o1 (fun _ => rfl) (by omega)⟩, hb⟩

set_option maxRecDepth 100000 in
set_option maxHeartbeats 800000 in
theorem eqKeyDev_any (v v' : Value) (d : KeyDevR) (w : World) (h : IsKeyDev w v d) (h' : IsKeyDev w v' d) (l1 : (d.slots.length : Int) ≤ 1048576) :
    Calls Try.prog 24 #[v, v'] w fun e w' => e = .returned (.bool true) ∧ Below w.heap.size w w' := by
  obtain ⟨s1, rfl, h1⟩ := h
  obtain ⟨t1, rfl, m1⟩ := h'
  have hbox : ∀ o₁ o₂ : Obj, RowKit.Below w.heap.size w ((w.alloc o₁).alloc o₂) := fun o₁ o₂ => ((Below.refl _ _).alloc (Nat.le_refl _) _).alloc (by simp <;> omega) _
  go_enter Try.func24, Try.ntmps24
  go_wp2_with (go_at_call 69; refine (eqKeySlotS_any s1 t1 _ _ (h1.below (hbox _ _)) (m1.below (hbox _ _)) l1).mono ?_; rintro e w1 ⟨rfl, b1⟩; have x1 := Below.trans (hbox _ _) (b1.mono (Below.size (hbox _ _))); obtain ⟨hc1, hf1⟩ := bcell b1; have ca10 := fun o => hc1 w.heap.size o (by simp <;> omega); have fa10 := fun o => hf1 w.heap.size o (by simp <;> omega); have ca11 := fun o => hc1 (w.heap.size + 1) o (by simp <;> omega); have fa11 := fun o => hf1 (w.heap.size + 1) o (by simp <;> omega); clear hc1 hf1)
  go_ret
  exact ⟨rfl, x1⟩

set_option maxRecDepth 100000 in
theorem openKeyDev {H : Type} {enc : TypeId × Value → H} {w : World} {base b0 : Nat} {spare : Nat → Bool} {held : Bool} {r : Reach} {v : Value} {x : DataW H} {p : List MemPlace} (hv : Value.okWide Try.prog w r b0 31 v) (h : DataW.Trod enc Try.prog w base spare held 31 v x p) :
    ∃ d : KeyDevR, IsKeyDev w v d ∧ d.ok := by
  obtain ⟨v0, v1, v2, y0, y1, y2, m, rfl, _, _, t0, t1, t2⟩ := Go.Joins.open_agg3 Try.underlying31 (by kernel_rfl) (by kernel_rfl) hv h
  obtain ⟨x0, h0, _, k0⟩ := DataW.trod_string Try.underlying9 t0
  obtain rfl : v0 = _ := List.head_eq_of_cons_eq h0
  obtain ⟨x1, h1, k1⟩ := openKeySlot_at t1
  obtain ⟨x2, h2, _, k2⟩ := DataW.trod_int Try.underlying3 t2
  obtain rfl : v2 = _ := List.head_eq_of_cons_eq h2
  exact ⟨⟨x0, x1, x2⟩, ⟨_, rfl, h1⟩, szOk_max k0, k1, wf_inI64 k2⟩
end Go.Proofs.Ytcdcpdbolakfaaa

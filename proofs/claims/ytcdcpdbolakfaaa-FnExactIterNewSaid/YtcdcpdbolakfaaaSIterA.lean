/- Walks: the laws' helpers for Iter. -/
import Derived.Test.YtcdcpdbolakfaaaKKVA
import Derived.Test.YtcdcpdbolakfaaaOKV
import Derived.Test.YtcdcpdbolakfaaaTypes
import Derived.Test.YtcdcpdbolakfaaaLaws
import Derived.Test.YtcdcpdbolakfaaaRep
import Derived.Test.YtcdcpdbolakfaaaSlices
import Derived.WalkKit
import Derived.WalkSpells
import Derived.WalkLawsBesides
import Derived.BigQuiet
import Derived.Lib.QuietBelow
import Derived.Lib.Hide
import Derived.Lib.SmallJoins
import Derived.Carry
set_option linter.unusedVariables false
set_option linter.unusedSimpArgs false
namespace Go.Proofs.Ytcdcpdbolakfaaa
open Go.RowKit Sp Go.Sort

namespace Sp
structure IterR where
  list : List KV
  from_ : ByteArray
  to : ByteArray
  at_ : Int
end Sp
/-- The value v reads as the record. -/
def IsIter (w : World) (v : Value) (d : IterR) : Prop := ∃ s0 : Value, v = .agg #[s0, .string d.from_, .string d.to, .int .i64 d.at_] ∧ SlT KV.cells 2 w s0 d.list
theorem IsIter.below {w w' : World} {v : Value} {d : IterR} (h : IsIter w v d) (hb : Below w.heap.size w w') : IsIter w' v d := by
  obtain ⟨s0, rfl, h0⟩ := h
  exact ⟨s0, rfl, h0.below hb⟩
def Sp.IterR.ok (d : IterR) : Prop := (∀ x ∈ d.list, x.ok) ∧ szOk d.from_ ∧ szOk d.to ∧ inI64 d.at_
def Sp.IterR.sz (d : IterR) : Int := ((d.list.length : Int) + sumSz KV.sz d.list) + (d.from_.size : Int) + (d.to.size : Int)
theorem Sp.IterR.sz_nonneg (d : IterR) : 0 ≤ d.sz := by unfold IterR.sz; have := sumSz_nonneg KV.sz_nonneg d.list; omega
set_option maxRecDepth 100000 in
set_option maxHeartbeats 800000 in
theorem szIter_any (v : Value) (d : IterR) (hd : d.ok) (left : Int) (w : World) (h : IsIter w v d) (hl0 : 0 ≤ left) (hl1 : left ≤ 1048576) :
    Calls Try.prog 25 #[v, .int .i64 left] w fun e w' => e = .returned (.int .i64 (dec left d.sz)) ∧ Below w.heap.size w w' := by
  obtain ⟨s0, rfl, h0⟩ := h
  obtain ⟨k0, k1, k2, k3⟩ := hd
  simp only [szOk, inI64] at k1 k2 k3
  have hbox : ∀ o : Obj, RowKit.Below w.heap.size w (w.alloc o) := fun o => (Below.refl _ _).alloc (Nat.le_refl _) _
  have HZ := Lib.hid (show d.sz = ((d.list.length : Int) + sumSz KV.sz d.list) + (d.from_.size : Int) + (d.to.size : Int) from rfl)
  have n0 := sumSz_nonneg KV.sz_nonneg d.list
  generalize d.sz = z at *
  generalize hz0 : sumSz KV.sz d.list = z0 at *; have HZ0 := Lib.hid hz0; clear hz0
  by_cases c0 : left - ((d.list.length : Int) + z0) < 0
  · have Q0 := dec_neg c0
    go_enter Try.func25, Try.ntmps25
    go_wp2_with (go_at_call 15; refine (szKVS_any s0 _ k0 _ _ (h0.below (hbox _)) (by omega) (by omega)).mono ?_; rintro e w0 ⟨rfl, b0⟩; rw [HZ0.out, Q0]; have x0 := Below.trans (hbox _) (b0.mono (Below.size (hbox _))); obtain ⟨hc0, hf0⟩ := bcell b0; have ca0 := fun o => hc0 w.heap.size o (by simp <;> omega); clear hc0 hf0)
    go_ret
    exact ⟨by rw [dec_neg (by have := HZ.out; omega)] <;> rfl, x0⟩
  have Q0 := dec_pos c0
  have D0 : decide (left - ((d.list.length : Int) + z0) < 0) = false := decide_eq_false c0
  by_cases c1 : left - ((d.list.length : Int) + z0) - (d.from_.size : Int) < 0
  · skip
    go_enter Try.func25, Try.ntmps25
    go_wp2_with (go_at_call 15; refine (szKVS_any s0 _ k0 _ _ (h0.below (hbox _)) (by omega) (by omega)).mono ?_; rintro e w0 ⟨rfl, b0⟩; rw [HZ0.out, Q0]; have x0 := Below.trans (hbox _) (b0.mono (Below.size (hbox _))); obtain ⟨hc0, hf0⟩ := bcell b0; have ca0 := fun o => hc0 w.heap.size o (by simp <;> omega); clear hc0 hf0)
    go_ret
    exact ⟨by rw [dec_neg (by have := HZ.out; omega)] <;> rfl, x0⟩
  by_cases c2 : left - ((d.list.length : Int) + z0) - (d.from_.size : Int) - (d.to.size : Int) < 0
  · skip
    go_enter Try.func25, Try.ntmps25
    go_wp2_with (go_at_call 15; refine (szKVS_any s0 _ k0 _ _ (h0.below (hbox _)) (by omega) (by omega)).mono ?_; rintro e w0 ⟨rfl, b0⟩; rw [HZ0.out, Q0]; have x0 := Below.trans (hbox _) (b0.mono (Below.size (hbox _))); obtain ⟨hc0, hf0⟩ := bcell b0; have ca0 := fun o => hc0 w.heap.size o (by simp <;> omega); clear hc0 hf0)
    go_ret
    exact ⟨by rw [dec_neg (by have := HZ.out; omega)] <;> rfl, x0⟩
  go_enter Try.func25, Try.ntmps25
  go_wp2_with (go_at_call 15; refine (szKVS_any s0 _ k0 _ _ (h0.below (hbox _)) (by omega) (by omega)).mono ?_; rintro e w0 ⟨rfl, b0⟩; rw [HZ0.out, Q0]; have x0 := Below.trans (hbox _) (b0.mono (Below.size (hbox _))); obtain ⟨hc0, hf0⟩ := bcell b0; have ca0 := fun o => hc0 w.heap.size o (by simp <;> omega); clear hc0 hf0)
  go_ret
  exact ⟨by rw [dec_pos (by have := HZ.out; omega)] <;> exact ret_int (by have := HZ.out; omega), x0⟩

set_option maxRecDepth 100000 in
set_option maxHeartbeats 800000 in
theorem toIter_any (v : Value) (d : IterR) (w : World) (h : IsIter w v d) (l0 : (d.list.length : Int) ≤ 1048576) :
    Calls Try.prog 27 #[v] w fun e w' => ∃ g0, e = .returned (.agg #[(.slice (some ⟨g0, 0, none⟩) d.list.length d.list.length), .string d.from_, .string d.to, .int .i64 d.at_]) ∧ w'.ownsRow w.heap.size 86 2 (.slice (some ⟨g0, 0, none⟩) d.list.length d.list.length) d.list.length (d.list.map KV.cells).flatten ∧ Below w.heap.size w w' := by
  obtain ⟨s0, rfl, h0⟩ := h
  have hbox : ∀ o₁ o₂ o₃ : Obj, RowKit.Below w.heap.size w (((w.alloc o₁).alloc o₂).alloc o₃) := fun o₁ o₂ o₃ => (((Below.refl _ _).alloc (Nat.le_refl _) _).alloc (by simp <;> omega) _).alloc (by simp <;> omega) _
  go_enter Try.func27, Try.ntmps27
  go_wp2_with (go_at_call 17; refine (toKVS_any s0 _ _ (h0.below (hbox _ _ _)) l0).mono ?_; rintro e w0 ⟨g0, rfl, o0, b0⟩; have x0 := Below.trans (hbox _ _ _) (b0.mono (Below.size (hbox _ _ _))); obtain ⟨hc0, hf0⟩ := bcell b0; have ca00 := fun o => hc0 w.heap.size o (by simp <;> omega); have fa00 := fun o => hf0 w.heap.size o (by simp <;> omega); have ca01 := fun o => hc0 (w.heap.size + 1) o (by simp <;> omega); have fa01 := fun o => hf0 (w.heap.size + 1) o (by simp <;> omega); have ca02 := fun o => hc0 (w.heap.size + 1 + 1) o (by simp <;> omega); have fa02 := fun o => hf0 (w.heap.size + 1 + 1) o (by simp <;> omega); clear hc0 hf0)
  refine bodyPost_ret (v := .agg #[(.slice (some ⟨g0, 0, none⟩) d.list.length d.list.length), .string d.from_, .string d.to, .int .i64 d.at_]) (by simp [results, Try.results27, go_sem, ca00, ca01, ca02]) rfl ⟨g0, rfl, own_mono (own_other (own_other (own_other (own_other (own_other (own_other (own_other (own_other o0 _ (by simp <;> omega) _) _ (by simp <;> omega) _) _ (by simp <;> omega) _) _ (by simp <;> omega) _) _ (by simp <;> omega) _) _ (by simp <;> omega) _) _ (by simp <;> omega) _) _ (by simp <;> omega) _) (by simp <;> omega), (Below.setCell (Below.setCell (Below.setCell (Below.setCell (Below.setCell (Below.setCell (Below.setCell (Below.setCell x0 (by simp <;> omega) _) (by simp <;> omega) _) (by simp <;> omega) _) (by simp <;> omega) _) (by simp <;> omega) _) (by simp <;> omega) _) (by simp <;> omega) _) (by simp <;> omega) _)⟩
theorem toIter_is (v : Value) (d : IterR) (w : World) (h : IsIter w v d) (l0 : (d.list.length : Int) ≤ 1048576) :
    Calls Try.prog 27 #[v] w fun e w' => ∃ v', e = .returned v' ∧ IsIter w' v' d ∧ Below w.heap.size w w' := by
  refine (toIter_any v d w h l0).mono ?_
  rintro e w' ⟨g0, he, o0, hb⟩
  exact ⟨_, he, ⟨_, rfl, SlT.of_own o0 (fun _ => rfl) (by omega)⟩, hb⟩

set_option maxRecDepth 100000 in
set_option maxHeartbeats 800000 in
theorem eqIter_any (v v' : Value) (d : IterR) (w : World) (h : IsIter w v d) (h' : IsIter w v' d) (l0 : (d.list.length : Int) ≤ 1048576) :
    Calls Try.prog 29 #[v, v'] w fun e w' => e = .returned (.bool true) ∧ Below w.heap.size w w' := by
  obtain ⟨s0, rfl, h0⟩ := h
  obtain ⟨t0, rfl, m0⟩ := h'
  have hbox : ∀ o₁ o₂ : Obj, RowKit.Below w.heap.size w ((w.alloc o₁).alloc o₂) := fun o₁ o₂ => ((Below.refl _ _).alloc (Nat.le_refl _) _).alloc (by simp <;> omega) _
  go_enter Try.func29, Try.ntmps29
  go_wp2_with (go_at_call 19; refine (eqKVS_any s0 t0 _ _ (h0.below (hbox _ _)) (m0.below (hbox _ _)) l0).mono ?_; rintro e w0 ⟨rfl, b0⟩; have x0 := Below.trans (hbox _ _) (b0.mono (Below.size (hbox _ _))); obtain ⟨hc0, hf0⟩ := bcell b0; have ca00 := fun o => hc0 w.heap.size o (by simp <;> omega); have fa00 := fun o => hf0 w.heap.size o (by simp <;> omega); have ca01 := fun o => hc0 (w.heap.size + 1) o (by simp <;> omega); have fa01 := fun o => hf0 (w.heap.size + 1) o (by simp <;> omega); clear hc0 hf0)
  go_ret
  exact ⟨rfl, x0⟩

set_option maxRecDepth 100000 in
theorem openIter {H : Type} {enc : TypeId × Value → H} {w : World} {base b0 : Nat} {spare : Nat → Bool} {held : Bool} {r : Reach} {v : Value} {x : DataW H} {p : List MemPlace} (hv : Value.okWide Try.prog w r b0 41 v) (h : DataW.Trod enc Try.prog w base spare held 41 v x p) :
    ∃ d : IterR, IsIter w v d ∧ d.ok := by
  obtain ⟨v0, v1, v2, v3, y0, y1, y2, y3, m, rfl, _, _, t0, t1, t2, t3⟩ := Go.Joins.open_agg4 Try.underlying41 (by kernel_rfl) (by kernel_rfl) hv h
  obtain ⟨x0, h0, k0⟩ := openKV_at t0
  obtain ⟨x1, h1, _, k1⟩ := DataW.trod_string Try.underlying9 t1
  obtain rfl : v1 = _ := List.head_eq_of_cons_eq h1
  obtain ⟨x2, h2, _, k2⟩ := DataW.trod_string Try.underlying9 t2
  obtain rfl : v2 = _ := List.head_eq_of_cons_eq h2
  obtain ⟨x3, h3, _, k3⟩ := DataW.trod_int Try.underlying3 t3
  obtain rfl : v3 = _ := List.head_eq_of_cons_eq h3
  exact ⟨⟨x0, x1, x2, x3⟩, ⟨_, rfl, h0⟩, k0, szOk_max k1, szOk_max k2, wf_inI64 k3⟩
end Go.Proofs.Ytcdcpdbolakfaaa

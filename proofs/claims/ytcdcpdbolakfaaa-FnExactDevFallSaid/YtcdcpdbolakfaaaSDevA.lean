/- Walks: the laws' helpers for Dev. -/
import Derived.Test.YtcdcpdbolakfaaaKStrA
import Derived.Test.YtcdcpdbolakfaaaOpen
import Derived.Test.YtcdcpdbolakfaaaKPutA
import Derived.Test.YtcdcpdbolakfaaaOPut
import Derived.Test.YtcdcpdbolakfaaaTypes
import Derived.Test.YtcdcpdbolakfaaaLaws
import Derived.Test.YtcdcpdbolakfaaaRep
import Derived.Test.YtcdcpdbolakfaaaSlices
import Derived.WalkKit
import Derived.WalkSpells
import Derived.WalkLawsBesides
import Derived.BigQuiet
import Derived.Lib.QuietBelow
import Derived.Lib.Hide
import Derived.Lib.SmallJoins
import Derived.Carry
set_option linter.unusedVariables false
set_option linter.unusedSimpArgs false
namespace Go.Proofs.Ytcdcpdbolakfaaa
open Go.RowKit Sp Go.Sort

namespace Sp
structure DevR where
  sectors : List ByteArray
  cached : List PutR
  writes : Int
end Sp
/-- The value v reads as the record. -/
def IsDev (w : World) (v : Value) (d : DevR) : Prop := ∃ s0 s1 : Value, v = .agg #[s0, s1, .int .i64 d.writes] ∧ SlT strCells 1 w s0 d.sectors ∧ SlT PutR.cells 2 w s1 d.cached
theorem IsDev.below {w w' : World} {v : Value} {d : DevR} (h : IsDev w v d) (hb : Below w.heap.size w w') : IsDev w' v d := by
  obtain ⟨s0, s1, rfl, h0, h1⟩ := h
  exact ⟨s0, s1, rfl, h0.below hb, h1.below hb⟩
def Sp.DevR.ok (d : DevR) : Prop := (∀ x ∈ d.sectors, x.size ≤ maxLen) ∧ (∀ x ∈ d.cached, x.ok) ∧ inI64 d.writes
def Sp.DevR.sz (d : DevR) : Int := ((d.sectors.length : Int) + sumSz strSz d.sectors) + ((d.cached.length : Int) + sumSz PutR.sz d.cached)
theorem Sp.DevR.sz_nonneg (d : DevR) : 0 ≤ d.sz := by unfold DevR.sz; have := sumSz_nonneg strSz_nonneg d.sectors; have := sumSz_nonneg PutR.sz_nonneg d.cached; omega
set_option maxRecDepth 100000 in
set_option maxHeartbeats 800000 in
theorem szDev_any (v : Value) (d : DevR) (hd : d.ok) (left : Int) (w : World) (h : IsDev w v d) (hl0 : 0 ≤ left) (hl1 : left ≤ 1048576) :
    Calls Try.prog 32 #[v, .int .i64 left] w fun e w' => e = .returned (.int .i64 (dec left d.sz)) ∧ Below w.heap.size w w' := by
  obtain ⟨s0, s1, rfl, h0, h1⟩ := h
  obtain ⟨k0, k1, k2⟩ := hd
  simp only [szOk, inI64] at k2
  have hbox : ∀ o : Obj, RowKit.Below w.heap.size w (w.alloc o) := fun o => (Below.refl _ _).alloc (Nat.le_refl _) _
  have HZ := Lib.hid (show d.sz = ((d.sectors.length : Int) + sumSz strSz d.sectors) + ((d.cached.length : Int) + sumSz PutR.sz d.cached) from rfl)
  have n0 := sumSz_nonneg strSz_nonneg d.sectors; have n1 := sumSz_nonneg PutR.sz_nonneg d.cached
  generalize d.sz = z at *
  generalize hz0 : sumSz strSz d.sectors = z0 at *; have HZ0 := Lib.hid hz0; clear hz0; generalize hz1 : sumSz PutR.sz d.cached = z1 at *; have HZ1 := Lib.hid hz1; clear hz1
  by_cases c0 : left - ((d.sectors.length : Int) + z0) < 0
  · have Q0 := dec_neg c0
    go_enter Try.func32, Try.ntmps32
    go_wp2_with (go_at_call 72; refine (szStrS_any s0 _ k0 _ _ (h0.below (hbox _)) (by omega) (by omega)).mono ?_; rintro e w0 ⟨rfl, b0⟩; rw [HZ0.out, Q0]; have x0 := Below.trans (hbox _) (b0.mono (Below.size (hbox _))); obtain ⟨hc0, hf0⟩ := bcell b0; have ca0 := fun o => hc0 w.heap.size o (by simp <;> omega); clear hc0 hf0)
    go_ret
    exact ⟨by rw [dec_neg (by have := HZ.out; omega)] <;> rfl, x0⟩
  have Q0 := dec_pos c0
  have D0 : decide (left - ((d.sectors.length : Int) + z0) < 0) = false := decide_eq_false c0
  by_cases c1 : left - ((d.sectors.length : Int) + z0) - ((d.cached.length : Int) + z1) < 0
  · have Q1 := dec_neg c1
    go_enter Try.func32, Try.ntmps32
    go_wp2_with (go_at_call 72; refine (szStrS_any s0 _ k0 _ _ (h0.below (hbox _)) (by omega) (by omega)).mono ?_; rintro e w0 ⟨rfl, b0⟩; rw [HZ0.out, Q0]; have x0 := Below.trans (hbox _) (b0.mono (Below.size (hbox _))); obtain ⟨hc0, hf0⟩ := bcell b0; have ca0 := fun o => hc0 w.heap.size o (by simp <;> omega); clear hc0 hf0)
    go_wp2_with (go_at_call 73; refine (szPutS_any s1 _ k1 _ _ (h1.below (x0)) (by omega) (by omega)).mono ?_; rintro e w1 ⟨rfl, b1⟩; rw [HZ1.out, Q1]; have x1 := Below.trans (x0) (b1.mono (Below.size (x0))))
    go_ret
    exact ⟨by rw [dec_neg (by have := HZ.out; omega)] <;> rfl, x1⟩
  have Q1 := dec_pos c1
  have D1 : decide (left - ((d.sectors.length : Int) + z0) - ((d.cached.length : Int) + z1) < 0) = false := decide_eq_false c1
  go_enter Try.func32, Try.ntmps32
  go_wp2_with (go_at_call 72; refine (szStrS_any s0 _ k0 _ _ (h0.below (hbox _)) (by omega) (by omega)).mono ?_; rintro e w0 ⟨rfl, b0⟩; rw [HZ0.out, Q0]; have x0 := Below.trans (hbox _) (b0.mono (Below.size (hbox _))); obtain ⟨hc0, hf0⟩ := bcell b0; have ca0 := fun o => hc0 w.heap.size o (by simp <;> omega); clear hc0 hf0)
  go_wp2_with (go_at_call 73; refine (szPutS_any s1 _ k1 _ _ (h1.below (x0)) (by omega) (by omega)).mono ?_; rintro e w1 ⟨rfl, b1⟩; rw [HZ1.out, Q1]; have x1 := Below.trans (x0) (b1.mono (Below.size (x0))))
  go_ret
  exact ⟨by rw [dec_pos (by have := HZ.out; omega)] <;> exact ret_int (by have := HZ.out; omega), x1⟩

set_option maxRecDepth 100000 in
set_option maxHeartbeats 800000 in
theorem toDev_any (v : Value) (d : DevR) (w : World) (h : IsDev w v d) (l0 : (d.sectors.length : Int) ≤ 1048576) (l1 : (d.cached.length : Int) ≤ 1048576) :
    Calls Try.prog 34 #[v] w fun e w' => ∃ g0 g1, e = .returned (.agg #[(.slice (some ⟨g0, 0, none⟩) d.sectors.length d.sectors.length), (.slice (some ⟨g1, 0, none⟩) d.cached.length d.cached.length), .int .i64 d.writes]) ∧ w'.ownsRow w.heap.size 9 1 (.slice (some ⟨g0, 0, none⟩) d.sectors.length d.sectors.length) d.sectors.length (d.sectors.map strCells).flatten ∧ w'.ownsRow w.heap.size 99 2 (.slice (some ⟨g1, 0, none⟩) d.cached.length d.cached.length) d.cached.length (d.cached.map PutR.cells).flatten ∧ g0 < g1 ∧ Below w.heap.size w w' := by
  obtain ⟨s0, s1, rfl, h0, h1⟩ := h
  have hbox : ∀ o₁ o₂ o₃ : Obj, RowKit.Below w.heap.size w (((w.alloc o₁).alloc o₂).alloc o₃) := fun o₁ o₂ o₃ => (((Below.refl _ _).alloc (Nat.le_refl _) _).alloc (by simp <;> omega) _).alloc (by simp <;> omega) _
  go_enter Try.func34, Try.ntmps34
  go_wp2_with (go_at_call 74; refine (toStrS_any s0 _ _ (h0.below (hbox _ _ _)) l0).mono ?_; rintro e w0 ⟨g0, rfl, o0, b0⟩; have x0 := Below.trans (hbox _ _ _) (b0.mono (Below.size (hbox _ _ _))); obtain ⟨hc0, hf0⟩ := bcell b0; have ca00 := fun o => hc0 w.heap.size o (by simp <;> omega); have fa00 := fun o => hf0 w.heap.size o (by simp <;> omega); have ca01 := fun o => hc0 (w.heap.size + 1) o (by simp <;> omega); have fa01 := fun o => hf0 (w.heap.size + 1) o (by simp <;> omega); have ca02 := fun o => hc0 (w.heap.size + 1 + 1) o (by simp <;> omega); have fa02 := fun o => hf0 (w.heap.size + 1 + 1) o (by simp <;> omega); have hs0 : w.heap.size + 1 + 1 < w0.heap.size := Nat.lt_of_lt_of_le (by simp <;> omega) b0.size; clear hc0 hf0)
  go_wp2_with (go_at_call 75; refine (toPutS_any s1 _ _ (h1.below ((Below.setCell x0 (by simp <;> omega) _))) l1).mono ?_; rintro e w1 ⟨g1, rfl, o1, b1⟩; have x1 := Below.trans ((Below.setCell x0 (by simp <;> omega) _)) (b1.mono (Below.size ((Below.setCell x0 (by simp <;> omega) _)))); obtain ⟨hc1, hf1⟩ := bcell b1; have ca10 := fun o => hc1 w.heap.size o (by first | (simp <;> omega) | (simp [World.setCell] <;> omega)); have fa10 := fun o => hf1 w.heap.size o (by first | (simp <;> omega) | (simp [World.setCell] <;> omega)); have ca11 := fun o => hc1 (w.heap.size + 1) o (by first | (simp <;> omega) | (simp [World.setCell] <;> omega)); have fa11 := fun o => hf1 (w.heap.size + 1) o (by first | (simp <;> omega) | (simp [World.setCell] <;> omega)); have ca12 := fun o => hc1 (w.heap.size + 1 + 1) o (by first | (simp <;> omega) | (simp [World.setCell] <;> omega)); have fa12 := fun o => hf1 (w.heap.size + 1 + 1) o (by first | (simp <;> omega) | (simp [World.setCell] <;> omega)); clear hc1 hf1)
  refine bodyPost_ret (v := .agg #[(.slice (some ⟨g0, 0, none⟩) d.sectors.length d.sectors.length), (.slice (some ⟨g1, 0, none⟩) d.cached.length d.cached.length), .int .i64 d.writes]) (by simp [results, Try.results34, go_sem, ca00, ca01, ca02, ca10, ca11, ca12]) rfl ⟨g0, g1, rfl, own_mono (own_other (own_other (own_other (own_other (own_other (own_below (own_other o0 _ (by simp <;> omega) _) b1) _ (by simp <;> omega) _) _ (by simp <;> omega) _) _ (by simp <;> omega) _) _ (by simp <;> omega) _) _ (by simp <;> omega) _) (by simp <;> omega), own_mono (own_other (own_other (own_other (own_other (own_other o1 _ (by simp <;> omega) _) _ (by simp <;> omega) _) _ (by simp <;> omega) _) _ (by simp <;> omega) _) _ (by simp <;> omega) _) (by simp <;> omega), (by have := (o0.lt _ rfl).2; have := (o1.lt _ rfl).1; simp at *; omega), (Below.setCell (Below.setCell (Below.setCell (Below.setCell (Below.setCell x1 (by simp <;> omega) _) (by simp <;> omega) _) (by simp <;> omega) _) (by simp <;> omega) _) (by simp <;> omega) _)⟩
theorem toDev_is (v : Value) (d : DevR) (w : World) (h : IsDev w v d) (l0 : (d.sectors.length : Int) ≤ 1048576) (l1 : (d.cached.length : Int) ≤ 1048576) :
    Calls Try.prog 34 #[v] w fun e w' => ∃ v', e = .returned v' ∧ IsDev w' v' d ∧ Below w.heap.size w w' := by
  refine (toDev_any v d w h l0 l1).mono ?_
  rintro e w' ⟨g0, g1, he, o0, o1, _, hb⟩
  exact ⟨_, he, ⟨_, _, rfl, SlT.of_own o0 (fun _ => rfl) (by omega), SlT.of_own o1 (fun _ => rfl) (by omega)⟩, hb⟩

set_option maxRecDepth 100000 in
set_option maxHeartbeats 800000 in
theorem eqDev_any (v v' : Value) (d : DevR) (w : World) (h : IsDev w v d) (h' : IsDev w v' d) (l0 : (d.sectors.length : Int) ≤ 1048576) (l1 : (d.cached.length : Int) ≤ 1048576) :
    Calls Try.prog 36 #[v, v'] w fun e w' => e = .returned (.bool true) ∧ Below w.heap.size w w' := by
  obtain ⟨s0, s1, rfl, h0, h1⟩ := h
  obtain ⟨t0, t1, rfl, m0, m1⟩ := h'
  have hbox : ∀ o₁ o₂ : Obj, RowKit.Below w.heap.size w ((w.alloc o₁).alloc o₂) := fun o₁ o₂ => ((Below.refl _ _).alloc (Nat.le_refl _) _).alloc (by simp <;> omega) _
  go_enter Try.func36, Try.ntmps36
  go_wp2_with (go_at_call 76; refine (eqStrS_any s0 t0 _ _ (h0.below (hbox _ _)) (m0.below (hbox _ _)) l0).mono ?_; rintro e w0 ⟨rfl, b0⟩; have x0 := Below.trans (hbox _ _) (b0.mono (Below.size (hbox _ _))); obtain ⟨hc0, hf0⟩ := bcell b0; have ca00 := fun o => hc0 w.heap.size o (by simp <;> omega); have fa00 := fun o => hf0 w.heap.size o (by simp <;> omega); have ca01 := fun o => hc0 (w.heap.size + 1) o (by simp <;> omega); have fa01 := fun o => hf0 (w.heap.size + 1) o (by simp <;> omega); clear hc0 hf0; have hs0 : w.heap.size + 1 < w0.heap.size := Nat.lt_of_lt_of_le (by simp <;> omega) b0.size)
  go_wp2_with (go_at_call 77; refine (eqPutS_any s1 t1 _ _ (h1.below x0) (m1.below x0) l1).mono ?_; rintro e w1 ⟨rfl, b1⟩; have x1 := Below.trans x0 (b1.mono (Below.size x0)); obtain ⟨hc1, hf1⟩ := bcell b1; have ca10 := fun o => hc1 w.heap.size o (by omega); have fa10 := fun o => hf1 w.heap.size o (by omega); have ca11 := fun o => hc1 (w.heap.size + 1) o (by omega); have fa11 := fun o => hf1 (w.heap.size + 1) o (by omega); clear hc1 hf1)
  go_ret
  exact ⟨rfl, x1⟩

set_option maxRecDepth 100000 in
theorem openDev {H : Type} {enc : TypeId × Value → H} {w : World} {base b0 : Nat} {spare : Nat → Bool} {held : Bool} {r : Reach} {v : Value} {x : DataW H} {p : List MemPlace} (hv : Value.okWide Try.prog w r b0 54 v) (h : DataW.Trod enc Try.prog w base spare held 54 v x p) :
    ∃ d : DevR, IsDev w v d ∧ d.ok := by
  obtain ⟨v0, v1, v2, y0, y1, y2, m, rfl, _, _, t0, t1, t2⟩ := Go.Joins.open_agg3 Try.underlying54 (by kernel_rfl) (by kernel_rfl) hv h
  obtain ⟨x0, h0, k0⟩ := open_strs_at Try.underlying51 Try.underlying9 (by kernel_rfl) t0
  obtain ⟨x1, h1, k1⟩ := openPut_at t1
  obtain ⟨x2, h2, _, k2⟩ := DataW.trod_int Try.underlying3 t2
  obtain rfl : v2 = _ := List.head_eq_of_cons_eq h2
  exact ⟨⟨x0, x1, x2⟩, ⟨_, _, rfl, h0, h1⟩, k0, k1, wf_inI64 k2⟩
end Go.Proofs.Ytcdcpdbolakfaaa

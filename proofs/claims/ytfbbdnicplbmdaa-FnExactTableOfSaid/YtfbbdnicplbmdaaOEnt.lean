
/- How a law's argument of type []Ent is read. -/
import Derived.Test.YtfbbdnicplbmdaaOpen
import Derived.Test.YtfbbdnicplbmdaaTypes
set_option linter.unusedVariables false
namespace Go.Proofs.Ytfbbdnicplbmdaa
open Go.ChangeShapes Go.WideShapes Go.Deep Go.RowKit Sp

set_option maxRecDepth 100000 in
theorem openEnt_at {H : Type} {enc : TypeId × Value → H} {w : World} {base : Nat} {spare : Nat → Bool} {held : Bool} {v : Value} {fuel : Nat} {x : DataW H × List MemPlace} (h : DataW.trod enc Try.prog w base spare held fuel 75 [v] = some x) :
    ∃ l : List EntR, SlT EntR.cells 4 w v l ∧ ∀ x ∈ l, x.ok := by
  refine open_recs_at Try.underlying75 Try.underlying154 (by kernel_rfl) (by kernel_rfl) (fun _ => rfl) (by decide) (fun g hg => ?_) h
  obtain ⟨n, hg⟩ := hg
  obtain ⟨c0, y0, e0, t0⟩ := hg 0 _ rfl
  obtain ⟨x0, h0, _, k0⟩ := DataW.trod_string Try.underlying9 t0
  obtain rfl : c0 = _ := List.head_eq_of_cons_eq h0
  obtain ⟨c1, y1, e1, t1⟩ := hg 1 _ rfl
  obtain ⟨x1, h1, _, k1⟩ := DataW.trod_int Try.underlying3 t1
  obtain rfl : c1 = _ := List.head_eq_of_cons_eq h1
  obtain ⟨c2, y2, e2, t2⟩ := hg 2 _ rfl
  obtain ⟨x2, h2, _⟩ := DataW.trod_bool Try.underlying4 t2
  obtain rfl : c2 = _ := List.head_eq_of_cons_eq h2
  obtain ⟨c3, y3, e3, t3⟩ := hg 3 _ rfl
  obtain ⟨x3, h3, _, k3⟩ := DataW.trod_string Try.underlying9 t3
  obtain rfl : c3 = _ := List.head_eq_of_cons_eq h3
  refine ⟨⟨x0, x1, x2, x3⟩, ⟨szOk_max k0, wf_inI64 k1, trivial, szOk_max k3⟩, fun j u hj => ?_⟩
  match j, hj with
  | 0, hj => obtain rfl := Option.some.inj hj; exact e0
  | 1, hj => obtain rfl := Option.some.inj hj; exact e1
  | 2, hj => obtain rfl := Option.some.inj hj; exact e2
  | 3, hj => obtain rfl := Option.some.inj hj; exact e3
  | j + 4, hj => simp [EntR.cells] at hj
set_option maxRecDepth 100000 in
theorem openEnt {H : Type} {enc : TypeId × Value → H} {w : World} {base b0 : Nat} {spare : Nat → Bool} {held : Bool} {r : Reach} {v : Value} {d : DataW H} {p : List MemPlace} (hv : Value.okWide Try.prog w r b0 75 v) (h : DataW.Trod enc Try.prog w base spare held 75 v d p) :
    ∃ l : List EntR, SlT EntR.cells 4 w v l ∧ ∀ x ∈ l, x.ok := by
  obtain ⟨a, len, cap, rfl⟩ := okWide_slice Try.underlying75 hv
  obtain ⟨fuel, hf⟩ := h
  exact openEnt_at hf
end Go.Proofs.Ytfbbdnicplbmdaa

/- How a law's argument of type []KV is read. -/
import Derived.Test.YtajjefpopjdfaaaOpen
import Derived.Test.YtajjefpopjdfaaaTypes
set_option linter.unusedVariables false
namespace Go.Proofs.Ytajjefpopjdfaaa
open Go.ChangeShapes Go.WideShapes Go.Deep Go.RowKit Sp

set_option maxRecDepth 100000 in
theorem openKV_at {H : Type} {enc : TypeId × Value → H} {w : World} {base : Nat} {spare : Nat → Bool} {held : Bool} {v : Value} {fuel : Nat} {x : DataW H × List MemPlace} (h : DataW.trod enc Try.prog w base spare held fuel 42 [v] = some x) :
    ∃ l : List KV, SlT KV.cells 2 w v l ∧ ∀ x ∈ l, x.ok := by
  refine open_recs_at Try.underlying42 Try.underlying92 (by kernel_rfl) (by kernel_rfl) (fun _ => rfl) (by decide) (fun g hg => ?_) h
  obtain ⟨n, hg⟩ := hg
  obtain ⟨c0, y0, e0, t0⟩ := hg 0 _ rfl
  obtain ⟨x0, h0, _, k0⟩ := DataW.trod_string Try.underlying9 t0
  obtain rfl : c0 = _ := List.head_eq_of_cons_eq h0
  obtain ⟨c1, y1, e1, t1⟩ := hg 1 _ rfl
  obtain ⟨x1, h1, _, k1⟩ := DataW.trod_string Try.underlying9 t1
  obtain rfl : c1 = _ := List.head_eq_of_cons_eq h1
  refine ⟨⟨x0, x1⟩, ⟨szOk_max k0, szOk_max k1⟩, fun j u hj => ?_⟩
  match j, hj with
  | 0, hj => obtain rfl := Option.some.inj hj; exact e0
  | 1, hj => obtain rfl := Option.some.inj hj; exact e1
  | j + 2, hj => simp [KV.cells] at hj
set_option maxRecDepth 100000 in
theorem openKV {H : Type} {enc : TypeId × Value → H} {w : World} {base b0 : Nat} {spare : Nat → Bool} {held : Bool} {r : Reach} {v : Value} {d : DataW H} {p : List MemPlace} (hv : Value.okWide Try.prog w r b0 42 v) (h : DataW.Trod enc Try.prog w base spare held 42 v d p) :
    ∃ l : List KV, SlT KV.cells 2 w v l ∧ ∀ x ∈ l, x.ok := by
  obtain ⟨a, len, cap, rfl⟩ := okWide_slice Try.underlying42 hv
  obtain ⟨fuel, hf⟩ := h
  exact openKV_at hf
end Go.Proofs.Ytajjefpopjdfaaa

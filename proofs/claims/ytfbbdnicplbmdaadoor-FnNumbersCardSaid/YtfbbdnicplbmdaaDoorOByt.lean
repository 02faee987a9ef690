
/- How a law's argument of type []byte is read. -/
import Derived.Test.YtfbbdnicplbmdaaDoorOpen
import Derived.Test.YtfbbdnicplbmdaaDoorDrawW
set_option linter.unusedVariables false
namespace Go.Proofs.YtfbbdnicplbmdaaDoor
open Go.ChangeShapes Go.WideShapes Go.Deep Go.RowKit Sp

section
variable {H : Type} {enc : TypeId × Value → H} {P : Program} {w : World} {base : Nat} {spare : Nat → Bool} {held : Bool}
theorem open_byts_at {t e : TypeId} {v : Value} {fuel : Nat} {x : DataW H × List MemPlace} (ht : P.underlying t = some (.slice e)) (he : P.underlying e = some (.int .u8)) (hC : P.cellsOf e = 1)
    (hf : DataW.trod enc P w base spare held fuel t [v] = some x) : ∃ l, SlT bytC 1 w v l := by
  rcases open_slice1 ht hC hf with ⟨hcs, _⟩ | ⟨x, len, cap, m, n, V, D, Pl, hcs, _, hl, hm, hmm, _, hi⟩
  · obtain rfl : v = _ := List.head_eq_of_cons_eq hcs
    exact ⟨[], ⟨none, 0, rfl, by simp, by omega, fun h => by simp at h⟩⟩
  · obtain rfl : v = _ := List.head_eq_of_cons_eq hcs
    have hlm : len ≤ m := by rw [hmm]; split <;> omega
    obtain ⟨ll, hll, hlr⟩ := list_of len (fun i (y : UInt8) => w.cell? (x.add i) = some (B y)) fun i hil => by
      obtain ⟨h1, h2⟩ := hi i (by omega)
      obtain ⟨z, hz, _, hw⟩ := DataW.trod_int he h2
      obtain hz : V i = _ := List.head_eq_of_cons_eq hz
      have hb := bounds_u8 hw
      refine ⟨UInt8.ofNat z.toNat, ?_⟩
      rw [h1, hz, B_ofNat, Int.toNat_of_nonneg hb.1, Int.emod_eq_of_lt hb.1 (by omega)]
    refine ⟨ll, ⟨some x, cap, by rw [List.length_map, hll], by rw [List.length_map, hll]; exact hl, by simpa [maxLen] using hm, fun hlen => ?_⟩⟩
    rw [List.length_map] at hlen
    have hc0 := hlr 0 ll[0] (by simp [hlen])
    obtain ⟨b, off, spot⟩ := x
    have hspot : spot = none := by simpa [Addr.add] using World.cell?_spot hc0
    subst hspot
    refine ⟨b, off, rfl, block_lt_of_cell (by simpa [Addr.add] using hc0), fun i cs hi' j u hj => ?_⟩
    rw [List.getElem?_map] at hi'
    obtain ⟨y, hy, rfl⟩ := Option.map_eq_some_iff.1 hi'
    have := hlr i y hy
    rw [add_plain] at this
    match j, hj with
    | 0, hj => obtain rfl := Option.some.inj hj; rw [Nat.mul_one]; exact this
    | j + 1, hj => simp [bytC] at hj
end
set_option maxRecDepth 100000 in
theorem openByt {H : Type} {enc : TypeId × Value → H} {w : World} {base b0 : Nat} {spare : Nat → Bool} {held : Bool} {r : Reach} {v : Value} {d : DataW H} {p : List MemPlace} (hv : Value.okWide Tryd.prog w r b0 22 v) (h : DataW.Trod enc Tryd.prog w base spare held 22 v d p) :
    ∃ l : List UInt8, SlT bytC 1 w v l := by
  obtain ⟨a, len, cap, rfl⟩ := okWide_slice Tryd.underlying22 hv
  obtain ⟨fuel, hf⟩ := h
  exact open_byts_at Tryd.underlying22 Tryd.underlying5 (by kernel_rfl) hf
end Go.Proofs.YtfbbdnicplbmdaaDoor

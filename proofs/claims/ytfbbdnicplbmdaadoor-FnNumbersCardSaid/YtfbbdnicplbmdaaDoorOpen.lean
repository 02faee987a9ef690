
/- How a law's arguments are read: slices of records. -/
import Derived.Test.YtfbbdnicplbmdaaDoorRep
import Derived.Test.YtfbbdnicplbmdaaDoorSlices
import Derived.Deep.Slices
import Derived.Deep.Fields
import Derived.ChangeSame
import Derived.WideShapes
import Derived.SliceStrings
import Derived.OpenShut
import Derived.WalkKit
set_option linter.unusedVariables false
set_option linter.unusedSimpArgs false
namespace Go.Proofs.YtfbbdnicplbmdaaDoor
open Go.ChangeShapes Go.WideShapes Go.Deep Go.RowKit Sp

theorem list_of {α : Type} (n : Nat) (R : Nat → α → Prop) (h : ∀ i, i < n → ∃ x, R i x) : ∃ l : List α, l.length = n ∧ ∀ i x, l[i]? = some x → R i x := by
  induction n with
  | zero => exact ⟨[], rfl, fun i x h => by simp at h⟩
  | succ n ih =>
    obtain ⟨l, hl, hr⟩ := ih fun i hi => h i (by omega)
    obtain ⟨x, hx⟩ := h n (by omega)
    refine ⟨l ++ [x], by simp [hl], fun i y hy => ?_⟩
    by_cases hi : i < l.length
    · rw [List.getElem?_append_left hi] at hy; exact hr i y hy
    · rw [List.getElem?_append_right (by omega)] at hy
      by_cases he : i = l.length
      · subst he; simp at hy; rw [← hy, hl]; exact hx
      · rw [List.getElem?_eq_none (by simp; omega)] at hy; cases hy

section
variable {H : Type} {enc : TypeId × Value → H} {P : Program} {w : World} {base : Nat} {spare : Nat → Bool} {held : Bool}
theorem open_slice_fields {t e : TypeId} {fs : Array Field} {fuel : Nat} {cs : List Value} {x : DataW H × List MemPlace} (ht : P.underlying t = some (.slice e)) (he : P.underlying e = some (.struct fs))
    (hone : oneCellFields P fs = true) (hC : P.cellsOf e = fs.size) (h : DataW.trod enc P w base spare held fuel t cs = some x) :
    (cs = [.slice none 0 0] ∧ x = (.nil, [])) ∨
    ∃ (a : Addr) (len cap m : Nat) (D : Nat → DataW H) (Pl : Nat → List MemPlace), cs = [.slice (some a) len cap] ∧ base ≤ a.block ∧ len ≤ cap ∧ cap ≤ maxLen ∧ m = (if spare a.block then cap else len) ∧
      x = (.slice ((List.range len).map D) ((List.range (m - len)).map fun j => D (len + j)), MemPlace.row a (m * fs.size) ++ (List.range m).flatMap Pl) ∧
      ∀ i, i < m → ∃ (ys : List (DataW H × List MemPlace)) (n : Nat), D i = .agg (ys.map (·.1)) ∧ Pl i = ys.flatMap (·.2) ∧ ys.length = fs.size ∧
        ∀ (j : Nat) (f : Field), fs[j]? = some f → ∃ (v : Value) (y : DataW H × List MemPlace), w.cell? (a.add (i * fs.size + j)) = some v ∧ ys[j]? = some y ∧ DataW.trod enc P w base spare held n f.type [v] = some y := by
  rcases open_slice ht h with h0 | ⟨a, len, cap, m, n, D, Pl, hcs, hb, hl, hm, hmm, hx, hi⟩
  · exact .inl h0
  · refine .inr ⟨a, len, cap, m, D, Pl, hcs, hb, hl, hm, hmm, by rw [hC] at hx; exact hx, fun i him => ?_⟩
    obtain ⟨cs', hc, ht'⟩ := hi i him
    rw [hC] at hc
    obtain ⟨ys, n', hn', hy, hlen, hyl, hf⟩ := DataW.trod_struct he ht'
    obtain ⟨_, hcl, hat⟩ := World.cells?_some hc
    simp only [Prod.mk.injEq] at hy
    refine ⟨ys, n', hy.1, hy.2, hyl, fun j f hj => ?_⟩
    obtain ⟨ho, hk⟩ := hone_of hone j f hj
    have hjl : j < fs.size := (Array.getElem?_eq_some_iff.1 hj).1
    have hcell := hat j hjl
    have hv : cs'[j]? = some (cs'[j]'(by omega)) := List.getElem?_eq_getElem (by omega)
    have h1 := hf j f hj
    rw [ho, hk] at h1
    have hone' : (cs'.drop j).take 1 = [cs'[j]'(by omega)] := by
      rw [List.drop_eq_getElem_cons (by omega)]
      rfl
    rw [hone'] at h1
    have hys : ys[j]? = some (ys[j]'(by omega)) := List.getElem?_eq_getElem (by omega)
    refine ⟨_, _, ?_, hys, h1.trans hys⟩
    rw [← Go.Deep.add_add, hcell, hv]

/-- Each field of one element is there, and reads. -/
def FieldsRead (enc : TypeId × Value → H) (P : Program) (w : World) (base : Nat) (spare : Nat → Bool) (held : Bool) (fs : Array Field) (g : Nat → Option Value) : Prop :=
  ∃ n, ∀ (j : Nat) (f : Field), fs[j]? = some f → ∃ (v : Value) (y : DataW H × List MemPlace), g j = some v ∧ DataW.trod enc P w base spare held n f.type [v] = some y

theorem open_recs_at {α : Type} {cells : α → List Value} {ok : α → Prop} {t e : TypeId} {fs : Array Field} {v : Value} {fuel : Nat} {x : DataW H × List MemPlace} (ht : P.underlying t = some (.slice e)) (he : P.underlying e = some (.struct fs))
    (hone : oneCellFields P fs = true) (hC : P.cellsOf e = fs.size) (hs : ∀ x, (cells x).length = fs.size) (hp : 0 < fs.size)
    (hdec : ∀ g : Nat → Option Value, FieldsRead enc P w base spare held fs g → ∃ x, ok x ∧ ∀ j u, (cells x)[j]? = some u → g j = some u)
    (hf : DataW.trod enc P w base spare held fuel t [v] = some x) : ∃ l, SlT cells fs.size w v l ∧ ∀ x ∈ l, ok x := by
  rcases open_slice_fields ht he hone hC hf with ⟨hcs, _⟩ | ⟨x, len, cap, m, D, Pl, hcs, _, hl, hm, hmm, _, hi⟩
  · obtain rfl : v = _ := List.head_eq_of_cons_eq hcs
    exact ⟨[], ⟨none, 0, rfl, by simp, by omega, fun h => by simp at h⟩, fun x h => by simp at h⟩
  · obtain rfl : v = _ := List.head_eq_of_cons_eq hcs
    have hlm : len ≤ m := by rw [hmm]; split <;> omega
    obtain ⟨ll, hll, hlr⟩ := list_of len (fun i (y : α) => ok y ∧ ∀ j u, (cells y)[j]? = some u → w.cell? (x.add (i * fs.size + j)) = some u) fun i hil => by
      obtain ⟨ys, n, _, _, _, hg⟩ := hi i (by omega)
      exact hdec (fun j => w.cell? (x.add (i * fs.size + j))) ⟨n, fun j f hj => by
        obtain ⟨v, y, hc, _, hy⟩ := hg j f hj
        exact ⟨v, y, hc, hy⟩⟩
    refine ⟨ll, ⟨some x, cap, by rw [List.length_map, hll], by rw [List.length_map, hll]; exact hl, by simpa [maxLen] using hm, fun hlen => ?_⟩, fun y hy => ?_⟩
    · rw [List.length_map] at hlen
      have h0 := hlr 0 ll[0] (by simp [hlen])
      have hl0 : 0 < (cells ll[0]).length := by rw [hs]; exact hp
      have hc0 := h0.2 0 _ (by rw [List.getElem?_eq_getElem hl0])
      obtain ⟨b, off, spot⟩ := x
      have hspot : spot = none := by simpa [Addr.add] using World.cell?_spot hc0
      subst hspot
      refine ⟨b, off, rfl, block_lt_of_cell (by simpa [Addr.add] using hc0), fun i cs hi j u hj => ?_⟩
      rw [List.getElem?_map] at hi
      obtain ⟨y, hy, rfl⟩ := Option.map_eq_some_iff.1 hi
      have := (hlr i y hy).2 j u hj
      rw [add_plain] at this
      rw [Nat.add_assoc]
      exact this
    · obtain ⟨i, hi, rfl⟩ := List.mem_iff_getElem.1 hy
      exact (hlr i _ (by simp [hi])).1

theorem open_strs_at {t e : TypeId} {v : Value} {fuel : Nat} {x : DataW H × List MemPlace} (ht : P.underlying t = some (.slice e)) (he : P.underlying e = some .string) (hC : P.cellsOf e = 1)
    (hf : DataW.trod enc P w base spare held fuel t [v] = some x) : ∃ l, SlT strCells 1 w v l ∧ ∀ x ∈ l, x.size ≤ maxLen := by
  rcases open_strings ht he hC hf with ⟨hcs, _⟩ | ⟨x, len, cap, ss, hcs, _, hl, hm, hmm, _, hi, hok⟩
  · obtain rfl : v = _ := List.head_eq_of_cons_eq hcs
    exact ⟨[], ⟨none, 0, rfl, by simp, by omega, fun h => by simp at h⟩, fun x h => by simp at h⟩
  · obtain rfl : v = _ := List.head_eq_of_cons_eq hcs
    have hlm : len ≤ ss.length := by rw [hmm]; split <;> omega
    refine ⟨ss.take len, ⟨some x, cap, by simp [hlm], by simp; omega, by simpa [maxLen] using hm, fun hlen => ?_⟩, fun y hy => hok y (List.mem_of_mem_take hy)⟩
    rw [List.length_map, List.length_take] at hlen
    have hc0 := hi 0 (by omega)
    obtain ⟨b, off, spot⟩ := x
    have hspot : spot = none := by simpa [Addr.add] using World.cell?_spot hc0
    subst hspot
    refine ⟨b, off, rfl, block_lt_of_cell (by simpa [Addr.add] using hc0), fun i cs hi' j u hj => ?_⟩
    rw [List.getElem?_map] at hi'
    obtain ⟨y, hy, rfl⟩ := Option.map_eq_some_iff.1 hi'
    rw [List.getElem?_take] at hy
    split at hy
    · have hil := (List.getElem?_eq_some_iff.1 hy).1
      have := hi i hil
      rw [add_plain, List.getD_eq_getElem?_getD, hy] at this
      match j, hj with
      | 0, hj => obtain rfl := Option.some.inj hj; rw [Nat.mul_one]; exact this
      | j + 1, hj => simp [strCells] at hj
    · cases hy

theorem szOk_max {s : ByteArray} (h : s.size ≤ maxLen) : szOk s := by
  simp only [maxLen] at h
  unfold szOk
  omega
theorem wf_inI64 {n : Int} (h : (Lit.int .i64 n).wf = true) : inI64 n := by
  exact bounds_i64 h
end
end Go.Proofs.YtfbbdnicplbmdaaDoor

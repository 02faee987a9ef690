
/- What a slice of structs reads as, in a world; plain records for the program's structs. No program in sight. -/
import Derived.Test.YtfbbdnicplbmdaaDoorNum
import Derived.WalkKit
set_option linter.unusedVariables false
set_option linter.unusedSimpArgs false
namespace Go.Proofs.YtfbbdnicplbmdaaDoor
open Go.RowKit Sp

/-- The slice value v reads as the rows ll, each of 'size' cells. -/
def SlR (w : World) (size : Nat) (v : Value) (ll : List (List Value)) : Prop :=
  ∃ (ao : Option Addr) (cap : Nat), v = .slice ao ll.length cap ∧ ll.length ≤ cap ∧ cap ≤ 9223372036854775807 ∧
    (0 < ll.length → ∃ b off, ao = some ⟨b, off, none⟩ ∧ b < w.heap.size ∧ ∀ i cs, ll[i]? = some cs → ∀ j u, cs[j]? = some u → w.cell? ⟨b, off + i * size + j, none⟩ = some u)

theorem SlR.below {w w' : World} {size : Nat} {v : Value} {ll : List (List Value)} (h : SlR w size v ll) (hb : Below w.heap.size w w') : SlR w' size v ll := by
  obtain ⟨ao, cap, hv, hc, hm, hh⟩ := h
  refine ⟨ao, cap, hv, hc, hm, fun hl => ?_⟩
  obtain ⟨b, off, ha, hlt, hcell⟩ := hh hl
  refine ⟨b, off, ha, Nat.lt_of_lt_of_le hlt hb.size, fun i cs hi j u hj => ?_⟩
  rw [hb.cell (p := ⟨b, off + i * size + j, none⟩) hlt]
  exact hcell i cs hi j u hj

theorem flat_at {size : Nat} : ∀ (ll : List (List Value)), (∀ cs ∈ ll, cs.length = size) → ∀ (i : Nat) (cs : List Value), ll[i]? = some cs → ∀ j u, cs[j]? = some u → ll.flatten[i * size + j]? = some u
  | [], _, i, cs, h, _, _, _ => by simp at h
  | c :: ll, hs, 0, cs, h, j, u, hj => by
    simp at h; subst h
    have hjl := (List.getElem?_eq_some_iff.1 hj).1
    rw [List.flatten_cons, List.getElem?_append_left (by omega)]
    simpa using hj
  | c :: ll, hs, i + 1, cs, h, j, u, hj => by
    have hc := hs c (by simp)
    rw [List.flatten_cons, List.getElem?_append_right (by rw [hc, Nat.succ_mul]; omega), hc]
    rw [show (i + 1) * size + j - size = i * size + j from by rw [Nat.succ_mul]; omega]
    exact flat_at ll (fun cs h => hs cs (by simp [h])) i cs (by simpa using h) j u hj

/-- What a call owns reads as its rows. -/
theorem SlR.of_owns {w : World} {base e size : Nat} {v : Value} {n : Nat} {ll : List (List Value)} (h : w.ownsRow base e size v n ll.flatten) (hs : ∀ cs ∈ ll, cs.length = size) (hp : 0 < size) : SlR w size v ll := by
  have hlen : ll.flatten.length = ll.length * size := by
    clear h
    induction ll with
    | nil => simp
    | cons c ll ih => rw [List.flatten_cons, List.length_append, ih fun cs h => hs cs (by simp [h]), hs c (by simp), List.length_cons, Nat.succ_mul]; omega
  have hn : n = ll.length := by
    have := h.1; rw [hlen] at this
    exact (Nat.eq_of_mul_eq_mul_right hp this).symm
  subst hn
  rcases h.2 with ⟨rfl, h0⟩ | ⟨g, cap, cur, rfl, hb, hg, hc, hm, hcs, ht⟩
  · exact ⟨none, 0, by rw [h0], by omega, by omega, fun hl => by omega⟩
  · refine ⟨some ⟨g, 0, none⟩, cap, rfl, hc, by simpa [maxLen] using hm, fun hl => ⟨g, 0, rfl, (Array.getElem?_eq_some_iff.1 hg).1, fun i cs hi j u hj => ?_⟩⟩
    have h1 := flat_at ll hs i cs hi j u hj
    rw [cell_of_row w g _ cur e (0, 0) hg, Nat.zero_add]
    have h2 := (List.getElem?_eq_some_iff.1 h1).1
    rw [← ht, List.getElem?_take, if_pos (by rw [hlen] at h2; exact h2)] at h1
    simpa using h1

namespace Sp
structure KV where
  key : ByteArray
  val : ByteArray
def KV.cells (x : KV) : List Value := [.string x.key, .string x.val]
structure OpR where
  key : ByteArray
  del : Bool
  val : ByteArray
def OpR.cells (x : OpR) : List Value := [.string x.key, .bool x.del, .string x.val]
structure EntR where
  key : ByteArray
  seq : Int
  del : Bool
  val : ByteArray
def EntR.cells (x : EntR) : List Value := [.string x.key, .int .i64 x.seq, .bool x.del, .string x.val]
structure SlotR where
  ten : Int
  key : ByteArray
def SlotR.cells (x : SlotR) : List Value := [.int .i64 x.ten, .string x.key]
structure PutR where
  sec : Int
  text : ByteArray
def PutR.cells (x : PutR) : List Value := [.int .i64 x.sec, .string x.text]
structure PartR where
  last : ByteArray
  text : ByteArray
def PartR.cells (x : PartR) : List Value := [.string x.last, .string x.text]
structure RowR where
  ten : Int
  boot : Int
  seq : Int
  text : ByteArray
  sync : Bool
def RowR.cells (x : RowR) : List Value := [.int .i64 x.ten, .int .i64 x.boot, .int .i64 x.seq, .string x.text, .bool x.sync]
def strCells (x : ByteArray) : List Value := [.string x]
end Sp

/-- A slice of records. -/
def SlT {α : Type} (enc : α → List Value) (size : Nat) (w : World) (v : Value) (l : List α) : Prop := SlR w size v (l.map enc)
theorem SlT.below {α : Type} {enc : α → List Value} {size : Nat} {w w' : World} {v : Value} {l : List α} (h : SlT enc size w v l) (hb : Below w.heap.size w w') : SlT enc size w' v l := SlR.below h hb
/-- Its shape, and the cells of each element. -/
theorem SlT.shape {α : Type} {enc : α → List Value} {size : Nat} {w : World} {v : Value} {l : List α} (h : SlT enc size w v l) :
    ∃ (ao : Option Addr) (cap : Nat), v = .slice ao l.length cap ∧ l.length ≤ cap ∧ cap ≤ 9223372036854775807 ∧
      (0 < l.length → ∃ b off, ao = some ⟨b, off, none⟩ ∧ b < w.heap.size ∧ ∀ i (hi : i < l.length) j u, (enc l[i])[j]? = some u → w.cell? ⟨b, off + i * size + j, none⟩ = some u) := by
  obtain ⟨ao, cap, hv, hc, hm, hh⟩ := h
  rw [List.length_map] at hv hc
  refine ⟨ao, cap, hv, hc, hm, fun hl => ?_⟩
  obtain ⟨b, off, ha, hlt, hcell⟩ := hh (by rw [List.length_map]; exact hl)
  exact ⟨b, off, ha, hlt, fun i hi j u hj => hcell i (enc l[i]) (by simp [hi]) j u hj⟩
end Go.Proofs.YtfbbdnicplbmdaaDoor


/- Plain: the text of a block of entries. -/
import Derived.Test.YtfbbdnicplbmdaaMemQ
import Derived.Test.YtfbbdnicplbmdaaPieW
import Derived.Test.YtfbbdnicplbmdaaFixedW
set_option linter.unusedVariables false
set_option linter.unusedSimpArgs false
namespace Go.Proofs.Ytfbbdnicplbmdaa
open Sp
namespace Sp
/-- How many bytes two lists share at their beginning. -/
def comm : List UInt8 → List UInt8 → Nat
  | a :: s, b :: t => if a = b then comm s t + 1 else 0
  | _, _ => 0
theorem comm_symm : ∀ s t : List UInt8, comm s t = comm t s
  | [], [] => rfl
  | [], _ :: _ => rfl
  | _ :: _, [] => rfl
  | a :: s, b :: t => by
    unfold comm
    by_cases h : a = b
    · rw [if_pos h, if_pos h.symm, comm_symm s t]
    · rw [if_neg h, if_neg (fun e => h e.symm)]
theorem comm_le : ∀ s t : List UInt8, comm s t ≤ s.length
  | [], _ => by simp [comm]
  | _ :: _, [] => by simp [comm]
  | a :: s, b :: t => by
    unfold comm
    split
    · have := comm_le s t; simp; omega
    · simp
theorem comm_hit {s t : List UInt8} {k : Nat} (h1 : k < s.length) (h2 : k < t.length) (he : s[k] = t[k]) : comm (s.drop k) (t.drop k) = comm (s.drop (k + 1)) (t.drop (k + 1)) + 1 := by
  rw [List.drop_eq_getElem_cons h1, List.drop_eq_getElem_cons h2]
  simp [comm, he]
theorem comm_miss {s t : List UInt8} {k : Nat} (h1 : k < s.length) (h2 : k < t.length) (he : s[k] ≠ t[k]) : comm (s.drop k) (t.drop k) = 0 := by
  rw [List.drop_eq_getElem_cons h1, List.drop_eq_getElem_cons h2]
  simp [comm, he]
theorem comm_end1 {s t : List UInt8} {k : Nat} (h : s.length ≤ k) : comm (s.drop k) (t.drop k) = 0 := by
  rw [List.drop_of_length_le h]; cases t.drop k <;> rfl
theorem comm_end2 {s t : List UInt8} {k : Nat} (h : t.length ≤ k) : comm (s.drop k) (t.drop k) = 0 := by
  rw [List.drop_of_length_le h]; cases s.drop k <;> rfl
/-- How much entry i shares with the one ahead of it; none where a place is marked. -/
def shr (l : List EntR) (i : Nat) : Nat := if i % 4 = 0 then 0 else match l[i - 1]?, l[i]? with
  | some p, some e => comm e.key.data.toList p.key.data.toList
  | _, _ => 0
def entL (n : Nat) (e : EntR) : List UInt8 := varL n ++ (pieL (e.key.data.toList.drop n) ++ (varL e.seq ++ ((if e.del then [1] else [0]) ++ pieL e.val.data.toList)))
def blkTo (l : List EntR) : Nat → List UInt8
  | 0 => []
  | k + 1 => match l[k]? with
    | some e => blkTo l k ++ entL (shr l k) e
    | none => blkTo l k
/-- Where the marked entries begin. -/
def plcTo (l : List EntR) : Nat → List Int
  | 0 => []
  | k + 1 => if k % 4 = 0 then plcTo l k ++ [((blkTo l k).length : Int)] else plcTo l k
def plcL (ps : List Int) : List UInt8 := ps.flatMap varL
theorem blkTo_step {l : List EntR} {k : Nat} (h : k < l.length) : blkTo l (k + 1) = blkTo l k ++ entL (shr l k) l[k] := by
  conv => lhs; unfold blkTo
  simp only [List.getElem?_eq_getElem h]
theorem plcTo_hit (l : List EntR) {k : Nat} (h : k % 4 = 0) : plcTo l (k + 1) = plcTo l k ++ [((blkTo l k).length : Int)] := by
  conv => lhs; unfold plcTo
  rw [if_pos h]
theorem plcTo_miss (l : List EntR) {k : Nat} (h : ¬ k % 4 = 0) : plcTo l (k + 1) = plcTo l k := by
  conv => lhs; unfold plcTo
  rw [if_neg h]
theorem plcTo_len (l : List EntR) (k : Nat) : (plcTo l k).length ≤ k := by
  induction k with
  | zero => simp [plcTo]
  | succ k ih =>
    by_cases h : k % 4 = 0
    · rw [plcTo_hit l h]; simp; omega
    · rw [plcTo_miss l h]; omega
theorem plcL_snoc (ps : List Int) (x : Int) : plcL (ps ++ [x]) = plcL ps ++ varL x := by unfold plcL; rw [List.flatMap_append, List.flatMap_singleton]
theorem plcL_len (ps : List Int) : (plcL ps).length ≤ 7 * ps.length := by
  induction ps with
  | nil => simp [plcL]
  | cons x ps ih =>
    unfold plcL at *
    rw [List.flatMap_cons, List.length_append]
    have := varL_length x
    rw [List.length_cons]; omega
theorem shr_zero {l : List EntR} {k : Nat} (h : k % 4 = 0) : shr l k = 0 := by unfold shr; rw [if_pos h]
theorem shr_next {l : List EntR} {k : Nat} (h : ¬ k % 4 = 0) (hk : k < l.length) (hp : k - 1 < l.length) : shr l k = comm l[k].key.data.toList l[k - 1].key.data.toList := by
  unfold shr; rw [if_neg h]; simp [hk, hp]
theorem shr_le {l : List EntR} {k : Nat} (hk : k < l.length) : shr l k ≤ l[k].key.size := by
  by_cases h : k % 4 = 0
  · rw [shr_zero h]; omega
  · rw [shr_next h hk (by omega)]
    have := comm_le l[k].key.data.toList (l[k - 1]'(by omega)).key.data.toList
    simpa using this
def blockB (l : List EntR) : Bool := inB l.length 1 16 && entsB l
def showKL (l : List EntR) : List UInt8 := blkTo l l.length ++ (varL (plcTo l l.length).length ++ (plcL (plcTo l l.length) ++ fixedL ((blkTo l l.length).length : Int) 2))
def showBlkL (l : List EntR) : List UInt8 := if blockB l then showKL l else []
theorem showBlkL_yes {l : List EntR} (h : blockB l = true) : showBlkL l = showKL l := by simp [showBlkL, h]
theorem showBlkL_not {l : List EntR} (h : blockB l = false) : showBlkL l = [] := by simp [showBlkL, h]
theorem pie_len (s : List UInt8) : (pieL s).length ≤ 7 + s.length := by
  have h4 := varL_length (s.length : Int)
  simp [pieL] at *
  omega
theorem entL_len (n : Nat) (e : EntR) (hk : e.key.size ≤ 10) (hv : e.val.size ≤ 16) : (entL n e).length ≤ 55 := by
  have h1 := varL_length (n : Int)
  have h2 := varL_length e.seq
  have h3 := pie_len (e.key.data.toList.drop n)
  have h4 := pie_len e.val.data.toList
  have h5 : ((if e.del then [1] else [0] : List UInt8)).length = 1 := by split <;> rfl
  simp only [List.length_drop, Array.length_toList] at h3 h4
  have h6 : e.key.data.size = e.key.size := rfl
  have h7 : e.val.data.size = e.val.size := rfl
  unfold entL
  simp only [List.length_append, h5]
  omega
theorem entB_sizes {e : EntR} (h : entB e = true) : e.key.size ≤ 10 ∧ e.val.size ≤ 16 := by
  simp only [entB, opB, keyB, valB, Bool.and_eq_true, inB_iff, decide_eq_true_eq] at h
  omega
theorem entsB_sizes {l : List EntR} (h : entsB l = true) (k : Nat) (hk : k < l.length) : l[k].key.size ≤ 10 ∧ l[k].val.size ≤ 16 := by
  have h1 := allIx_spec h k hk
  refine entB_sizes ?_
  by_cases h0 : k = 0
  · rwa [entAt_first hk h0] at h1
  · rw [entAt_next hk h0 (by omega)] at h1
    simp only [Bool.and_eq_true] at h1
    exact h1.1
theorem blkTo_len {l : List EntR} (h : entsB l = true) (k : Nat) (hk : k ≤ l.length) : (blkTo l k).length ≤ 55 * k := by
  induction k with
  | zero => simp [blkTo]
  | succ k ih =>
    rw [blkTo_step (by omega), List.length_append]
    have hs := entsB_sizes h k (by omega)
    have := entL_len (shr l k) l[k] hs.1 hs.2
    have := ih (by omega)
    omega
end Sp
end Go.Proofs.Ytfbbdnicplbmdaa


/- Plain: what makes entries right. -/
import Derived.Test.YtfbbdnicplbmdaaMapP
import Derived.Test.YtfbbdnicplbmdaaSlices
set_option linter.unusedVariables false
set_option linter.unusedSimpArgs false
namespace Go.Proofs.Ytfbbdnicplbmdaa
open Sp
namespace Sp
def entB (x : EntR) : Bool := opB x.key x.del x.val && inB x.seq 0 1000000
def aheadB (a b : EntR) : Bool := less a.key b.key || (a.key.toList == b.key.toList && decide (b.seq < a.seq))
def entAt (l : List EntR) (i : Nat) : Bool := match l[i]? with
  | some x => entB x && (match i with | 0 => true | j + 1 => match l[j]? with | some y => aheadB y x | none => false)
  | none => false
def entsB (l : List EntR) : Bool := allIx l.length (entAt l)
def memB (l : List EntR) : Bool := decide ((l.length : Int) ≤ 60) && entsB l
theorem entAt_bad {l : List EntR} {k : Nat} (h : k < l.length) (hb : entB l[k] = false) : entAt l k = false := by simp [entAt, h, hb]
theorem entAt_first {l : List EntR} {k : Nat} (h : k < l.length) (h0 : k = 0) : entAt l k = entB l[k] := by
  subst h0; simp [entAt, h]
theorem entAt_next {l : List EntR} {k : Nat} (h : k < l.length) (h0 : k ≠ 0) (hp : k - 1 < l.length) : entAt l k = (entB l[k] && aheadB l[k - 1] l[k]) := by
  obtain ⟨j, rfl⟩ : ∃ j, k = j + 1 := ⟨k - 1, by omega⟩
  simp only [Nat.add_sub_cancel] at hp
  simp [entAt, h, hp]
theorem entsB_true {l : List EntR} (h : AllTo (entAt l) l.length) : entsB l = true := allIx_true h
theorem entsB_false {l : List EntR} {k : Nat} (hk : k < l.length) (h : entAt l k = false) : entsB l = false := allIx_false hk h
def cmpS (a b : ByteArray) : Int := if less a b then -1 else if less b a then 1 else 0
def cmpI (a b : Int) : Int := if a < b then -1 else if b < a then 1 else 0
def orI (x y : Int) : Int := if x = 0 then y else x
def cmpE (a b : EntR) : Int := orI (cmpS a.key b.key) (cmpI b.seq a.seq)
theorem cmpE_ahead (a b : EntR) : decide (0 ≤ cmpE a b) = !aheadB a b := by
  unfold cmpE aheadB cmpS cmpI orI
  rcases less_total a.key b.key with h | h | h
  · simp [h]
  · have h1 : less a.key b.key = false := by unfold less; rw [h, bytesLess_eq]; exact decide_eq_false (List.lt_irrefl _)
    have h2 : less b.key a.key = false := by unfold less; rw [h, bytesLess_eq]; exact decide_eq_false (List.lt_irrefl _)
    simp only [h1, h2, h, beq_self_eq_true, Bool.false_or, Bool.true_and]
    by_cases h3 : b.seq < a.seq
    · simp [h3]
    · by_cases h4 : a.seq < b.seq <;> simp [h3, h4]
  · have h1 := less_asymm h
    have h3 : (a.key.toList == b.key.toList) = false := by
      rw [beq_eq_false_iff_ne]; intro he
      unfold less at h; rw [he, bytesLess_eq] at h; simp only [decide_eq_true_eq] at h; exact List.lt_irrefl _ h
    simp [h, h1, h3]
end Sp
end Go.Proofs.Ytfbbdnicplbmdaa

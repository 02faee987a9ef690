
/- Plain: what the reference finds of an entry's key is that entry, when it is visible. -/
import Derived.Test.YtfbbdnicplbmdaaMemQ
import Derived.Test.YtfbbdnicplbmdaaMemG
set_option linter.unusedVariables false
set_option linter.unusedSimpArgs false
namespace Go.Proofs.Ytfbbdnicplbmdaa
open Sp
namespace Sp
theorem getE_cases (key : ByteArray) (seq : Int) : ∀ l : List EntR,
    (∃ j, ∃ h : j < l.length, l[j].key.toList = key.toList ∧ l[j].seq ≤ seq ∧ (∀ i (hi : i < j), ¬ ((l[i]'(by omega)).key.toList = key.toList ∧ (l[i]'(by omega)).seq ≤ seq)) ∧ getE key seq l = (l[j], true)) ∨
    ((∀ i (h : i < l.length), ¬ (l[i].key.toList = key.toList ∧ l[i].seq ≤ seq)) ∧ getE key seq l = (zE, false))
  | [] => .inr ⟨fun i h => by simp at h, rfl⟩
  | x :: t => by
    by_cases hx : x.key.toList = key.toList ∧ x.seq ≤ seq
    · refine .inl ⟨0, by simp, hx.1, hx.2, fun i hi => by omega, ?_⟩
      simp [getE, hx.1, hx.2]
    · have e : getE key seq (x :: t) = getE key seq t := by
        have : (x.key.toList == key.toList && decide (x.seq ≤ seq)) = false := by
          rw [Bool.eq_false_iff]; intro hc; simp only [Bool.and_eq_true, beq_iff_eq, decide_eq_true_eq] at hc; exact hx hc
        simp only [getE, this]; simp
      rcases getE_cases key seq t with ⟨j, hj, h1, h2, h3, h4⟩ | ⟨h1, h2⟩
      · refine .inl ⟨j + 1, by simp; omega, h1, h2, fun i hi => ?_, by rw [e, h4]; rfl⟩
        cases i with
        | zero => exact hx
        | succ i => exact h3 i (by omega)
      · refine .inr ⟨fun i hi => ?_, by rw [e, h2]⟩
        cases i with
        | zero => exact hx
        | succ i => exact h1 i (by simpa using hi)
theorem getE_vis {l : List EntR} {seq : Int} (hm : memB l = true) {k : Nat} (hk : k < l.length) :
    ((getE l[k].key seq l).2 && !(getE l[k].key seq l).1.del && ((getE l[k].key seq l).1.seq == l[k].seq)) = (visB l seq k l[k] && !l[k].del) ∧
    ((visB l seq k l[k] && !l[k].del) = true → (getE l[k].key seq l).1 = l[k]) := by
  rcases getE_cases l[k].key seq l with ⟨j, hj, h1, h2, h3, h4⟩ | ⟨h1, h2⟩
  · rw [h4]
    rcases Nat.lt_trichotomy j k with hlt | rfl | hgt
    · have hs := ents_seq hm hlt hk h1
      have hv : visB l seq k l[k] = false := by
        have : ((l.take k).any fun x => x.key.toList == l[k].key.toList && decide (x.seq ≤ seq)) = true := (any_take (by omega)).2 ⟨j, hj, hlt, by simp only [Bool.and_eq_true, beq_iff_eq, decide_eq_true_eq]; exact ⟨h1, h2⟩⟩
        simp [visB, this]
      have hne : (l[j].seq == l[k].seq) = false := by rw [beq_eq_false_iff_ne]; omega
      simp [hv, hne]
    · have hv : visB l seq j l[j] = true := by
        have : ((l.take j).any fun x => x.key.toList == l[j].key.toList && decide (x.seq ≤ seq)) = false := by
          rw [Bool.eq_false_iff]; intro hc
          obtain ⟨i, hi, hij, hp⟩ := (any_take (by omega)).1 hc
          simp only [Bool.and_eq_true, beq_iff_eq, decide_eq_true_eq] at hp
          exact h3 i hij hp
        simp [visB, this, h2]
      simp [hv]
    · have hs := ents_seq hm hgt hj h1.symm
      have hv : visB l seq k l[k] = false := by
        have := h3 k hgt
        simp only [true_and] at this
        exact vis_old hk (by omega)
      have hne : (l[j].seq == l[k].seq) = false := by rw [beq_eq_false_iff_ne]; omega
      simp [hv, hne]
  · rw [h2]
    have hv : visB l seq k l[k] = false := by
      have := h1 k hk
      simp only [true_and] at this
      exact vis_old hk (by omega)
    simp [hv]
end Sp
end Go.Proofs.Ytfbbdnicplbmdaa

/- Plain: reading a batch of operations back. No program in sight. -/
import Derived.Test.YtajjefpopjdfaaaShowB
import Derived.Test.YtajjefpopjdfaaaTakeW
set_option linter.unusedVariables false
set_option linter.unusedSimpArgs false
namespace Go.Proofs.Ytajjefpopjdfaaa
open Sp
namespace Sp
/-- L is what the string is the text of, if b; else it is the text of none. -/
structure BatC (s : ByteArray) (L : List OpR) (b : Bool) : Prop where
  yes : b = true → batchB L = true ∧ showBL L = s.data.toList
  no : b = false → L = [] ∧ ∀ l, batchB l = true → showBL l ≠ s.data.toList
theorem BatC.exists (s : ByteArray) : ∃ L b, BatC s L b := by
  by_cases h : ∃ L, batchB L = true ∧ showBL L = s.data.toList
  · obtain ⟨L, h⟩ := h
    exact ⟨L, true, ⟨fun _ => h, fun h => by cases h⟩⟩
  · exact ⟨[], false, ⟨(fun h => by cases h), fun _ => ⟨rfl, fun l h1 h2 => h ⟨l, h1, h2⟩⟩⟩⟩
theorem BatC.len {s : ByteArray} {L : List OpR} {b : Bool} (h : BatC s L b) : (L.length : Int) ≤ 1048576 := by
  cases b
  · rw [(h.no rfl).1]; simp
  · have := (batch_ops (h.yes rfl).1).1; omega
theorem BatC.text {s : ByteArray} {L : List OpR} {b : Bool} (h : BatC s L b) (hb : b = true) : L.length ≤ 6 ∧ 1 ≤ L.length ∧ s.data.toList = varB L.length ++ opsL L := by
  obtain ⟨h1, h2⟩ := h.yes hb
  have h6 := (batch_ops h1).1
  have hin : inB L.length 1 6 = true := by unfold batchB at h1; rw [Bool.and_eq_true] at h1; exact h1.1
  have hi := inB_iff.1 hin
  rw [showBL_yes h1, varL_nat (by omega)] at h2
  exact ⟨by omega, by omega, h2.symm⟩
/-- An operation of a reader. -/
def rdOp (s : ByteArray) (p : Nat) : OpR × Nat × Bool :=
  if (rdFlag s p false).1 then (⟨(rdShort s (rdFlag s p false).2.1 (rdFlag s p false).2.2).1, true, str []⟩, (rdShort s (rdFlag s p false).2.1 (rdFlag s p false).2.2).2)
  else (⟨(rdShort s (rdFlag s p false).2.1 (rdFlag s p false).2.2).1, false, (rdShort s (rdShort s (rdFlag s p false).2.1 (rdFlag s p false).2.2).2.1 (rdShort s (rdFlag s p false).2.1 (rdFlag s p false).2.2).2.2).1⟩,
    (rdShort s (rdShort s (rdFlag s p false).2.1 (rdFlag s p false).2.2).2.1 (rdShort s (rdFlag s p false).2.1 (rdFlag s p false).2.2).2.2).2)
theorem rdShort_snd {s : ByteArray} {p : Nat} {bad : Bool} (h : (rdShort s p bad).2.2 = false) : bad = false ∧ takeP s p = some ((rdShort s p bad).1, (rdShort s p bad).2.1) := by
  cases bad
  · refine ⟨rfl, ?_⟩
    rcases ht : takeP s p with _ | ⟨t, q⟩
    · have := (rdShort_none ht).2; rw [h] at this; cases this
    · rw [rdShort_some ht]
  · rw [rdShort_bad] at h; cases h
theorem rdOp_snd {s : ByteArray} {p : Nat} (h : (rdOp s p).2.2 = false) : rem s p = opL (rdOp s p).1 ++ rem s (rdOp s p).2.1 := by
  unfold rdOp at h ⊢
  rcases hf : (rdFlag s p false).1 with _ | _
  · rw [hf] at h
    simp only [Bool.false_eq_true, if_false] at h ⊢
    obtain ⟨h1, h2⟩ := rdShort_snd h
    obtain ⟨h3, h4⟩ := rdShort_snd h1
    obtain ⟨e1, e2, _⟩ := rdFlag_some h3
    obtain ⟨g1, _⟩ := takeP_some h4
    obtain ⟨g2, _⟩ := takeP_some h2
    rw [e1] at g1
    rw [e2, hf, g1, e1]
    rw [e1] at g2
    rw [g2]
    simp [opL, flagL]
  · rw [hf] at h
    simp only [if_true] at h ⊢
    obtain ⟨h3, h4⟩ := rdShort_snd h
    obtain ⟨e1, e2, _⟩ := rdFlag_some h3
    obtain ⟨g1, _⟩ := takeP_some h4
    rw [e1] at g1
    rw [e2, hf, g1, e1]
    simp [opL, flagL]
theorem opR_sizes {o : OpR} (h : opR o = true) : o.key.size ≤ 10 ∧ o.val.size ≤ 16 ∧ (o.del = true → o.val = str []) := by
  simp only [opR, opB, keyB, valB, Bool.and_eq_true, inB_iff, decide_eq_true_eq] at h
  refine ⟨by omega, by omega, fun hd => ?_⟩
  have := h.2
  rw [hd] at this
  simp at this
  have e := str_of o.val
  rw [toList_data] at this
  rw [← e, this]
theorem rdOp_of {s : ByteArray} {p : Nat} {o : OpR} {r : List UInt8} (ho : opR o = true) (h : rem s p = opL o ++ r) : (rdOp s p).1 = o ∧ (rdOp s p).2.2 = false ∧ rem s (rdOp s p).2.1 = r := by
  obtain ⟨k1, v1, dv⟩ := opR_sizes ho
  obtain ⟨key, del, val⟩ := o
  simp only at k1 v1 dv
  cases del
  · have h' : rem s p = flagL false ++ (pieL key.data.toList ++ (pieL val.data.toList ++ r)) := by rw [h]; simp [opL, flagL]
    obtain ⟨f1, f2⟩ := rdFlag_of h'
    obtain ⟨a1, a2⟩ := takeP_of (by omega) f2
    obtain ⟨b1, b2⟩ := takeP_of (by omega) a2
    unfold rdOp
    rw [f1]
    simp only [Bool.false_eq_true, if_false]
    rw [rdShort_some a1]
    simp only
    rw [rdShort_some b1]
    exact ⟨rfl, rfl, b2⟩
  · have h' : rem s p = flagL true ++ (pieL key.data.toList ++ r) := by rw [h]; simp [opL, flagL]
    obtain ⟨f1, f2⟩ := rdFlag_of h'
    obtain ⟨a1, a2⟩ := takeP_of (by omega) f2
    unfold rdOp
    rw [f1]
    simp only [if_true]
    rw [rdShort_some a1]
    exact ⟨by rw [dv rfl], rfl, a2⟩
theorem rdOp_bd (s : ByteArray) (p : Nat) (h : (p : Int) ≤ s.size) : ((rdOp s p).2.1 : Int) ≤ s.size := by
  have h1 := rdFlag_bd s p false h
  have h2 := (rdShort_bd s _ (rdFlag s p false).2.2 h1).1
  have h3 := (rdShort_bd s _ (rdShort s (rdFlag s p false).2.1 (rdFlag s p false).2.2).2.2 h2).1
  unfold rdOp
  split
  · exact h2
  · exact h3
/-- The program's loop. -/
structure BI (s : ByteArray) (L : List OpR) (b : Bool) (n i : Nat) (l : List OpR) (p : Nat) (bad : Bool) : Prop where
  len : l.length = i
  six : i ≤ 6
  ps : (p : Int) ≤ s.size
  snd : bad = false → s.data.toList = varB n ++ (opsL l ++ rem s p) ∧ n ≤ 562949953421311
  cmp : b = true → bad = false ∧ n = L.length ∧ l = L.take i
theorem BI.start {s : ByteArray} {L : List OpR} {b : Bool} (h : BatC s L b) : BI s L b (rdNum s 0 false).1 0 [] (rdNum s 0 false).2.1 (rdNum s 0 false).2.2 := by
  refine ⟨rfl, by omega, (rdNum_bdI s 0 false (by omega)).1, fun hb => ?_, fun hb => ?_⟩
  · rcases hv : takeV s 0 with _ | ⟨x, q⟩
    · rw [rdNum_none hv] at hb; cases hb
    · rw [rdNum_some hv]
      obtain ⟨h1, h2, _, _⟩ := takeV_some hv
      rw [rem_zero] at h1
      exact ⟨by simpa [opsL] using h1, h2⟩
  · obtain ⟨h1, _, h3⟩ := h.text hb
    rw [← rem_zero] at h3
    have := (takeV_of (by omega) h3).1
    rw [rdNum_some this]
    exact ⟨rfl, rfl, by simp⟩
theorem opsL_drop (l : List OpR) (k : Nat) (h : k < l.length) : opsL (l.drop k) = opL l[k] ++ opsL (l.drop (k + 1)) := by
  rw [List.drop_eq_getElem_cons h]; unfold opsL; rw [List.flatMap_cons]
theorem opsL_append (a c : List OpR) : opsL (a ++ c) = opsL a ++ opsL c := by unfold opsL; rw [List.flatMap_append]
theorem opsL_split (l : List OpR) (k : Nat) : opsL l = opsL (l.take k) ++ opsL (l.drop k) := by rw [← opsL_append, List.take_append_drop]
theorem BI.rest {s : ByteArray} {L : List OpR} {b : Bool} {n i : Nat} {l : List OpR} {p : Nat} {bad : Bool} (hC : BatC s L b) (h : BI s L b n i l p bad) (hb : b = true) : rem s p = opsL (L.drop i) := by
  obtain ⟨h1, h2, h3⟩ := h.cmp hb
  have h4 := (h.snd h1).1
  have h5 := (hC.text hb).2.2
  rw [h4, h2, h3, opsL_split L i] at h5
  exact List.append_cancel_left (List.append_cancel_left h5)
theorem BI.step {s : ByteArray} {L : List OpR} {b : Bool} {n i : Nat} {l : List OpR} {p : Nat} (hC : BatC s L b) (h : BI s L b n i l p false) (hi : i < n) (h6 : i < 6) : BI s L b n (i + 1) (l ++ [(rdOp s p).1]) (rdOp s p).2.1 (rdOp s p).2.2 := by
  refine ⟨by simp [h.len], by omega, rdOp_bd s p h.ps, fun hb => ?_, fun hb => ?_⟩
  · obtain ⟨e1, e2⟩ := h.snd rfl
    refine ⟨?_, e2⟩
    rw [e1, rdOp_snd hb, opsL_append]
    simp [opsL]
  · obtain ⟨_, h2, h3⟩ := h.cmp hb
    have hr := h.rest hC hb
    have hil : i < L.length := by omega
    rw [opsL_drop L i hil] at hr
    have hop := (batch_ops (hC.yes hb).1).2 i hil
    obtain ⟨r1, r2, r3⟩ := rdOp_of hop hr
    refine ⟨r2, h2, ?_⟩
    rw [r1, h3, List.take_add_one, List.getElem?_eq_getElem hil]; rfl
theorem BI.fin {s : ByteArray} {L : List OpR} {b : Bool} {n i : Nat} {l : List OpR} {p : Nat} {bad : Bool} (hC : BatC s L b) (h : BI s L b n i l p bad) (hd : bad = true ∨ ¬ i < n ∨ ¬ i < 6) :
    b = ((!bad && p == s.size) && (l.length == n && batchB l)) ∧ (b = true → L = l) := by
  cases b
  · refine ⟨?_, fun h => by cases h⟩
    rcases hx : ((!bad && p == s.size) && (l.length == n && batchB l)) with _ | _
    · rfl
    · exfalso
      simp only [Bool.and_eq_true, Bool.not_eq_true', beq_iff_eq] at hx
      obtain ⟨⟨h1, h2⟩, h3, h4⟩ := hx
      obtain ⟨e1, e2⟩ := h.snd h1
      refine (hC.no rfl).2 l h4 ?_
      rw [showBL_yes h4, varL_nat (by omega), e1, h3]
      have : rem s p = [] := by rw [h2]; unfold rem; rw [List.drop_of_length_le (by simp)]
      rw [this, List.append_nil]
  · obtain ⟨h1, h2, h3⟩ := h.cmp rfl
    obtain ⟨t1, t2, t3⟩ := hC.text rfl
    have hr := h.rest hC rfl
    have hi : L.length ≤ i := by rcases hd with h | h | h <;> first | (rw [h1] at h; cases h) | omega
    have hl : l = L := by rw [h3, List.take_of_length_le hi]
    have hp : p = s.size := by
      rw [List.drop_of_length_le hi] at hr
      have := congrArg List.length hr
      rw [rem_length] at this
      have h0 : (opsL ([] : List OpR)).length = 0 := rfl
      have := h.ps
      omega
    refine ⟨?_, fun _ => hl.symm⟩
    rw [h1, hp, hl, h2, (hC.yes rfl).1]
    simp
/-- The reference's loop. -/
structure BS (s : ByteArray) (L : List OpR) (b : Bool) (n i : Nat) (l : List OpR) (p : Nat) : Prop where
  len : l.length = i
  le : i ≤ n
  ps : (p : Int) ≤ s.size
  cmp : b = true → n = L.length ∧ l = L.take i ∧ rem s p = opsL (L.drop i)
theorem BS.none {s : ByteArray} {L : List OpR} {b : Bool} (hC : BatC s L b) (hv : takeV s 0 = none) : b = false := by
  cases b
  · rfl
  · obtain ⟨h1, _, h3⟩ := hC.text rfl
    rw [← rem_zero] at h3
    rw [(takeV_of (by omega) h3).1] at hv
    cases hv
theorem BS.big {s : ByteArray} {L : List OpR} {b : Bool} {n p : Nat} (hC : BatC s L b) (hv : takeV s 0 = some (n, p)) (h6 : 6 < n) : b = false := by
  cases b
  · rfl
  · obtain ⟨h1, _, h3⟩ := hC.text rfl
    rw [← rem_zero] at h3
    rw [(takeV_of (by omega) h3).1] at hv
    simp at hv; omega
theorem BS.start {s : ByteArray} {L : List OpR} {b : Bool} {n p : Nat} (hC : BatC s L b) (hv : takeV s 0 = some (n, p)) : BS s L b n 0 [] p := by
  obtain ⟨g1, g2, g3, g4⟩ := takeV_some hv
  refine ⟨rfl, by omega, by omega, fun hb => ?_⟩
  obtain ⟨h1, _, h3⟩ := hC.text hb
  rw [← rem_zero] at h3
  obtain ⟨e1, e2⟩ := takeV_of (by omega) h3
  rw [e1] at hv
  simp only [Option.some.injEq, Prod.mk.injEq] at hv
  obtain ⟨rfl, rfl⟩ := hv
  exact ⟨rfl, by simp, by simpa using e2⟩
/-- An operation read by the reference. -/
def tkOp (s : ByteArray) (p : Nat) (d : Bool) : OpR × Int :=
  if d then (⟨(tkP s ((p : Int) + 1)).1, true, str []⟩, (tkP s ((p : Int) + 1)).2) else (⟨(tkP s ((p : Int) + 1)).1, false, (tkP s (tkP s ((p : Int) + 1)).2).1⟩, (tkP s (tkP s ((p : Int) + 1)).2).2)
theorem tkOp_of {s : ByteArray} {p : Nat} {o : OpR} {r : List UInt8} (hp : p < s.size) (ho : opR o = true) (h : rem s p = opL o ++ r) : ∃ q : Nat, tkOp s p (s[p] == 1) = (o, (q : Int)) ∧ rem s q = r ∧ (q : Int) ≤ s.size := by
  obtain ⟨k1, v1, dv⟩ := opR_sizes ho
  obtain ⟨key, del, val⟩ := o
  simp only at k1 v1 dv
  have hh : rem s p = s[p] :: rem s (p + 1) := by
    unfold rem; rw [List.drop_eq_getElem_cons (by simpa using hp)]; rfl
  have hc : ((p : Int) + 1) = ((p + 1 : Nat) : Int) := by omega
  cases del
  · have h' : s[p] :: rem s (p + 1) = 0 :: (pieL key.data.toList ++ (pieL val.data.toList ++ r)) := by rw [← hh, h]; simp [opL]
    obtain ⟨f1, f2⟩ := List.cons.inj h'
    obtain ⟨a1, a2⟩ := takeP_of (by omega) f2
    obtain ⟨b1, b2⟩ := takeP_of (by omega) a2
    have hb3 := (takeP_some b1).2.2.2.1
    refine ⟨_, ?_, b2, by omega⟩
    unfold tkOp
    rw [if_neg (by rw [f1]; decide), hc, tkP_some a1]
    simp only
    rw [tkP_some b1]
  · have h' : s[p] :: rem s (p + 1) = 1 :: (pieL key.data.toList ++ r) := by rw [← hh, h]; simp [opL]
    obtain ⟨f1, f2⟩ := List.cons.inj h'
    obtain ⟨a1, a2⟩ := takeP_of (by omega) f2
    have hb3 := (takeP_some a1).2.2.2.1
    refine ⟨_, ?_, a2, by omega⟩
    unfold tkOp
    rw [if_pos (by rw [f1]; decide), hc, tkP_some a1, dv rfl]
theorem BS.op {s : ByteArray} {L : List OpR} {b : Bool} {n i : Nat} {l : List OpR} {p : Nat} (hC : BatC s L b) (h : BS s L b n i l p) (hi : i < n) (hb : b = true) : ∃ hil : i < L.length, opR L[i] = true ∧ rem s p = opL L[i] ++ opsL (L.drop (i + 1)) := by
  obtain ⟨h2, h3, h4⟩ := h.cmp hb
  have hil : i < L.length := by omega
  refine ⟨hil, (batch_ops (hC.yes hb).1).2 i hil, ?_⟩
  rw [h4, opsL_drop L i hil]
theorem opL_pos (o : OpR) : 0 < (opL o).length := by unfold opL; split <;> simp
theorem BS.short {s : ByteArray} {L : List OpR} {b : Bool} {n i : Nat} {l : List OpR} {p : Nat} (hC : BatC s L b) (h : BS s L b n i l p) (hi : i < n) (hp : ¬ p < s.size) : b = false := by
  cases b
  · rfl
  · obtain ⟨hil, _, h3⟩ := h.op hC hi rfl
    have := congrArg List.length h3
    rw [rem_length, List.length_append] at this
    have := opL_pos L[i]
    omega
theorem BS.fail {s : ByteArray} {L : List OpR} {b : Bool} {n i : Nat} {l : List OpR} {p : Nat} (hC : BatC s L b) (h : BS s L b n i l p) (hi : i < n) (hp : p < s.size) (hn : (tkOp s p (s[p] == 1)).2 < 0) : b = false := by
  cases b
  · rfl
  · obtain ⟨hil, h1, h3⟩ := h.op hC hi rfl
    obtain ⟨q, hq, _⟩ := tkOp_of hp h1 h3
    rw [hq] at hn
    simp only at hn
    omega
theorem BS.step {s : ByteArray} {L : List OpR} {b : Bool} {n i : Nat} {l : List OpR} {p q : Nat} (hC : BatC s L b) (h : BS s L b n i l p) (hi : i < n) (hp : p < s.size) (hn : (tkOp s p (s[p] == 1)).2 = (q : Int)) (hqs : (q : Int) ≤ s.size) : BS s L b n (i + 1) (l ++ [(tkOp s p (s[p] == 1)).1]) q := by
  refine ⟨by simp [h.len], by omega, hqs, fun hb => ?_⟩
  obtain ⟨hil, h1, h3⟩ := h.op hC hi hb
  obtain ⟨h2, h5, _⟩ := h.cmp hb
  obtain ⟨q', hq, hr, _⟩ := tkOp_of hp h1 h3
  rw [hq] at hn ⊢
  simp only at hn
  obtain rfl : q' = q := by omega
  refine ⟨h2, ?_, hr⟩
  rw [h5, List.take_add_one, List.getElem?_eq_getElem hil]; rfl
theorem BS.fin {s : ByteArray} {L : List OpR} {b : Bool} {n i : Nat} {l : List OpR} {p p0 : Nat} (hC : BatC s L b) (h : BS s L b n i l p) (hv : takeV s 0 = some (n, p0)) (hi : ¬ i < n) :
    b = (decide (l.length ≠ 0) && showBL l == s.data.toList) ∧ (b = true → L = l) := by
  have hle := h.le
  cases b
  · refine ⟨?_, fun h => by cases h⟩
    rcases hx : (decide (l.length ≠ 0) && showBL l == s.data.toList) with _ | _
    · rfl
    · exfalso
      simp only [Bool.and_eq_true, decide_eq_true_eq, beq_iff_eq] at hx
      rcases hb : batchB l with _ | _
      · have h1 := takeV_some hv
        have h2 := hx.2
        rw [showBL_not hb] at h2
        have h3 := congrArg List.length h2
        have : s.data.toList.length = s.size := by simp
        simp at h3
        omega
      · exact (hC.no rfl).2 l hb hx.2
  · obtain ⟨h2, h3, h4⟩ := h.cmp rfl
    have hl : l = L := by rw [h3, List.take_of_length_le (by omega)]
    obtain ⟨t1, t2, t3⟩ := hC.text rfl
    refine ⟨?_, fun _ => hl.symm⟩
    rw [hl, (hC.yes rfl).2]
    have hne : L.length ≠ 0 := by omega
    simp only [hne, ne_eq, not_false_eq_true, decide_true, Bool.true_and]
    exact (beq_self_eq_true _).symm
end Sp
end Go.Proofs.Ytajjefpopjdfaaa

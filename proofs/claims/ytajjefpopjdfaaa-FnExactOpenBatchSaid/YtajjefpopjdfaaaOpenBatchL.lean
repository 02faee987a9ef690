/- The law FnExactOpenBatch: for every input it returns true, and its arguments read as before. No condition. -/
import Derived.Test.YtajjefpopjdfaaaRdW
import Derived.Test.YtajjefpopjdfaaaRow
import Derived.Test.YtajjefpopjdfaaaOwn
import Derived.Test.YtajjefpopjdfaaaShowB
import Derived.Test.YtajjefpopjdfaaaTakeW
import Derived.Test.YtajjefpopjdfaaaStepR
import Derived.Test.YtajjefpopjdfaaaKOpR
import Derived.Test.YtajjefpopjdfaaaKOpA
import Derived.Test.YtajjefpopjdfaaaSealB
import Derived.Deep.RegionWith
import Derived.Deep.RegionHeld
import Derived.Lib.Hide
import Derived.Test.YtajjefpopjdfaaaRows
import Derived.WalkKit
import Derived.ProofKit
import Derived.OpenShut
import Derived.ShutString
import Derived.ChangeOld
import Derived.Below
/- Plain: boxes of one's own, and what keeps them. -/
set_option linter.unusedVariables false
set_option linter.unusedSimpArgs false
namespace Go.Proofs.Ytajjefpopjdfaaa
open Go.RowKit Sp Go.Sort
/-- The block b holds the cells c. -/
def Bx (w : World) (b : Nat) (c : Array Value) : Prop := ∃ T, w.heap[b]? = some (.cells c T (0, 0))
theorem Bx.new (w : World) (c : Array Value) (T : TypeId) : Bx (w.alloc (.cells c T)) w.heap.size c := ⟨T, heap_alloc_new w _⟩
theorem Bx.lt {w : World} {b : Nat} {c : Array Value} (h : Bx w b c) : b < w.heap.size := by
  obtain ⟨T, hT⟩ := h; exact (Array.getElem?_eq_some_iff.1 hT).1
theorem Bx.below {w w' : World} {b : Nat} {c : Array Value} (h : Bx w b c) (hb : Below w.heap.size w w') : Bx w' b c := by
  obtain ⟨T, hT⟩ := h
  exact ⟨T, (hb.block b (Array.getElem?_eq_some_iff.1 hT).1).trans hT⟩
theorem Bx.grown {w w' : World} {b : Nat} {c : Array Value} (h : Bx w b c) {r : Option Nat} (hg : w.grownBy w' r) (hn : r ≠ some b) : Bx w' b c := by
  have hl := h.lt
  obtain ⟨T, hT⟩ := h
  exact ⟨T, (hg.block b hl (fun e => hn e.symm)).trans hT⟩
theorem Bx.cell {w : World} {b : Nat} {c : Array Value} (h : Bx w b c) (i : Nat) (u : Value) (hu : c[i]? = some u) : w.cell? ⟨b, i, none⟩ = some u := by
  obtain ⟨T, hT⟩ := h
  rw [Lib.cell_of_heap hT]; exact hu
theorem Bx.frozen {w : World} {b : Nat} {c : Array Value} (h : Bx w b c) (j : Nat) : w.frozen? ⟨b, j, none⟩ = false := by
  obtain ⟨T, hT⟩ := h
  exact Lib.frozen_of_heap hT j
theorem Bx.set {w : World} {b : Nat} {c : Array Value} (h : Bx w b c) (i : Nat) (u : Value) : Bx (w.setCell ⟨b, i, none⟩ u) b (c.setIfInBounds i u) := by
  obtain ⟨T, hT⟩ := h
  refine ⟨T, ?_⟩
  simp only [World.setCell]
  rw [Array.getElem?_modify, if_pos rfl, hT]; rfl
theorem Bx.far {w : World} {b : Nat} {c : Array Value} (h : Bx w b c) (p : Addr) (u : Value) (hp : b ≠ p.block) : Bx (w.setCell p u) b c := by
  obtain ⟨T, hT⟩ := h
  exact ⟨T, (Below.heap_setCell _ _ _ _ hp).trans hT⟩
theorem Rd.bx {w : World} {b p : Nat} {s : ByteArray} {bad : Bool} (h : Rd w b s p bad) : Bx w b #[.string s, .int .i64 (p : Nat), .bool bad] := h
theorem Rd.of {w : World} {b p : Nat} {s : ByteArray} {bad : Bool} (h : Bx w b #[.string s, .int .i64 (p : Nat), .bool bad]) : Rd w b s p bad := h
theorem below_set {B : Nat} {w wa : World} (h : Below B w wa) (p : Addr) (u : Value) (hp : B ≤ p.block) : Below B w (wa.setCell p u) :=
  h.trans ⟨rfl, rfl, rfl, by simp [World.setCell], fun k hk => Below.heap_setCell _ _ _ _ (by omega)⟩
end Go.Proofs.Ytajjefpopjdfaaa
/- Plain: reading a batch of operations back. No program in sight. -/
set_option linter.unusedVariables false
set_option linter.unusedSimpArgs false
namespace Go.Proofs.Ytajjefpopjdfaaa
open Sp
namespace Sp
/-- L is what the string is the text of, if b; else it is the text of none. -/
structure BatC (s : ByteArray) (L : List OpR) (b : Bool) : Prop where
  yes : b = true → batchB L = true ∧ showBL L = s.data.toList
  no : b = false → L = [] ∧ ∀ l, batchB l = true → showBL l ≠ s.data.toList
theorem BatC.exists (s : ByteArray) : ∃ L b, BatC s L b := by
  by_cases h : ∃ L, batchB L = true ∧ showBL L = s.data.toList
  · obtain ⟨L, h⟩ := h
    exact ⟨L, true, ⟨fun _ => h, fun h => by cases h⟩⟩
  · exact ⟨[], false, ⟨(fun h => by cases h), fun _ => ⟨rfl, fun l h1 h2 => h ⟨l, h1, h2⟩⟩⟩⟩
theorem BatC.len {s : ByteArray} {L : List OpR} {b : Bool} (h : BatC s L b) : (L.length : Int) ≤ 1048576 := by
  cases b
  · rw [(h.no rfl).1]; simp
  · have := (batch_ops (h.yes rfl).1).1; omega
theorem BatC.text {s : ByteArray} {L : List OpR} {b : Bool} (h : BatC s L b) (hb : b = true) : L.length ≤ 6 ∧ 1 ≤ L.length ∧ s.data.toList = varB L.length ++ opsL L := by
  obtain ⟨h1, h2⟩ := h.yes hb
  have h6 := (batch_ops h1).1
  have hin : inB L.length 1 6 = true := by unfold batchB at h1; rw [Bool.and_eq_true] at h1; exact h1.1
  have hi := inB_iff.1 hin
  rw [showBL_yes h1, varL_nat (by omega)] at h2
  exact ⟨by omega, by omega, h2.symm⟩
/-- An operation of a reader. -/
def rdOp (s : ByteArray) (p : Nat) : OpR × Nat × Bool :=
  if (rdFlag s p false).1 then (⟨(rdShort s (rdFlag s p false).2.1 (rdFlag s p false).2.2).1, true, str []⟩, (rdShort s (rdFlag s p false).2.1 (rdFlag s p false).2.2).2)
  else (⟨(rdShort s (rdFlag s p false).2.1 (rdFlag s p false).2.2).1, false, (rdShort s (rdShort s (rdFlag s p false).2.1 (rdFlag s p false).2.2).2.1 (rdShort s (rdFlag s p false).2.1 (rdFlag s p false).2.2).2.2).1⟩,
    (rdShort s (rdShort s (rdFlag s p false).2.1 (rdFlag s p false).2.2).2.1 (rdShort s (rdFlag s p false).2.1 (rdFlag s p false).2.2).2.2).2)
theorem rdShort_snd {s : ByteArray} {p : Nat} {bad : Bool} (h : (rdShort s p bad).2.2 = false) : bad = false ∧ takeP s p = some ((rdShort s p bad).1, (rdShort s p bad).2.1) := by
  cases bad
  · refine ⟨rfl, ?_⟩
    rcases ht : takeP s p with _ | ⟨t, q⟩
    · have := (rdShort_none ht).2; rw [h] at this; cases this
    · rw [rdShort_some ht]
  · rw [rdShort_bad] at h; cases h
theorem rdOp_snd {s : ByteArray} {p : Nat} (h : (rdOp s p).2.2 = false) : rem s p = opL (rdOp s p).1 ++ rem s (rdOp s p).2.1 := by
  unfold rdOp at h ⊢
  rcases hf : (rdFlag s p false).1 with _ | _
  · rw [hf] at h
    simp only [Bool.false_eq_true, if_false] at h ⊢
    obtain ⟨h1, h2⟩ := rdShort_snd h
    obtain ⟨h3, h4⟩ := rdShort_snd h1
    obtain ⟨e1, e2, _⟩ := rdFlag_some h3
    obtain ⟨g1, _⟩ := takeP_some h4
    obtain ⟨g2, _⟩ := takeP_some h2
    rw [e1] at g1
    rw [e2, hf, g1, e1]
    rw [e1] at g2
    rw [g2]
    simp [opL, flagL]
  · rw [hf] at h
    simp only [if_true] at h ⊢
    obtain ⟨h3, h4⟩ := rdShort_snd h
    obtain ⟨e1, e2, _⟩ := rdFlag_some h3
    obtain ⟨g1, _⟩ := takeP_some h4
    rw [e1] at g1
    rw [e2, hf, g1, e1]
    simp [opL, flagL]
theorem opR_sizes {o : OpR} (h : opR o = true) : o.key.size ≤ 10 ∧ o.val.size ≤ 16 ∧ (o.del = true → o.val = str []) := by
  simp only [opR, opB, keyB, valB, Bool.and_eq_true, inB_iff, decide_eq_true_eq] at h
  refine ⟨by omega, by omega, fun hd => ?_⟩
  have := h.2
  rw [hd] at this
  simp at this
  have e := str_of o.val
  rw [toList_data] at this
  rw [← e, this]
theorem rdOp_of {s : ByteArray} {p : Nat} {o : OpR} {r : List UInt8} (ho : opR o = true) (h : rem s p = opL o ++ r) : (rdOp s p).1 = o ∧ (rdOp s p).2.2 = false ∧ rem s (rdOp s p).2.1 = r := by
  obtain ⟨k1, v1, dv⟩ := opR_sizes ho
  obtain ⟨key, del, val⟩ := o
  simp only at k1 v1 dv
  cases del
  · have h' : rem s p = flagL false ++ (pieL key.data.toList ++ (pieL val.data.toList ++ r)) := by rw [h]; simp [opL, flagL]
    obtain ⟨f1, f2⟩ := rdFlag_of h'
    obtain ⟨a1, a2⟩ := takeP_of (by omega) f2
    obtain ⟨b1, b2⟩ := takeP_of (by omega) a2
    unfold rdOp
    rw [f1]
    simp only [Bool.false_eq_true, if_false]
    rw [rdShort_some a1]
    simp only
    rw [rdShort_some b1]
    exact ⟨rfl, rfl, b2⟩
  · have h' : rem s p = flagL true ++ (pieL key.data.toList ++ r) := by rw [h]; simp [opL, flagL]
    obtain ⟨f1, f2⟩ := rdFlag_of h'
    obtain ⟨a1, a2⟩ := takeP_of (by omega) f2
    unfold rdOp
    rw [f1]
    simp only [if_true]
    rw [rdShort_some a1]
    exact ⟨by rw [dv rfl], rfl, a2⟩
theorem rdOp_bd (s : ByteArray) (p : Nat) (h : (p : Int) ≤ s.size) : ((rdOp s p).2.1 : Int) ≤ s.size := by
  have h1 := rdFlag_bd s p false h
  have h2 := (rdShort_bd s _ (rdFlag s p false).2.2 h1).1
  have h3 := (rdShort_bd s _ (rdShort s (rdFlag s p false).2.1 (rdFlag s p false).2.2).2.2 h2).1
  unfold rdOp
  split
  · exact h2
  · exact h3
/-- The program's loop. -/
structure BI (s : ByteArray) (L : List OpR) (b : Bool) (n i : Nat) (l : List OpR) (p : Nat) (bad : Bool) : Prop where
  len : l.length = i
  six : i ≤ 6
  ps : (p : Int) ≤ s.size
  snd : bad = false → s.data.toList = varB n ++ (opsL l ++ rem s p) ∧ n ≤ 562949953421311
  cmp : b = true → bad = false ∧ n = L.length ∧ l = L.take i
theorem BI.start {s : ByteArray} {L : List OpR} {b : Bool} (h : BatC s L b) : BI s L b (rdNum s 0 false).1 0 [] (rdNum s 0 false).2.1 (rdNum s 0 false).2.2 := by
  refine ⟨rfl, by omega, (rdNum_bdI s 0 false (by omega)).1, fun hb => ?_, fun hb => ?_⟩
  · rcases hv : takeV s 0 with _ | ⟨x, q⟩
    · rw [rdNum_none hv] at hb; cases hb
    · rw [rdNum_some hv]
      obtain ⟨h1, h2, _, _⟩ := takeV_some hv
      rw [rem_zero] at h1
      exact ⟨by simpa [opsL] using h1, h2⟩
  · obtain ⟨h1, _, h3⟩ := h.text hb
    rw [← rem_zero] at h3
    have := (takeV_of (by omega) h3).1
    rw [rdNum_some this]
    exact ⟨rfl, rfl, by simp⟩
theorem opsL_drop (l : List OpR) (k : Nat) (h : k < l.length) : opsL (l.drop k) = opL l[k] ++ opsL (l.drop (k + 1)) := by
  rw [List.drop_eq_getElem_cons h]; unfold opsL; rw [List.flatMap_cons]
theorem opsL_append (a c : List OpR) : opsL (a ++ c) = opsL a ++ opsL c := by unfold opsL; rw [List.flatMap_append]
theorem opsL_split (l : List OpR) (k : Nat) : opsL l = opsL (l.take k) ++ opsL (l.drop k) := by rw [← opsL_append, List.take_append_drop]
theorem BI.rest {s : ByteArray} {L : List OpR} {b : Bool} {n i : Nat} {l : List OpR} {p : Nat} {bad : Bool} (hC : BatC s L b) (h : BI s L b n i l p bad) (hb : b = true) : rem s p = opsL (L.drop i) := by
  obtain ⟨h1, h2, h3⟩ := h.cmp hb
  have h4 := (h.snd h1).1
  have h5 := (hC.text hb).2.2
  rw [h4, h2, h3, opsL_split L i] at h5
  exact List.append_cancel_left (List.append_cancel_left h5)
theorem BI.step {s : ByteArray} {L : List OpR} {b : Bool} {n i : Nat} {l : List OpR} {p : Nat} (hC : BatC s L b) (h : BI s L b n i l p false) (hi : i < n) (h6 : i < 6) : BI s L b n (i + 1) (l ++ [(rdOp s p).1]) (rdOp s p).2.1 (rdOp s p).2.2 := by
  refine ⟨by simp [h.len], by omega, rdOp_bd s p h.ps, fun hb => ?_, fun hb => ?_⟩
  · obtain ⟨e1, e2⟩ := h.snd rfl
    refine ⟨?_, e2⟩
    rw [e1, rdOp_snd hb, opsL_append]
    simp [opsL]
  · obtain ⟨_, h2, h3⟩ := h.cmp hb
    have hr := h.rest hC hb
    have hil : i < L.length := by omega
    rw [opsL_drop L i hil] at hr
    have hop := (batch_ops (hC.yes hb).1).2 i hil
    obtain ⟨r1, r2, r3⟩ := rdOp_of hop hr
    refine ⟨r2, h2, ?_⟩
    rw [r1, h3, List.take_add_one, List.getElem?_eq_getElem hil]; rfl
theorem BI.fin {s : ByteArray} {L : List OpR} {b : Bool} {n i : Nat} {l : List OpR} {p : Nat} {bad : Bool} (hC : BatC s L b) (h : BI s L b n i l p bad) (hd : bad = true ∨ ¬ i < n ∨ ¬ i < 6) :
    b = ((!bad && p == s.size) && (l.length == n && batchB l)) ∧ (b = true → L = l) := by
  cases b
  · refine ⟨?_, fun h => by cases h⟩
    rcases hx : ((!bad && p == s.size) && (l.length == n && batchB l)) with _ | _
    · rfl
    · exfalso
      simp only [Bool.and_eq_true, Bool.not_eq_true', beq_iff_eq] at hx
      obtain ⟨⟨h1, h2⟩, h3, h4⟩ := hx
      obtain ⟨e1, e2⟩ := h.snd h1
      refine (hC.no rfl).2 l h4 ?_
      rw [showBL_yes h4, varL_nat (by omega), e1, h3]
      have : rem s p = [] := by rw [h2]; unfold rem; rw [List.drop_of_length_le (by simp)]
      rw [this, List.append_nil]
  · obtain ⟨h1, h2, h3⟩ := h.cmp rfl
    obtain ⟨t1, t2, t3⟩ := hC.text rfl
    have hr := h.rest hC rfl
    have hi : L.length ≤ i := by rcases hd with h | h | h <;> first | (rw [h1] at h; cases h) | omega
    have hl : l = L := by rw [h3, List.take_of_length_le hi]
    have hp : p = s.size := by
      rw [List.drop_of_length_le hi] at hr
      have := congrArg List.length hr
      rw [rem_length] at this
      have h0 : (opsL ([] : List OpR)).length = 0 := rfl
      have := h.ps
      omega
    refine ⟨?_, fun _ => hl.symm⟩
    rw [h1, hp, hl, h2, (hC.yes rfl).1]
    simp
/-- The reference's loop. -/
structure BS (s : ByteArray) (L : List OpR) (b : Bool) (n i : Nat) (l : List OpR) (p : Nat) : Prop where
  len : l.length = i
  le : i ≤ n
  ps : (p : Int) ≤ s.size
  cmp : b = true → n = L.length ∧ l = L.take i ∧ rem s p = opsL (L.drop i)
theorem BS.none {s : ByteArray} {L : List OpR} {b : Bool} (hC : BatC s L b) (hv : takeV s 0 = none) : b = false := by
  cases b
  · rfl
  · obtain ⟨h1, _, h3⟩ := hC.text rfl
    rw [← rem_zero] at h3
    rw [(takeV_of (by omega) h3).1] at hv
    cases hv
theorem BS.big {s : ByteArray} {L : List OpR} {b : Bool} {n p : Nat} (hC : BatC s L b) (hv : takeV s 0 = some (n, p)) (h6 : 6 < n) : b = false := by
  cases b
  · rfl
  · obtain ⟨h1, _, h3⟩ := hC.text rfl
    rw [← rem_zero] at h3
    rw [(takeV_of (by omega) h3).1] at hv
    simp at hv; omega
theorem BS.start {s : ByteArray} {L : List OpR} {b : Bool} {n p : Nat} (hC : BatC s L b) (hv : takeV s 0 = some (n, p)) : BS s L b n 0 [] p := by
  obtain ⟨g1, g2, g3, g4⟩ := takeV_some hv
  refine ⟨rfl, by omega, by omega, fun hb => ?_⟩
  obtain ⟨h1, _, h3⟩ := hC.text hb
  rw [← rem_zero] at h3
  obtain ⟨e1, e2⟩ := takeV_of (by omega) h3
  rw [e1] at hv
  simp only [Option.some.injEq, Prod.mk.injEq] at hv
  obtain ⟨rfl, rfl⟩ := hv
  exact ⟨rfl, by simp, by simpa using e2⟩
/-- An operation read by the reference. -/
def tkOp (s : ByteArray) (p : Nat) (d : Bool) : OpR × Int :=
  if d then (⟨(tkP s ((p : Int) + 1)).1, true, str []⟩, (tkP s ((p : Int) + 1)).2) else (⟨(tkP s ((p : Int) + 1)).1, false, (tkP s (tkP s ((p : Int) + 1)).2).1⟩, (tkP s (tkP s ((p : Int) + 1)).2).2)
theorem tkOp_of {s : ByteArray} {p : Nat} {o : OpR} {r : List UInt8} (hp : p < s.size) (ho : opR o = true) (h : rem s p = opL o ++ r) : ∃ q : Nat, tkOp s p (s[p] == 1) = (o, (q : Int)) ∧ rem s q = r ∧ (q : Int) ≤ s.size := by
  obtain ⟨k1, v1, dv⟩ := opR_sizes ho
  obtain ⟨key, del, val⟩ := o
  simp only at k1 v1 dv
  have hh : rem s p = s[p] :: rem s (p + 1) := by
    unfold rem; rw [List.drop_eq_getElem_cons (by simpa using hp)]; rfl
  have hc : ((p : Int) + 1) = ((p + 1 : Nat) : Int) := by omega
  cases del
  · have h' : s[p] :: rem s (p + 1) = 0 :: (pieL key.data.toList ++ (pieL val.data.toList ++ r)) := by rw [← hh, h]; simp [opL]
    obtain ⟨f1, f2⟩ := List.cons.inj h'
    obtain ⟨a1, a2⟩ := takeP_of (by omega) f2
    obtain ⟨b1, b2⟩ := takeP_of (by omega) a2
    have hb3 := (takeP_some b1).2.2.2.1
    refine ⟨_, ?_, b2, by omega⟩
    unfold tkOp
    rw [if_neg (by rw [f1]; decide), hc, tkP_some a1]
    simp only
    rw [tkP_some b1]
  · have h' : s[p] :: rem s (p + 1) = 1 :: (pieL key.data.toList ++ r) := by rw [← hh, h]; simp [opL]
    obtain ⟨f1, f2⟩ := List.cons.inj h'
    obtain ⟨a1, a2⟩ := takeP_of (by omega) f2
    have hb3 := (takeP_some a1).2.2.2.1
    refine ⟨_, ?_, a2, by omega⟩
    unfold tkOp
    rw [if_pos (by rw [f1]; decide), hc, tkP_some a1, dv rfl]
theorem BS.op {s : ByteArray} {L : List OpR} {b : Bool} {n i : Nat} {l : List OpR} {p : Nat} (hC : BatC s L b) (h : BS s L b n i l p) (hi : i < n) (hb : b = true) : ∃ hil : i < L.length, opR L[i] = true ∧ rem s p = opL L[i] ++ opsL (L.drop (i + 1)) := by
  obtain ⟨h2, h3, h4⟩ := h.cmp hb
  have hil : i < L.length := by omega
  refine ⟨hil, (batch_ops (hC.yes hb).1).2 i hil, ?_⟩
  rw [h4, opsL_drop L i hil]
theorem opL_pos (o : OpR) : 0 < (opL o).length := by unfold opL; split <;> simp
theorem BS.short {s : ByteArray} {L : List OpR} {b : Bool} {n i : Nat} {l : List OpR} {p : Nat} (hC : BatC s L b) (h : BS s L b n i l p) (hi : i < n) (hp : ¬ p < s.size) : b = false := by
  cases b
  · rfl
  · obtain ⟨hil, _, h3⟩ := h.op hC hi rfl
    have := congrArg List.length h3
    rw [rem_length, List.length_append] at this
    have := opL_pos L[i]
    omega
theorem BS.fail {s : ByteArray} {L : List OpR} {b : Bool} {n i : Nat} {l : List OpR} {p : Nat} (hC : BatC s L b) (h : BS s L b n i l p) (hi : i < n) (hp : p < s.size) (hn : (tkOp s p (s[p] == 1)).2 < 0) : b = false := by
  cases b
  · rfl
  · obtain ⟨hil, h1, h3⟩ := h.op hC hi rfl
    obtain ⟨q, hq, _⟩ := tkOp_of hp h1 h3
    rw [hq] at hn
    simp only at hn
    omega
theorem BS.step {s : ByteArray} {L : List OpR} {b : Bool} {n i : Nat} {l : List OpR} {p q : Nat} (hC : BatC s L b) (h : BS s L b n i l p) (hi : i < n) (hp : p < s.size) (hn : (tkOp s p (s[p] == 1)).2 = (q : Int)) (hqs : (q : Int) ≤ s.size) : BS s L b n (i + 1) (l ++ [(tkOp s p (s[p] == 1)).1]) q := by
  refine ⟨by simp [h.len], by omega, hqs, fun hb => ?_⟩
  obtain ⟨hil, h1, h3⟩ := h.op hC hi hb
  obtain ⟨h2, h5, _⟩ := h.cmp hb
  obtain ⟨q', hq, hr, _⟩ := tkOp_of hp h1 h3
  rw [hq] at hn ⊢
  simp only at hn
  obtain rfl : q' = q := by omega
  refine ⟨h2, ?_, hr⟩
  rw [h5, List.take_add_one, List.getElem?_eq_getElem hil]; rfl
theorem BS.fin {s : ByteArray} {L : List OpR} {b : Bool} {n i : Nat} {l : List OpR} {p p0 : Nat} (hC : BatC s L b) (h : BS s L b n i l p) (hv : takeV s 0 = some (n, p0)) (hi : ¬ i < n) :
    b = (decide (l.length ≠ 0) && showBL l == s.data.toList) ∧ (b = true → L = l) := by
  have hle := h.le
  cases b
  · refine ⟨?_, fun h => by cases h⟩
    rcases hx : (decide (l.length ≠ 0) && showBL l == s.data.toList) with _ | _
    · rfl
    · exfalso
      simp only [Bool.and_eq_true, decide_eq_true_eq, beq_iff_eq] at hx
      rcases hb : batchB l with _ | _
      · have h1 := takeV_some hv
        have h2 := hx.2
        rw [showBL_not hb] at h2
        have h3 := congrArg List.length h2
        have : s.data.toList.length = s.size := by simp
        simp at h3
        omega
      · exact (hC.no rfl).2 l hb hx.2
  · obtain ⟨h2, h3, h4⟩ := h.cmp rfl
    have hl : l = L := by rw [h3, List.take_of_length_le (by omega)]
    obtain ⟨t1, t2, t3⟩ := hC.text rfl
    refine ⟨?_, fun _ => hl.symm⟩
    rw [hl, (hC.yes rfl).2]
    have hne : L.length ≠ 0 := by omega
    simp only [hne, ne_eq, not_false_eq_true, decide_true, Bool.true_and]
    exact (beq_self_eq_true _).symm
end Sp
end Go.Proofs.Ytajjefpopjdfaaa
/- Walks: ReadBatch of the program. -/
set_option linter.unusedVariables false
set_option linter.unusedSimpArgs false
namespace Go.Proofs.Ytajjefpopjdfaaa
open Go.RowKit Sp Go.Sort

set_option maxRecDepth 100000 in
set_option maxHeartbeats 1600000 in
theorem implReadBatch (s : ByteArray) (L : List OpR) (b : Bool) (hC : BatC s L b) (w : World) (hs : (s.size : Int) ≤ 1048576) :
    Calls Try.prog 23 #[.string s] w fun e w' => ∃ v', e = .returned (.tuple #[v', .bool b]) ∧ Row OpR.cells 58 3 w.heap.size w'.heap.size w' v' L ∧ Below w.heap.size w w' := by
  have r0 : Rd (w.alloc (.cells #[.string s, .int .i64 0, .bool false] 84)) w.heap.size s 0 false := ⟨84, heap_alloc_new w _⟩
  have b0 : Below w.heap.size w (w.alloc (.cells #[.string s, .int .i64 0, .bool false] 84)) := (Below.refl _ _).alloc (Nat.le_refl _) _
  have HST := Lib.hid (BI.start hC)
  have hbd := rdNum_bdI s 0 false (by omega)
  go_enter Try.func23, Try.ntmps23
  go_wp2_with fail
  refine (number_any w.heap.size 0 s false _ r0 (by omega) hs).mono ?_
  rintro e w1 ⟨rfl, r1, t1⟩
  have x1 := below_touch b0 t1 (Nat.le_refl _) b0.size
  have z1 := t1.size
  rw [World.size_alloc] at z1
  clear r0 b0 t1
  generalize rdNum s 0 false = rn at *
  obtain ⟨n, p0, bad0⟩ := rn
  simp only at r1 hbd
  have hn49 := hbd.2
  clear hbd
  go_wp2_with fail
  go_loopw [6, 7] (fun o i wr => ∃ (k p : Nat) (l : List OpR) (bad : Bool) (ao : Option Addr) (c : Nat), i = .int .i64 k ∧ o = .slice ao k c ∧ RowKit.Hid (BI s L b n k l p bad) ∧ Rd wr w.heap.size s p bad ∧ wr.ownsRow (w.heap.size + 1) 58 3 o k (l.map OpR.cells).flatten ∧ Below w.heap.size w wr) (fun _ i _ => 6 - (intOf i).toNat)
  case atStart => exact ⟨0, p0, [], bad0, none, 0, rfl, rfl, HST, r1, World.ownsRow_nil _ _ _ _, x1⟩
  case round =>
    obtain ⟨k, p, l, bad, ao, c, rfl, rfl, HB, hr, ho, xb⟩ := hrel
    obtain ⟨c0, c1, c2, zf⟩ := hr.facts
    have hp := HB.out.ps
    have zr := hr.lt
    have zr := hr.lt
    have zr := hr.lt
    have zr := hr.lt
    have zr := hr.lt
    by_cases hgo : bad = false ∧ k < n ∧ k < 6
    · obtain ⟨rfl, hn, h6⟩ := hgo
      have HN := Lib.hid (HB.out.step hC hn h6)
      have HO := Lib.hid (show rdOp s p = if (rdFlag s p false).1 then (⟨(rdShort s (rdFlag s p false).2.1 (rdFlag s p false).2.2).1, true, str []⟩, (rdShort s (rdFlag s p false).2.1 (rdFlag s p false).2.2).2)
        else (⟨(rdShort s (rdFlag s p false).2.1 (rdFlag s p false).2.2).1, false, (rdShort s (rdShort s (rdFlag s p false).2.1 (rdFlag s p false).2.2).2.1 (rdShort s (rdFlag s p false).2.1 (rdFlag s p false).2.2).2.2).1⟩,
          (rdShort s (rdShort s (rdFlag s p false).2.1 (rdFlag s p false).2.2).2.1 (rdShort s (rdFlag s p false).2.1 (rdFlag s p false).2.2).2.2).2) from rfl)
      have d2 := rdFlag_bd s p false hp
      go_wp2_with fail
      refine (flag_rd w.heap.size p s false _ hr hp hs).mono ?_
      rintro e w2 ⟨rfl, r2, t2⟩
      have x2 := below_touch xb t2 (Nat.le_refl _) xb.size
      have o2 := own_grown ho t2 (fun k hk e => by have := (ho.lt _ hk).1; have := Option.some.inj e; omega)
      generalize rdFlag s p false = fv at *
      obtain ⟨fl, p2, bad2⟩ := fv
      simp only at r2 d2 HO
      clear hr t2 ho c0 c1 c2 zf
      have d3 := rdShort_bd s p2 bad2 d2
      have B3 := Bx.new w2 #[.string ByteArray.empty, .bool fl, .string ByteArray.empty] 58
      have r3 := Rd.below r2 ((Below.refl w2.heap.size w2).alloc (Nat.le_refl _) (.cells #[.string ByteArray.empty, .bool fl, .string ByteArray.empty] 58))
      have o3 := o2.alloc (.cells #[.string ByteArray.empty, .bool fl, .string ByteArray.empty] 58)
      have x3 := x2.alloc x2.size (.cells #[.string ByteArray.empty, .bool fl, .string ByteArray.empty] 58)
      go_wp2_with fail
      refine (short_rd w.heap.size p2 s bad2 _ r3 d2 hs).mono ?_
      rintro e w4 ⟨rfl, r4, t4⟩
      have x4 := below_touch x3 t4 (Nat.le_refl _) x3.size
      have z2 := r2.lt
      have B4 := B3.grown t4 (by intro e; have := Option.some.inj e; omega)
      have o4 := own_grown o3 t4 (fun k hk e => by have := (o3.lt _ hk).1; have := Option.some.inj e; omega)
      generalize rdShort s p2 bad2 = sv at *
      obtain ⟨ky, p4, bad4⟩ := sv
      simp only at r4 d3 HO
      clear r3 t4 B3 x3
      generalize hbo : w2.heap.size = bo at *
      have r5 : Rd (w4.setCell ⟨bo, 0, none⟩ (.string ky)) w.heap.size s p4 bad4 := Rd.of (r4.bx.far ⟨bo, 0, none⟩ _ (by simp; omega))
      have B5 : Bx (w4.setCell ⟨bo, 0, none⟩ (.string ky)) bo #[.string ky, .bool fl, .string ByteArray.empty] := B4.set 0 _
      have x5 := below_set x4 ⟨bo, 0, none⟩ (.string ky) (by simp; omega)
      have c0 := B4.cell 0 _ rfl
      have c1 := B4.cell 1 _ rfl
      have zf := B4.frozen
      have f0 := B5.cell 0 _ rfl
      have f1 := B5.cell 1 _ rfl
      have f2 := B5.cell 2 _ rfl
      have hne : ∀ k', (Value.slice ao k c).ownBlock = some k' → k' ≠ bo := fun k' hk' => by
        have := (o2.lt _ hk').2; omega
      have o5 := own_far o4 ⟨bo, 0, none⟩ (.string ky) (fun e => hne _ e rfl)
      cases fl
      · simp only [Bool.false_eq_true, if_false] at HO
        go_wp2_with fail
        refine (short_rd w.heap.size p4 s bad4 _ r5 d3.1 hs).mono ?_
        rintro e w6 ⟨rfl, r6, t6⟩
        have x6 := below_touch x5 t6 (Nat.le_refl _) x5.size
        have B6 := B5.grown t6 (by intro e; have := Option.some.inj e; omega)
        have o6 := own_grown o5 t6 (fun k hk e => by have := (o5.lt _ hk).1; have := Option.some.inj e; omega)
        clear c0 c1 zf f0 f1 f2
        have d6 := rdShort_bd s p4 bad4 d3.1
        generalize rdShort s p4 bad4 = sv at *
        obtain ⟨vl, p6, bad6⟩ := sv
        simp only at r6 d6 HO
        have r7 : Rd (w6.setCell ⟨bo, 2, none⟩ (.string vl)) w.heap.size s p6 bad6 := Rd.of (r6.bx.far ⟨bo, 2, none⟩ _ (by simp; omega))
        have B7 : Bx (w6.setCell ⟨bo, 2, none⟩ (.string vl)) bo #[.string ky, .bool false, .string vl] := B6.set 2 _
        have x7 := below_set x6 ⟨bo, 2, none⟩ (.string vl) (by simp; omega)
        have c2 := B6.cell 2 _ rfl
        have zf := B6.frozen
        have o7 := own_far o6 ⟨bo, 2, none⟩ (.string vl) (fun e => hne _ e rfl)
        clear d3 d6
        have q0 := B7.cell 0 _ rfl
        have q1 := B7.cell 1 _ rfl
        have q2 := B7.cell 2 _ rfl
        go_wp2_with (at_builtin; refine app_new rfl rfl Try.underlying25 info_Op rfl (by decide) o7 rfl 1 (by simp [Act.eval]) rfl (by simp [Value.oneCell']) (by omega) x7 (Nat.le_succ _) (by have := r7.lt; omega) ?_; intro v8 w8 r8 x8 g8)
        have R8 := Rd.of (r7.bx.grown g8 (by intro e; have := (o7.lt _ e).1; omega))
        obtain ⟨g, cap, rfl⟩ := own_sl r8 (by omega)
        go_roundw
        case rel => exact ⟨k + 1, _, _, _, _, _, by go_num, rfl, HN.out, by rw [HO.out]; exact R8, by rw [HO.out]; simpa [OpR.cells] using r8, x8⟩
        case measure => simp [intOf]; omega
      · simp only [if_true] at HO
        rw [show str [] = ByteArray.empty from rfl] at HO
        clear d3
        have q0 := B5.cell 0 _ rfl
        have q1 := B5.cell 1 _ rfl
        have q2 := B5.cell 2 _ rfl
        go_wp2_with (at_builtin; refine app_new rfl rfl Try.underlying25 info_Op rfl (by decide) o5 rfl 1 (by simp [Act.eval]) rfl (by simp [Value.oneCell']) (by omega) x5 (Nat.le_succ _) (by have := r5.lt; omega) ?_; intro v8 w8 r8 x8 g8)
        have R8 := Rd.of (r5.bx.grown g8 (by intro e; have := (o5.lt _ e).1; omega))
        obtain ⟨g, cap, rfl⟩ := own_sl r8 (by omega)
        go_roundw
        case rel => exact ⟨k + 1, _, _, _, _, _, by go_num, rfl, HN.out, by rw [HO.out]; exact R8, by rw [HO.out]; simpa [OpR.cells] using r8, x8⟩
        case measure => simp [intOf]; omega
    · have HF := Lib.hid (HB.out.fin hC (by cases bad <;> first | exact .inl rfl | (right; simp only [true_and, Classical.not_and_iff_not_or_not] at hgo; omega)))
      have HL := Lib.hid HB.out.len
      have h66 := HB.out.six
      obtain rfl : k = l.length := HL.out.symm
      clear HB HST
      have hx : (bad = true ∧ (l.length : Int) < min (n : Int) 6) ∨ ¬ (l.length : Int) < min (n : Int) 6 := by
        by_cases h : (l.length : Int) < min (n : Int) 6
        · left; refine ⟨?_, h⟩
          cases bad
          · exact absurd ⟨rfl, by omega, by omega⟩ hgo
          · rfl
        · exact .inr h
      clear hgo
      rcases hx with ⟨hb, hx⟩ | hx
      all_goals
        go_wp2_with fail
        refine (done_any w.heap.size p s bad _ hr hs).mono ?_
        rintro e w2 ⟨rfl, b2⟩
        have x2 := xb.trans (b2.mono xb.size)
        have o2 := own_below ho b2
        clear hr ho c0 c1 c2 zf b2 xb
        try clear hb
        generalize (!bad && p == s.size) = dn at *
        cases dn
        · obtain rfl : b = false := by rw [HF.out.1, Bool.false_and]
          obtain rfl : L = [] := (hC.no rfl).1
          clear hx
          go_wp2
          refine bodyPost_ret (v := .tuple #[.slice none 0 0, .bool false]) (by simp [results, Try.results23, go_sem]) rfl ⟨_, rfl, Row.nil _ _ _, x2⟩
        · simp only [Bool.true_and] at HF
          by_cases hkn : l.length = n
          · rw [beq_iff_eq.2 hkn, Bool.true_and] at HF
            have hg : ((l.length : Int) != (n : Int)) = false := by simp; omega
            have HK := Lib.hid hkn
            have hs2 : SlT OpR.cells 3 w2 (.slice ao l.length c) l := SlT.of_own o2 (fun _ => rfl) (by decide)
            have hl6 : (l.length : Int) ≤ 1048576 := by omega
            clear hkn hx
            go_wp2_with fail
            refine (implBatchOk _ l _ hs2 hl6).mono ?_
            rintro e w3 ⟨rfl, b3⟩
            have x3 := x2.trans (b3.mono x2.size)
            have o3 := own_below o2 b3
            clear hs2 o2 b3 hl6
            rcases hbl : batchB l with _ | _
            · obtain rfl : b = false := by rw [HF.out.1, hbl]
              obtain rfl : L = [] := (hC.no rfl).1
              clear hbl
              go_wp2
              refine bodyPost_ret (v := .tuple #[.slice none 0 0, .bool false]) (by simp [results, Try.results23, go_sem]) rfl ⟨_, rfl, Row.nil _ _ _, x3⟩
            · obtain rfl : b = true := by rw [HF.out.1, hbl]
              have HLL := Lib.hid (HF.out.2 rfl)
              clear hbl
              go_wp2
              refine bodyPost_ret (v := .tuple #[.slice ao l.length c, .bool true]) (by simp [results, Try.results23, go_sem]) rfl ⟨_, rfl, ?_, x3⟩
              rw [HLL.out]
              exact Row.up o3 rfl (Nat.le_succ _)
          · have hne : (l.length == n) = false := by simpa using hkn
            obtain rfl : b = false := by rw [HF.out.1, hne, Bool.false_and]
            obtain rfl : L = [] := (hC.no rfl).1
            have hg : ((l.length : Int) != (n : Int)) = true := by simp; omega
            clear hx hkn hne
            go_wp2
            refine bodyPost_ret (v := .tuple #[.slice none 0 0, .bool false]) (by simp [results, Try.results23, go_sem]) rfl ⟨_, rfl, Row.nil _ _ _, x2⟩
end Go.Proofs.Ytajjefpopjdfaaa
/- Walks: ReadBatch of the reference. -/
set_option linter.unusedVariables false
set_option linter.unusedSimpArgs false
namespace Go.Proofs.Ytajjefpopjdfaaa
open Go.RowKit Sp Go.Sort
theorem u8_one (x : UInt8) : ((x.toNat : Int) == 1) = (x == 1) := by
  rw [Bool.eq_iff_iff, beq_iff_eq, beq_iff_eq]
  constructor
  · intro h; exact UInt8.toNat_inj.1 (by show x.toNat = 1; omega)
  · rintro rfl; rfl

set_option maxRecDepth 100000 in
set_option maxHeartbeats 1600000 in
theorem specReadBatch (s : ByteArray) (L : List OpR) (b : Bool) (hC : BatC s L b) (w : World) (hs : (s.size : Int) ≤ 1048576) :
    Calls Try.prog 22 #[.string s] w fun e w' => ∃ v', e = .returned (.tuple #[v', .bool b]) ∧ SlT OpR.cells 3 w' v' L ∧ Below w.heap.size w w' := by
  have h0 : (w.alloc (.cells #[] 58)).ownsRow w.heap.size 58 3 (.slice (some ⟨w.heap.size, 0, none⟩) 0 0) 0 [] := World.ownsRow_lit w #[] 0 (Nat.le_refl _) (by simp [maxLen]) rfl
  have x0 : Below w.heap.size w (w.alloc (.cells #[] 58)) := (Below.refl _ _).alloc (Nat.le_refl _) _
  have hnil : ∀ (W : World) (a : Addr), SlT OpR.cells 3 W (.slice (some a) 0 0) ([] : List OpR) := fun W a => ⟨some a, 0, rfl, Nat.le_refl _, by decide, fun h => absurd h (by simp)⟩
  rcases hv : takeV s 0 with _ | ⟨n, p0⟩
  · obtain rfl : b = false := BS.none hC hv
    obtain rfl : L = [] := (hC.no rfl).1
    have hv' : tkV s 0 = none := by rw [show (0 : Int) = ((0 : Nat) : Int) from rfl, tkV_nat]; exact hv
    clear hv
    go_enter Try.func22, Try.ntmps22
    go_wp2_with fail
    refine (vars1_none s 0 _ hs hv').mono ?_
    rintro e w1 ⟨g, c, rfl, b1⟩
    have x1 := x0.trans (b1.mono x0.size)
    go_wp2
    refine bodyPost_ret (v := .tuple #[.slice (some ⟨w.heap.size, 0, none⟩) 0 0, .bool false]) (by simp [results, Try.results22, go_sem]) rfl ⟨_, rfl, hnil _ _, x1⟩
  · have hv' : tkV s 0 = some (n, p0) := by rw [show (0 : Int) = ((0 : Nat) : Int) from rfl, tkV_nat]; exact hv
    by_cases h6 : 6 < n
    · obtain rfl : b = false := BS.big hC hv h6
      obtain rfl : L = [] := (hC.no rfl).1
      clear hv
      go_enter Try.func22, Try.ntmps22
      go_wp2_with fail
      refine (vars1_some s 0 n p0 _ hs hv').mono ?_
      rintro e w1 ⟨g, c, rfl, cg, _, _, b1⟩
      have x1 := x0.trans (b1.mono x0.size)
      have hp0 : ¬ (p0 : Int) < 0 := by omega
      clear hv'
      go_wp2
      refine bodyPost_ret (v := .tuple #[.slice (some ⟨w.heap.size, 0, none⟩) 0 0, .bool false]) (by simp [results, Try.results22, go_sem]) rfl ⟨_, rfl, hnil _ _, x1⟩
    · have HV := Lib.hid hv
      have HST := Lib.hid (BS.start hC hv)
      clear hv
      go_enter Try.func22, Try.ntmps22
      go_wp2_with fail
      refine (vars1_some s 0 n p0 _ hs hv').mono ?_
      rintro e w1 ⟨g, c, rfl, cg, g1, g2, b1⟩
      have x1 := x0.trans (b1.mono x0.size)
      have o1 := own_below h0 b1
      have hp0 : ¬ (p0 : Int) < 0 := by omega
      rw [World.size_alloc] at g1
      clear hv' h0 b1
      go_wp2
      go_loopw [4, 6, 7] (fun o a i wr => ∃ (k p : Nat) (l : List OpR) (ao : Option Addr) (cp : Nat), i = .int .i64 k ∧ a = .int .i64 p ∧ o = .slice ao k cp ∧ RowKit.Hid (BS s L b n k l p) ∧ wr.cell? ⟨g, 0, none⟩ = some (.int .i64 n) ∧ g < wr.heap.size ∧ o.ownBlock ≠ some g ∧ wr.ownsRow w.heap.size 58 3 o k (l.map OpR.cells).flatten ∧ Below w.heap.size w wr) (fun _ _ i _ => n - (intOf i).toNat)
      case atStart => exact ⟨0, p0, [], _, _, rfl, rfl, rfl, HST, cg, g2, by simp [Value.ownBlock]; omega, o1, x1⟩
      case round =>
        clear HST o1 x1 cg g2 x0
        obtain ⟨k, p, l, ao, cp, rfl, rfl, rfl, HB, cg, g2, hob, ho, xb⟩ := hrel
        have hp := HB.out.ps
        have hk6 := HB.out.le
        by_cases hk : k < n
        · by_cases hps : p < s.size
          · have W1 : IntKind.i64.wrap ((p : Int) + 1) = (p : Int) + 1 := by rw [IntKind.wrap_i64]; omega
            have hu := u8_one s[p]
            rcases hd : (s[p] == 1) with _ | _
            · have HD := Lib.hid hd
              have HO := Lib.hid (show tkOp s p false = (⟨(tkP s ((p : Int) + 1)).1, false, (tkP s (tkP s ((p : Int) + 1)).2).1⟩, (tkP s (tkP s ((p : Int) + 1)).2).2) from rfl)
              rw [hd] at hu
              clear hd
              go_wp2_with fail
              refine (take_any s ((p : Int) + 1) _ hs).mono ?_
              rintro e w2 ⟨rfl, b2⟩
              have x2 := xb.trans (b2.mono xb.size)
              have o2 := own_below ho b2
              have cg2 := (b2.cell (p := ⟨g, 0, none⟩) g2).trans cg
              have g22 := Nat.lt_of_lt_of_le g2 b2.size
              have d2 := tkP_bd s ((p : Int) + 1)
              clear cg ho
              generalize tkP s ((p : Int) + 1) = tv at *
              obtain ⟨ky, e1⟩ := tv
              simp only at d2 HO
              go_wp2_with fail
              refine (take_any s e1 _ hs).mono ?_
              rintro e w3 ⟨rfl, b3⟩
              have x3 := x2.trans (b3.mono x2.size)
              have o3 := own_below o2 b3
              have cg3 := (b3.cell (p := ⟨g, 0, none⟩) g22).trans cg2
              have g23 := Nat.lt_of_lt_of_le g22 b3.size
              have d3 := tkP_bd s e1
              clear cg2 o2 d2
              generalize tkP s e1 = tv at *
              obtain ⟨vl, e2⟩ := tv
              simp only at d3 HO
              clear b2 b3
              by_cases he : e2 < 0
              · obtain rfl : b = false := HB.out.fail hC hk hps (by rw [HD.out, HO.out]; exact he)
                obtain rfl : L = [] := (hC.no rfl).1
                clear HB
                go_wp2
                refine bodyPost_ret (v := .tuple #[.slice (some ⟨w3.heap.size, 0, none⟩) 0 0, .bool false]) (by simp [results, Try.results22, go_sem]) rfl ⟨_, rfl, hnil _ _, x3.alloc x3.size _⟩
              · obtain ⟨q, rfl⟩ : ∃ q : Nat, e2 = (q : Int) := ⟨e2.toNat, by omega⟩
                have HN := Lib.hid (HB.out.step hC hk hps (q := q) (by rw [HD.out, HO.out]) (by omega))
                clear HB
                go_wp2_with (at_builtin; go_loud (refine app_new_at rfl rfl Try.underlying25 info_Op rfl (by decide) o3 rfl 1 (by simp [Act.eval]) rfl (by simp [Value.oneCell']) (by omega) x3 (Nat.le_refl _) x3.size ?_; intro v8 w8 r8 x8 g8 p8))
                have hb8 : v8.ownBlock ≠ some g := by
                  intro h
                  rcases p8 with p | p <;> rw [p] at h
                  · exact hob h
                  · have := Option.some.inj h; omega
                have c8 := ((gcell g8 (b := g) (by omega) hob).1 0).trans cg3
                have z8 := g8.size
                obtain ⟨g', cap, rfl⟩ := own_sl r8 (by omega)
                go_roundw
                case rel => exact ⟨k + 1, q, _, _, _, by go_num, rfl, rfl, HN, c8, by omega, hb8, by rw [HD.out, HO.out]; simpa [OpR.cells] using r8, x8⟩
                case measure => simp [intOf]; omega
            · have HD := Lib.hid hd
              have HO := Lib.hid (show tkOp s p true = (⟨(tkP s ((p : Int) + 1)).1, true, ⟨#[]⟩⟩, (tkP s ((p : Int) + 1)).2) from rfl)
              rw [hd] at hu
              clear hd
              go_wp2_with fail
              refine (take_any s ((p : Int) + 1) _ hs).mono ?_
              rintro e w2 ⟨rfl, b2⟩
              have x2 := xb.trans (b2.mono xb.size)
              have o2 := own_below ho b2
              have cg2 := (b2.cell (p := ⟨g, 0, none⟩) g2).trans cg
              have g22 := Nat.lt_of_lt_of_le g2 b2.size
              have d2 := tkP_bd s ((p : Int) + 1)
              clear cg ho
              generalize tkP s ((p : Int) + 1) = tv at *
              obtain ⟨ky, e1⟩ := tv
              simp only at d2 HO
              clear b2
              by_cases he : e1 < 0
              · obtain rfl : b = false := HB.out.fail hC hk hps (by rw [HD.out, HO.out]; exact he)
                obtain rfl : L = [] := (hC.no rfl).1
                clear HB
                go_wp2
                refine bodyPost_ret (v := .tuple #[.slice (some ⟨w2.heap.size, 0, none⟩) 0 0, .bool false]) (by simp [results, Try.results22, go_sem]) rfl ⟨_, rfl, hnil _ _, x2.alloc x2.size _⟩
              · obtain ⟨q, rfl⟩ : ∃ q : Nat, e1 = (q : Int) := ⟨e1.toNat, by omega⟩
                have HN := Lib.hid (HB.out.step hC hk hps (q := q) (by rw [HD.out, HO.out]) (by omega))
                clear HB
                go_wp2_with (at_builtin; go_loud (refine app_new_at rfl rfl Try.underlying25 info_Op rfl (by decide) o2 rfl 1 (by simp [Act.eval]) rfl (by simp [Value.oneCell']) (by omega) x2 (Nat.le_refl _) x2.size ?_; intro v8 w8 r8 x8 g8 p8))
                have hb8 : v8.ownBlock ≠ some g := by
                  intro h
                  rcases p8 with p | p <;> rw [p] at h
                  · exact hob h
                  · have := Option.some.inj h; omega
                have c8 := ((gcell g8 (b := g) (by omega) hob).1 0).trans cg2
                have z8 := g8.size
                obtain ⟨g', cap, rfl⟩ := own_sl r8 (by omega)
                go_roundw
                case rel => exact ⟨k + 1, q, _, _, _, by go_num, rfl, rfl, HN, c8, by omega, hb8, by rw [HD.out, HO.out]; simpa [OpR.cells] using r8, x8⟩
                case measure => simp [intOf]; omega
          · obtain rfl : b = false := HB.out.short hC hk hps
            obtain rfl : L = [] := (hC.no rfl).1
            clear HB
            go_wp2
            refine bodyPost_ret (v := .tuple #[.slice (some ⟨wr.heap.size, 0, none⟩) 0 0, .bool false]) (by simp [results, Try.results22, go_sem]) rfl ⟨_, rfl, hnil _ _, xb.alloc xb.size _⟩
        · have HF := Lib.hid (HB.out.fin hC HV.out hk)
          have HL := Lib.hid HB.out.len
          obtain rfl : k = l.length := HL.out.symm
          clear HB HV
          have hs2 : SlT OpR.cells 3 wr (.slice ao l.length cp) l := SlT.of_own ho (fun _ => rfl) (by decide)
          have hl6 : (l.length : Int) ≤ 1048576 := by omega
          by_cases h0 : l.length = 0
          · obtain rfl : l = [] := List.eq_nil_of_length_eq_zero h0
            obtain rfl : b = false := by rw [HF.out.1]; rfl
            obtain rfl : L = [] := (hC.no rfl).1
            clear h0
            go_wp2
            refine bodyPost_ret (v := .tuple #[.slice (some ⟨wr.heap.size, 0, none⟩) 0 0, .bool false]) (by simp [results, Try.results22, go_sem]) rfl ⟨_, rfl, hnil _ _, xb.alloc xb.size _⟩
          · have hlen0 : decide (l.length ≠ 0) = true := by simpa using h0
            have HF2 := Lib.hid (show b = (showBL l == s.data.toList) ∧ (b = true → L = l) from ⟨by rw [HF.out.1, hlen0, Bool.true_and], HF.out.2⟩)
            clear hlen0
            have hcmp : ((str (showBL l)).toList == s.toList) = (showBL l == s.data.toList) := by rw [str_toList, toList_data]
            clear HF
            go_wp2_with fail
            refine (specShowBatch _ l _ hs2 hl6).mono ?_
            rintro e w2 ⟨rfl, b2⟩
            have x2 := xb.trans (b2.mono xb.size)
            have hs3 := hs2.below b2
            clear hs2 b2
            rcases hq : (showBL l == s.data.toList) with _ | _
            · obtain rfl : b = false := by rw [HF2.out.1, hq]
              obtain rfl : L = [] := (hC.no rfl).1
              rw [hq] at hcmp
              clear hq
              go_wp2
              refine bodyPost_ret (v := .tuple #[.slice (some ⟨w2.heap.size, 0, none⟩) 0 0, .bool false]) (by simp [results, Try.results22, go_sem]) rfl ⟨_, rfl, hnil _ _, x2.alloc x2.size _⟩
            · obtain rfl : b = true := by rw [HF2.out.1, hq]
              have HLL := Lib.hid (HF2.out.2 rfl)
              rw [hq] at hcmp
              clear hq
              go_wp2
              refine bodyPost_ret (v := .tuple #[.slice ao l.length cp, .bool true]) (by simp [results, Try.results22, go_sem]) rfl ⟨_, rfl, ?_, x2⟩
              rw [HLL.out]
              exact hs3
end Go.Proofs.Ytajjefpopjdfaaa
/- Walks: OpenBatch of both sides. -/
set_option linter.unusedVariables false
set_option linter.unusedSimpArgs false
namespace Go.Proofs.Ytajjefpopjdfaaa
open Go.RowKit Sp Go.Sort
attribute [local go_sem] str_size str_append
namespace Sp
def opnG (key : ByteArray) (boot seq : Int) : Bool := decide ((key.size : Int) = 32) && placeB boot seq
def opnL (key : ByteArray) (boot seq : Int) (L : List OpR) : List OpR := if opnG key boot seq then L else []
def opnT (key : ByteArray) (boot seq : Int) (s : ByteArray) : ByteArray := str (chaS key 0 (str (nonceL 3 (boot * 1000000 + seq))) s)
theorem opnT_size (key : ByteArray) (boot seq : Int) (s : ByteArray) : (opnT key boot seq s).size = 0 ∨ (opnT key boot seq s).size = s.size := by
  unfold opnT
  rw [str_size]
  unfold chaS
  split
  · right; rw [stT_length]
  · left; rfl
theorem opnT_le (key : ByteArray) (boot seq : Int) (s : ByteArray) : (opnT key boot seq s).size ≤ s.size := by
  rcases opnT_size key boot seq s with h | h <;> omega
theorem BatC.long {t : ByteArray} {L : List OpR} {b : Bool} (hC : BatC t L b) (h : t.size = 0 ∨ 300 < t.size) : b = false := by
  cases b
  · rfl
  · exfalso
    obtain ⟨h1, h2⟩ := hC.yes rfl
    have h3 := showBL_len L
    have h4 := congrArg List.length h2
    have h5 : t.data.toList.length = t.size := by simp
    rw [showBL_yes h1, List.length_append] at h4
    have h6 : 1 ≤ (varL (L.length : Int)).length := by
      rw [varL_nat (by have := hC.len; omega)]; exact varB_pos _
    rw [showBL_yes h1, List.length_append] at h3
    omega
end Sp

set_option maxRecDepth 100000 in
set_option maxHeartbeats 1600000 in
theorem specOpenBatch (key : ByteArray) (boot seq : Int) (s : ByteArray) (L : List OpR) (b : Bool) (hC : BatC (opnT key boot seq s) L b) (w : World) (hs : (s.size : Int) ≤ 1048576) :
    Calls Try.prog 35 #[.string key, .int .i64 boot, .int .i64 seq, .string s] w fun e w' => ∃ v', e = .returned (.tuple #[v', .bool (opnG key boot seq && b)]) ∧ SlT OpR.cells 3 w' v' (opnL key boot seq L) ∧ Below w.heap.size w w' := by
  have hnil : ∀ (W : World) (a : Addr), SlT OpR.cells 3 W (.slice (some a) 0 0) ([] : List OpR) := fun W a => ⟨some a, 0, rfl, Nat.le_refl _, by decide, fun h => absurd h (by simp)⟩
  by_cases hk : (key.size : Int) = 32
  · rcases hp : (inB boot 0 1000 && inB seq 0 999999) with _ | _
    · have HG := Lib.hid (show opnG key boot seq = false by unfold opnG placeB; rw [hp, Bool.and_false])
      have HL := Lib.hid (show opnL key boot seq L = [] by unfold opnL; rw [HG.out]; rfl)
      go_enter Try.func35, Try.ntmps35
      go_wp2_with (go_at_call 61; refine (l8At_any _ _ _).mono ?_; rintro e w' ⟨rfl, rfl⟩; rw [hp])
      refine bodyPost_ret (v := .tuple #[.slice (some ⟨w.heap.size, 0, none⟩) 0 0, .bool false]) (by simp [results, Try.results35, go_sem]) rfl ⟨_, by rw [HG.out]; rfl, by rw [HL.out]; exact hnil _ _, (Below.refl _ _).alloc (Nat.le_refl _) _⟩
    · have HG := Lib.hid (show opnG key boot seq = true by unfold opnG placeB; rw [hp, Bool.and_true]; exact decide_eq_true hk)
      have HL := Lib.hid (show opnL key boot seq L = L by unfold opnL; rw [HG.out]; rfl)
      have hpp := hp
      rw [Bool.and_eq_true, inB_iff, inB_iff] at hpp
      obtain ⟨hp1, hp2⟩ := hpp
      go_enter Try.func35, Try.ntmps35
      go_wp2_with (first | (go_at_call 61; refine (l8At_any _ _ _).mono ?_; rintro e w' ⟨rfl, rfl⟩; rw [hp]) | fail)
      go_wp2_with fail
      refine (specNonce _ _ _).mono ?_
      rintro e w2 ⟨rfl, b2⟩
      go_wp2_with fail
      refine (specChaStream _ _ _ _ _ hs).mono ?_
      rintro e w4 ⟨rfl, b4⟩
      have x4 := b2.trans (b4.mono b2.size)
      have hsz : ((opnT key boot seq s).size : Int) ≤ 1048576 := by have := opnT_le key boot seq s; omega
      go_wp2_with fail
      refine (specReadBatch (opnT key boot seq s) L b hC _ hsz).mono ?_
      rintro e w5 ⟨v5, rfl, h5, b5⟩
      have x5 := x4.trans (b5.mono x4.size)
      obtain ⟨ao, cp, hv5, _⟩ := h5.shape
      subst hv5
      clear hsz
      go_wp2
      refine bodyPost_ret (v := .tuple #[.slice ao L.length cp, .bool b]) (by simp [results, Try.results35, go_sem]) rfl ⟨_, by rw [HG.out, Bool.true_and], by rw [HL.out]; exact h5, x5⟩
  · have HG := Lib.hid (show opnG key boot seq = false by unfold opnG; rw [decide_eq_false hk, Bool.false_and])
    have HL := Lib.hid (show opnL key boot seq L = [] by unfold opnL; rw [HG.out]; rfl)
    go_enter Try.func35, Try.ntmps35
    go_wp2_with (go_at_call 61; refine (l8At_any _ _ _).mono ?_; rintro e w' ⟨rfl, rfl⟩)
    refine bodyPost_ret (v := .tuple #[.slice (some ⟨w.heap.size, 0, none⟩) 0 0, .bool false]) (by simp [results, Try.results35, go_sem]) rfl ⟨_, by rw [HG.out]; rfl, by rw [HL.out]; exact hnil _ _, (Below.refl _ _).alloc (Nat.le_refl _) _⟩

set_option maxRecDepth 100000 in
set_option maxHeartbeats 1600000 in
theorem implOpenBatch (key : ByteArray) (boot seq : Int) (s : ByteArray) (L : List OpR) (b : Bool) (hC : BatC (opnT key boot seq s) L b) (w : World) (hs : (s.size : Int) ≤ 1048576) :
    Calls Try.prog 36 #[.string key, .int .i64 boot, .int .i64 seq, .string s] w fun e w' => ∃ v', e = .returned (.tuple #[v', .bool (opnG key boot seq && b)]) ∧ Row OpR.cells 58 3 w.heap.size w'.heap.size w' v' (opnL key boot seq L) ∧ Below w.heap.size w w' := by
  by_cases hk : (key.size : Int) = 32
  · rcases hp : (inB boot 0 1000 && inB seq 0 999999) with _ | _
    · have HG := Lib.hid (show opnG key boot seq = false by unfold opnG placeB; rw [hp, Bool.and_false])
      have HL := Lib.hid (show opnL key boot seq L = [] by unfold opnL; rw [HG.out]; rfl)
      go_enter Try.func36, Try.ntmps36
      go_wp2_with (go_at_call 64; refine (isPlace_any _ _ _).mono ?_; rintro e w' ⟨rfl, rfl⟩; rw [hp])
      refine bodyPost_ret (v := .tuple #[.slice none 0 0, .bool false]) (by simp [results, Try.results36, go_sem]) rfl ⟨_, by rw [HG.out]; rfl, by rw [HL.out]; exact Row.nil _ _ _, Below.refl _ _⟩
    · have HG := Lib.hid (show opnG key boot seq = true by unfold opnG placeB; rw [hp, Bool.and_true]; exact decide_eq_true hk)
      have HL := Lib.hid (show opnL key boot seq L = L by unfold opnL; rw [HG.out]; rfl)
      have hpp := hp
      rw [Bool.and_eq_true, inB_iff, inB_iff] at hpp
      obtain ⟨hp1, hp2⟩ := hpp
      by_cases h3 : (300 : Int) < s.size
      · obtain rfl : b = false := hC.long (by have := opnT_size key boot seq s; omega)
        obtain rfl : L = [] := (hC.no rfl).1
        go_enter Try.func36, Try.ntmps36
        go_wp2_with (go_at_call 64; refine (isPlace_any _ _ _).mono ?_; rintro e w' ⟨rfl, rfl⟩; rw [hp])
        refine bodyPost_ret (v := .tuple #[.slice none 0 0, .bool false]) (by simp [results, Try.results36, go_sem]) rfl ⟨_, by rw [HG.out]; rfl, by rw [HL.out]; exact Row.nil _ _ _, Below.refl _ _⟩
      · go_enter Try.func36, Try.ntmps36
        go_wp2_with (first | (go_at_call 64; refine (isPlace_any _ _ _).mono ?_; rintro e w' ⟨rfl, rfl⟩; rw [hp]) | fail)
        go_wp2_with fail
        refine (rowNonce_any _ _ _ hp1 hp2).mono ?_
        rintro e w2 ⟨rfl, b2⟩
        go_wp2_with fail
        refine (implChaStream _ _ _ _ _ hs).mono ?_
        rintro e w4 ⟨rfl, b4⟩
        have x4 := b2.trans (b4.mono b2.size)
        have hsz : ((opnT key boot seq s).size : Int) ≤ 1048576 := by have := opnT_le key boot seq s; omega
        go_wp2_with fail
        refine (implReadBatch (opnT key boot seq s) L b hC _ hsz).mono ?_
        rintro e w5 ⟨v5, rfl, h5, b5⟩
        have x5 := x4.trans (b5.mono x4.size)
        have h6 := h5.wide x4.size (Nat.le_refl _)
        obtain ⟨ao, cp, hv5⟩ := h5.form
        subst hv5
        clear hsz h5
        go_wp2
        refine bodyPost_ret (v := .tuple #[.slice ao L.length cp, .bool b]) (by simp [results, Try.results36, go_sem]) rfl ⟨_, by rw [HG.out, Bool.true_and], by rw [HL.out]; exact h6, x5⟩
  · have HG := Lib.hid (show opnG key boot seq = false by unfold opnG; rw [decide_eq_false hk, Bool.false_and])
    have HL := Lib.hid (show opnL key boot seq L = [] by unfold opnL; rw [HG.out]; rfl)
    go_enter Try.func36, Try.ntmps36
    go_wp2_with (go_at_call 64; refine (isPlace_any _ _ _).mono ?_; rintro e w' ⟨rfl, rfl⟩)
    refine bodyPost_ret (v := .tuple #[.slice none 0 0, .bool false]) (by simp [results, Try.results36, go_sem]) rfl ⟨_, by rw [HG.out]; rfl, by rw [HL.out]; exact Row.nil _ _ _, Below.refl _ _⟩
end Go.Proofs.Ytajjefpopjdfaaa
/- Walk: the law of OpenBatch. -/
set_option linter.unusedVariables false
set_option linter.unusedSimpArgs false
namespace Go.Proofs.Ytajjefpopjdfaaa
open Go.RowKit Sp Go.Sort

set_option maxRecDepth 100000 in
set_option maxHeartbeats 1600000 in
theorem walkFnExactOpenBatch (w : World) (a0 : ByteArray) (y0 : a0.size ≤ maxLen) (a1 : Int) (y1 : (Lit.int .i64 a1).wf = true) (a2 : Int) (y2 : (Lit.int .i64 a2).wf = true) (a3 : ByteArray) (y3 : a3.size ≤ maxLen) :
    Calls Try.prog 9 #[.string a0, .int .i64 a1, .int .i64 a2, .string a3] w fun e w' => e = .returned (.bool true) ∧ Below w.heap.size w w' := by
  have hal : ∀ (W : World) (o : Obj), RowKit.Below W.heap.size W (W.alloc o) := fun W o => (Below.refl _ _).alloc (Nat.le_refl _) _
  by_cases hbig0 : (1048576 : Int) < a0.size
  · go_enter Try.func9, Try.ntmps9
    go_wp2
    go_ret
    exact ⟨rfl, (Below.refl _ _)⟩
  by_cases hbig3 : (1048576 : Int) < a3.size
  · go_enter Try.func9, Try.ntmps9
    go_wp2
    go_ret
    exact ⟨rfl, (Below.refl _ _)⟩
  obtain ⟨L, b, hC⟩ := BatC.exists (opnT a0 a1 a2 a3)
  have r0 : ((opnL a0 a1 a2 L).length : Int) ≤ 1048576 := by unfold opnL; split; exact hC.len; simp
  go_enter Try.func9, Try.ntmps9
  go_wp2_with (go_at_call 35; refine (specOpenBatch a0 a1 a2 a3 L b hC _ (by omega)).mono ?_; rintro e w1 ⟨vu, rfl, Ru, b1⟩; have c1 := Below.trans (Below.refl w.heap.size w) (b1.mono (Below.size (Below.refl w.heap.size w))); have z1 := b1.size; have ux := Ru; obtain ⟨aou, cpu, hqu, _⟩ := Ru.shape; subst hqu; clear Ru)
  go_wp2_with (go_at_call 36; refine (implOpenBatch a0 a1 a2 a3 L b hC _ (by omega)).mono ?_; rintro e w2 ⟨vg, rfl, Rg, b2⟩; have c2 := Below.trans c1 (b2.mono (Below.size c1)); have z2 := b2.size; have cu2 := Below.trans (Below.refl w1.heap.size w1) (b2.mono (Below.size (Below.refl w1.heap.size w1))); have g_2 := Rg; obtain ⟨aog, cpg, hqg⟩ := Rg.form; subst hqg)
  go_wp2_with (go_at_call 14; refine (eqOpS_any _ _ _ _ (g_2.slT (fun _ => rfl) (by decide)) (ux.below cu2) r0).mono ?_; rintro e w3 ⟨rfl, b3⟩; have c3 := Below.trans c2 (b3.mono (Below.size c2)); have z3 := b3.size; have cu3 := Below.trans cu2 (b3.mono (Below.size cu2)); have g_3 := g_2.below b3)
  go_wp2_with (go_at_call 24; refine (markOpS_rowi _ _ _ 1 (by rfl) _ _ _ g_3 (by omega) (by omega)).mono ?_; rintro e w4 ⟨rfl, g_4, t4⟩; have c4 : RowKit.Below w.heap.size w w4 := Below.trans c3 (t4.below (by omega) (by omega)); have z4 := t4.size; have cu4 := Below.trans cu3 (t4.below (by omega) (Below.size cu3)))
  go_wp2_with (go_at_call 25; refine (heldOpS_rowi _ _ 1 _ (by rfl) _ _ _ g_4 (by omega) (by omega)).mono ?_; rintro e w5 ⟨rfl, b5⟩; have c5 := Below.trans c4 (b5.mono (Below.size c4)); have z5 := b5.size; have cu5 := Below.trans cu4 (b5.mono (Below.size cu4)); have g_5 := g_4.below b5)
  go_wp2_with (go_at_call 36; refine (implOpenBatch a0 a1 a2 a3 L b hC _ (by omega)).mono ?_; rintro e w6 ⟨vh, rfl, Rh, b6⟩; have c6 := Below.trans c5 (b6.mono (Below.size c5)); have z6 := b6.size; have cu6 := Below.trans cu5 (b6.mono (Below.size cu5)); have g_6 := g_5.below b6; have h_6 := Rh; obtain ⟨aoh, cph, hqh⟩ := Rh.form; subst hqh)
  go_wp2_with (go_at_call 14; refine (eqOpS_any _ _ _ _ (h_6.slT (fun _ => rfl) (by decide)) (ux.below cu6) r0).mono ?_; rintro e w7 ⟨rfl, b7⟩; have c7 := Below.trans c6 (b7.mono (Below.size c6)); have z7 := b7.size; have cu7 := Below.trans cu6 (b7.mono (Below.size cu6)); have g_7 := g_6.below b7; have h_7 := h_6.below b7)
  go_wp2_with (go_at_call 25; refine (heldOpS_rowi _ _ 1 _ (by rfl) _ _ _ g_7 (by omega) (by omega)).mono ?_; rintro e w8 ⟨rfl, b8⟩; have c8 := Below.trans c7 (b8.mono (Below.size c7)); have z8 := b8.size; have cu8 := Below.trans cu7 (b8.mono (Below.size cu7)); have g_8 := g_7.below b8; have h_8 := h_7.below b8)
  go_wp2
  go_ret
  exact ⟨rfl, c8⟩
end Go.Proofs.Ytajjefpopjdfaaa
set_option linter.unusedVariables false
set_option linter.unusedSimpArgs false
namespace Go.Proofs.Ytajjefpopjdfaaa.lawFnExactOpenBatch
open Go.ChangeShapes Go.WideShapes Go.ChangeAt Go.RowKit
open Go.ChangeMaps (open_string shut_string)

theorem own : ownKnob Try.prog.godebug = none := by kernel_rfl
theorem laidOut : laidOutB Try.prog = true := by kernel_rfl

set_option maxRecDepth 100000 in
theorem lifted (os : Os) (started : os.Started) (H : Type) (enc : TypeId × Value → H) :
    ReturnsInHanded {} Try.checked os 9 .any (Rows.fnExactOpenBatchSpec.pre6 enc Try.prog Try.f9 Rows.fnExactOpenBatchRow.domain false) (Rows.fnExactOpenBatchSpec.post enc Try.prog Try.f9 false true false false) := by
  refine returnsInHanded_of_change (C := Try.checked) own started (by kernel_rfl) Try.func9
    (ChangeSpec.witness6 (enc := enc) (C := Try.checked) false ⟨#[], #[.string ByteArray.empty, .int .i64 0, .int .i64 0, .string ByteArray.empty], []⟩ 8 (by kernel_rfl) (by kernel_rfl) (by kernel_rfl) (by kernel_rfl)) ?_
  intro W base args ds gs before hval0 hW hcnd _
  have hval : ∀ (j : Nat) t v, Try.f9.params[j]? = some t → args[j]? = some v → Value.okWide Try.prog W .any base t v := hval0
  have hW' := hW
  obtain ⟨p, q, hA0, hV, rfl, hfz, hnd⟩ := hW
  have hA : DataW.TrodAll enc Try.prog W 0 (fun _ => true) true Try.f9.params.toList args.toList ds p := hA0
  rw [Try.params9] at hA hval
  obtain ⟨v0, vs0, d0, ds0, p0, q0, hargs, rfl, rfl, h0, r0⟩ := trodAll_cons hA
  obtain ⟨v1, vs1, d1, ds1, p1, q1, rfl, rfl, rfl, h1, r1⟩ := trodAll_cons r0
  obtain ⟨v2, vs2, d2, ds2, p2, q2, rfl, rfl, rfl, h2, r2⟩ := trodAll_cons r1
  obtain ⟨v3, vs3, d3, ds3, p3, q3, rfl, rfl, rfl, h3, r3⟩ := trodAll_cons r2
  obtain ⟨rfl, rfl, rfl⟩ := trodAll_nil r3
  obtain rfl : args = #[v0, v1, v2, v3] := by cases args; simp_all
  obtain ⟨rfl, rfl⟩ := trodVars_none hV
  obtain ⟨a0, rfl, rfl, rfl, w0⟩ := open_string Try.underlying9 (hval 0 9 v0 rfl rfl) h0
  obtain ⟨a1, rfl, rfl, rfl, w1⟩ := open_int Try.underlying3 (hval 1 3 v1 rfl rfl) h1
  obtain ⟨a2, rfl, rfl, rfl, w2⟩ := open_int Try.underlying3 (hval 2 3 v2 rfl rfl) h2
  obtain ⟨a3, rfl, rfl, rfl, w3⟩ := open_string Try.underlying9 (hval 3 9 v3 rfl rfl) h3
  clear hA0 hval0
  refine (walkFnExactOpenBatch W a0 w0 a1 w1 a2 w2 a3 w3).mono fun e W' ⟨he, bel⟩ => ?_
  subst he
  exact ⟨_, rfl, _, _, _, [], _, [], hW', trodAll_mk1 (shut_bool Try.underlying4 _), (trodAll_cons_mk (shut_string Try.underlying9 w0) (trodAll_cons_mk (shut_int Try.underlying3 w1) (trodAll_cons_mk (shut_int Try.underlying3 w2) (trodAll_cons_mk (shut_string Try.underlying9 w3) trodAll_mk0)))), rfl, bel.frame _, fun h => by cases h⟩

theorem over : Rows.fnExactOpenBatchRow.holds Try.pinned (OpenSpec.ofChange Rows.fnExactOpenBatchSpec) :=
  OpenClaim.holds_of_wide 9 Try.f9 rfl rfl rfl rfl rfl rfl rfl ⟨rfl, rfl, rfl, rfl, rfl⟩ rfl rfl rfl rfl rfl (by kernel_rfl) Try.func9 (by kernel_rfl)
    (of_decide_eq_true (by kernel_rfl)) (by unfold Func.isWrapper; first | (rw [if_pos (by decide +kernel)]; kernel_rfl) | (rw [if_neg (by decide +kernel)]; exact ⟨rfl, rfl⟩))
    (fun os started H enc _ => lifted os started H enc)

/-- The statement. -/
theorem proved : Rows.FnExactOpenBatchSaid := over
#print axioms proved
end Go.Proofs.Ytajjefpopjdfaaa.lawFnExactOpenBatch

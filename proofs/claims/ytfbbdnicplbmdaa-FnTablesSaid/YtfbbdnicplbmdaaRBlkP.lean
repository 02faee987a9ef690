
/- Plain: reading a block of entries back. No program in sight. -/
import Derived.Test.YtfbbdnicplbmdaaBlkP
import Derived.Test.YtfbbdnicplbmdaaTakeW
import Derived.Test.YtfbbdnicplbmdaaReadFixed
set_option linter.unusedVariables false
set_option linter.unusedSimpArgs false
namespace Go.Proofs.Ytfbbdnicplbmdaa
open Sp
namespace Sp
/-- L is what the string is the text of, if b; else it is the text of none. -/
structure BlkC (s : ByteArray) (L : List EntR) (b : Bool) : Prop where
  yes : b = true → blockB L = true ∧ showBlkL L = s.data.toList
  no : b = false → L = [] ∧ ∀ l, blockB l = true → showBlkL l ≠ s.data.toList
theorem BlkC.exists (s : ByteArray) : ∃ L b, BlkC s L b := by
  by_cases h : ∃ L, blockB L = true ∧ showBlkL L = s.data.toList
  · obtain ⟨L, h⟩ := h
    exact ⟨L, true, ⟨fun _ => h, fun h => by cases h⟩⟩
  · exact ⟨[], false, ⟨(fun h => by cases h), fun _ => ⟨rfl, fun l h1 h2 => h ⟨l, h1, h2⟩⟩⟩⟩
theorem BlkC.text {s : ByteArray} {L : List EntR} {b : Bool} (h : BlkC s L b) (hb : b = true) : L.length ≤ 16 ∧ 1 ≤ L.length ∧ entsB L = true ∧ s.data.toList = showKL L := by
  obtain ⟨h1, h2⟩ := h.yes hb
  rw [showBlkL_yes h1] at h2
  unfold blockB at h1
  rw [Bool.and_eq_true, inB_iff] at h1
  exact ⟨by omega, by omega, h1.2, h2.symm⟩
theorem BlkC.len {s : ByteArray} {L : List EntR} {b : Bool} (h : BlkC s L b) : (L.length : Int) ≤ 16 := by
  cases b
  · rw [(h.no rfl).1]; simp
  · have := (h.text rfl).1; omega
theorem comm_take : ∀ s t : List UInt8, s.take (comm s t) = t.take (comm s t)
  | [], [] => rfl
  | [], _ :: _ => by simp [comm]
  | _ :: _, [] => by simp [comm]
  | a :: s, b :: t => by
    unfold comm
    by_cases h : a = b
    · rw [if_pos h, List.take_succ_cons, List.take_succ_cons, comm_take s t, h]
    · rw [if_neg h]; rfl
theorem entL_pos (n : Nat) (e : EntR) : 1 ≤ (entL n e).length := by
  have h5 : ((if e.del then [1] else [0] : List UInt8)).length = 1 := by split <;> rfl
  unfold entL
  simp only [List.length_append, h5]
  omega
theorem blkTo_pre {L : List EntR} (i d : Nat) (h : i + d ≤ L.length) : (∃ t, blkTo L (i + d) = blkTo L i ++ t) ∧ (blkTo L i).length + d ≤ (blkTo L (i + d)).length := by
  induction d with
  | zero => exact ⟨⟨[], by simp⟩, by simp⟩
  | succ d ih =>
    obtain ⟨⟨t, ht⟩, hl⟩ := ih (by omega)
    have hs := blkTo_step (l := L) (k := i + d) (by omega)
    rw [← Nat.add_assoc, hs]
    have := entL_pos (shr L (i + d)) (L[i + d]'(by omega))
    exact ⟨⟨t ++ entL (shr L (i + d)) (L[i + d]'(by omega)), by rw [ht, List.append_assoc]⟩, by rw [List.length_append]; omega⟩
/-- The key of the last entry. -/
def lastK (l : List EntR) : ByteArray := match l.getLast? with | some e => e.key | none => str []
theorem lastK_snoc (l : List EntR) (e : EntR) : lastK (l ++ [e]) = e.key := by simp [lastK]
theorem lastK_take {L : List EntR} {i : Nat} (h : i < L.length) (h0 : ¬ i = 0) : lastK (L.take i) = (L[i - 1]'(by omega)).key := by
  have : L.take i = L.take (i - 1) ++ [L[i - 1]'(by omega)] := by
    have := List.take_succ_eq_append_getElem (l := L) (i := i - 1) (by omega)
    rwa [Nat.sub_add_cancel (by omega)] at this
  rw [this, lastK_snoc]
/-- Where the entries end. -/
def endOf (s : ByteArray) : Nat := (readFixedL (s.extract (s.size - 2) s.size).data.toList 2).1
theorem endOf_le (s : ByteArray) : (endOf s : Int) ≤ 562949953421311 := by
  unfold endOf readFixedL
  split
  · have := beVal_le6 (l := (s.extract (s.size - 2) s.size).data.toList.take (2 : Int).toNat) (by rw [List.length_take]; simp; omega)
    simp only
    omega
  · simp
theorem beVal_two (n : Nat) (h : n < 65536) : beVal (beB 2 n) = n := by
  have e : beB 2 n = [UInt8.ofNat (n / 256), UInt8.ofNat n] := rfl
  have e1 : (UInt8.ofNat (n / 256)).toNat = n / 256 := by simp; omega
  have e2 : (UInt8.ofNat n).toNat = n % 256 := by simp
  rw [e]
  simp only [beVal, List.foldl_cons, List.foldl_nil, e1, e2]
  omega
theorem BlkC.end_eq {s : ByteArray} {L : List EntR} {b : Bool} (h : BlkC s L b) (hb : b = true) : endOf s = (blkTo L L.length).length ∧ endOf s + 2 ≤ s.size := by
  obtain ⟨h16, _, he, ht⟩ := h.text hb
  have hl := blkTo_len he L.length (Nat.le_refl _)
  have hf : fixedL ((blkTo L L.length).length : Int) 2 = beB 2 (blkTo L L.length).length := by
    unfold fixedL
    rw [if_pos (by decide)]
    exact fixedN_zero (by show (blkTo L L.length).length / 256 ^ 2 = 0; omega)
  have hsz : s.data.toList.length = s.size := by simp
  have hA : s.data.toList = (blkTo L L.length ++ (varL (plcTo L L.length).length ++ plcL (plcTo L L.length))) ++ beB 2 (blkTo L L.length).length := by
    rw [ht]; unfold showKL; rw [hf]; simp
  have hlen := congrArg List.length hA
  rw [List.length_append, List.length_append, beB_length, hsz] at hlen
  have hex : (s.extract (s.size - 2) s.size).data.toList = beB 2 (blkTo L L.length).length := by
    rw [ext_from, hA]
    rw [List.drop_append_of_le_length (by rw [List.length_append]; omega), List.drop_of_length_le (by rw [List.length_append]; omega), List.nil_append]
  have hee : endOf s = (blkTo L L.length).length := by
    unfold endOf readFixedL
    rw [hex, if_pos ⟨by decide, by rw [beB_length]; decide⟩]
    simp only
    rw [List.take_of_length_le (by rw [beB_length]; decide)]
    exact beVal_two _ (by omega)
  exact ⟨hee, by omega⟩
/-- What stands at the beginning of entry i. -/
theorem BlkC.ent {s : ByteArray} {L : List EntR} {b : Bool} (h : BlkC s L b) (hb : b = true) {i : Nat} (hi : i < L.length) :
    ∃ p1 p2 p3 p5, takeV s (blkTo L i).length = some (shr L i, p1) ∧ takeP s p1 = some (str (L[i].key.data.toList.drop (shr L i)), p2) ∧ takeV s p2 = some (L[i].seq.toNat, p3) ∧
      rem s p3 = flagL L[i].del ++ rem s (p3 + 1) ∧ p3 < s.size ∧ takeP s (p3 + 1) = some (L[i].val, p5) ∧ p5 = (blkTo L (i + 1)).length ∧ shr L i ≤ (lastK (L.take i)).size ∧
      (lastK (L.take i)).extract 0 (shr L i) ++ str (L[i].key.data.toList.drop (shr L i)) = L[i].key ∧ ((L[i].seq.toNat : Nat) : Int) = L[i].seq := by
  obtain ⟨h16, _, he, ht⟩ := h.text hb
  obtain ⟨hk, hv⟩ := entsB_sizes he i hi
  have hsq : 0 ≤ L[i].seq ∧ L[i].seq ≤ 1000000 := by
    have h1 := allIx_spec he i hi
    have : entB L[i] = true := by
      by_cases h0 : i = 0
      · rwa [entAt_first hi h0] at h1
      · rw [entAt_next hi h0 (by omega)] at h1
        simp only [Bool.and_eq_true] at h1
        exact h1.1
    simp only [entB, Bool.and_eq_true, inB_iff] at this
    exact this.2
  have hshr := shr_le hi
  obtain ⟨⟨t, hpre⟩, _⟩ := blkTo_pre (L := L) (i + 1) (L.length - (i + 1)) (by omega)
  rw [show i + 1 + (L.length - (i + 1)) = L.length from by omega, blkTo_step hi] at hpre
  obtain ⟨u, hu⟩ : ∃ u, s.data.toList = blkTo L i ++ (entL (shr L i) L[i] ++ u) := ⟨t ++ (varL (plcTo L L.length).length ++ (plcL (plcTo L L.length) ++ fixedL ((blkTo L L.length).length : Int) 2)), by rw [ht]; unfold showKL; rw [hpre]; simp⟩
  have hsz : s.data.toList.length = s.size := by simp
  have r0 : rem s (blkTo L i).length = entL (shr L i) L[i] ++ u := by unfold rem; rw [hu]; simp
  have r1 : rem s (blkTo L (i + 1)).length = u := by rw [blkTo_step hi, List.length_append, ← rem_drop, r0]; simp
  have hn : (L[i].seq.toNat : Int) = L[i].seq := by omega
  have hf : (if L[i].del then [1] else [0] : List UInt8) = flagL L[i].del := rfl
  have hE : entL (shr L i) L[i] ++ u = varB (shr L i) ++ (pieL (str (L[i].key.data.toList.drop (shr L i))).data.toList ++ (varB L[i].seq.toNat ++ (flagL L[i].del ++ (pieL L[i].val.data.toList ++ u)))) := by
    unfold entL
    rw [str_data, varL_nat (by omega), ← hn, varL_nat (by omega), Int.toNat_natCast, hf]
    simp
  rw [hE] at r0
  obtain ⟨a1, a2⟩ := takeV_of (by omega) r0
  obtain ⟨b1, b2⟩ := takeP_of (by rw [str_size, List.length_drop]; simp; omega) a2
  obtain ⟨c1, c2⟩ := takeV_of (by omega) b2
  obtain ⟨d1, d2⟩ := rdFlag_of c2
  obtain ⟨f1, f2⟩ := takeP_of (by omega) d2
  refine ⟨_, _, _, _, a1, b1, c1, by rw [c2, d2], ?_, f1, ?_, ?_, ?_, hn⟩
  · have hl := congrArg List.length c2
    rw [rem_length, List.length_append] at hl
    have : (flagL L[i].del).length = 1 := by unfold flagL; split <;> rfl
    omega
  · have g1 := (takeP_some f1).2.2.2.1
    have g2 := congrArg List.length (f2.trans r1.symm)
    rw [rem_length, rem_length] at g2
    have g3 : (blkTo L (i + 1)).length ≤ s.size := by
      have := congrArg List.length hu
      rw [hsz, List.length_append, List.length_append] at this
      rw [blkTo_step hi, List.length_append]
      omega
    have g4 := congrArg List.length r1
    rw [rem_length] at g4
    omega
  · by_cases h0 : i % 4 = 0
    · rw [shr_zero h0]; omega
    · rw [lastK_take hi (by omega), shr_next h0 hi (by omega), comm_symm]
      have := comm_le (L[i - 1]'(by omega)).key.data.toList L[i].key.data.toList
      simpa using this
  · by_cases h0 : i % 4 = 0
    · rw [shr_zero h0, ext_str, List.drop_zero, List.drop_zero]
      rw [str_append]
      simp [str_of]
    · rw [lastK_take hi (by omega), shr_next h0 hi (by omega), ext_str, List.drop_zero, Nat.sub_zero]
      rw [comm_symm, comm_take (L[i - 1]'(by omega)).key.data.toList L[i].key.data.toList, str_append, List.take_append_drop, str_of]
/-- The loops of both. -/
structure KI (s : ByteArray) (L : List EntR) (b : Bool) (i : Nat) (l : List EntR) (p : Nat) (bad : Bool) (last : ByteArray) : Prop where
  len : l.length = i
  six : i ≤ 16
  ps : (p : Int) ≤ s.size
  ls : (last.size : Int) ≤ i * 1048576
  cmp : b = true → bad = false ∧ l = L.take i ∧ i ≤ L.length ∧ p = (blkTo L i).length ∧ last = lastK (L.take i)
theorem KI.start (s : ByteArray) (L : List EntR) (b : Bool) : KI s L b 0 [] 0 false ByteArray.empty :=
  ⟨rfl, by omega, by omega, by simp, fun _ => ⟨rfl, by simp, by omega, rfl, rfl⟩⟩
theorem KI.lt {s : ByteArray} {L : List EntR} {b : Bool} {i : Nat} {l : List EntR} {p : Nat} {bad : Bool} {last : ByteArray} (hC : BlkC s L b) (h : KI s L b i l p bad last) (hb : b = true) (hi : p < endOf s) : i < L.length := by
  obtain ⟨_, _, h3, h4, _⟩ := h.cmp hb
  rw [(hC.end_eq hb).1, h4] at hi
  rcases Nat.lt_or_ge i L.length with h | h
  · exact h
  · have : i = L.length := by omega
    rw [this] at hi; omega
theorem KI.over {s : ByteArray} {L : List EntR} {b : Bool} {i : Nat} {l : List EntR} {p : Nat} {last : ByteArray} (hC : BlkC s L b) (h : KI s L b i l p false last) (hi : p < endOf s) {n p1 : Nat} {b1 : Bool} (e1 : rdNum s p false = (n, p1, b1)) (hn : last.size < n) : b = false := by
  cases b
  · rfl
  · have hlt := h.lt hC rfl hi
    obtain ⟨_, _, _, h4, h5⟩ := h.cmp rfl
    obtain ⟨q1, q2, q3, q5, t1, _, _, _, _, _, _, t8, _⟩ := hC.ent rfl hlt
    rw [← h4] at t1
    rw [rdNum_some t1] at e1
    simp only [Prod.mk.injEq] at e1
    rw [← h5] at t8
    omega
theorem KI.ls_next {last k : ByteArray} {s : ByteArray} {i n : Nat} (hs : (s.size : Int) ≤ 1048576) (h : (last.size : Int) ≤ i * 1048576) (hk : (k.size : Int) ≤ s.size) : ((last.extract 0 n ++ k).size : Int) ≤ ((i + 1 : Nat) : Int) * 1048576 := by
  rw [ByteArray.size_append, ByteArray.size_extract]
  omega
theorem KI.step {s : ByteArray} {L : List EntR} {b : Bool} {i : Nat} {l : List EntR} {p : Nat} {last : ByteArray} (hC : BlkC s L b) (h : KI s L b i l p false last) (hs : (s.size : Int) ≤ 1048576) (hi : p < endOf s) (h16 : i < 16)
    {n p1 : Nat} {b1 : Bool} {k : ByteArray} {p2 : Nat} {b2 : Bool} {q p3 : Nat} {b3 : Bool} {d : Bool} {p4 : Nat} {b4 : Bool} {v : ByteArray} {p5 : Nat} {b5 : Bool}
    (e1 : rdNum s p false = (n, p1, b1)) (e2 : rdShort s p1 b1 = (k, p2, b2)) (e3 : rdNum s p2 b2 = (q, p3, b3)) (e4 : rdFlag s p3 b3 = (d, p4, b4)) (e5 : rdShort s p4 b4 = (v, p5, b5)) :
    KI s L b (i + 1) (l ++ [⟨last.extract 0 n ++ k, (q : Int), d, v⟩]) p5 b5 (last.extract 0 n ++ k) := by
  have m1 := rdNum_bdI s p false h.ps
  rw [e1] at m1
  have m2 := rdShort_bd s p1 b1 m1.1
  rw [e2] at m2
  have m3 := rdNum_bdI s p2 b2 m2.1
  rw [e3] at m3
  have m4 := rdFlag_bd s p3 b3 m3.1
  rw [e4] at m4
  have m5 := rdShort_bd s p4 b4 m4
  rw [e5] at m5
  refine ⟨by simp [h.len], by omega, m5.1, KI.ls_next hs h.ls m2.2, fun hb => ?_⟩
  have hlt := h.lt hC hb hi
  obtain ⟨_, h2, h3, h4, h5⟩ := h.cmp hb
  obtain ⟨q1, q2, q3, q5, t1, t2, t3, t4, t5, t6, t7, t8, t9, t10⟩ := hC.ent hb hlt
  rw [← h4] at t1
  rw [rdNum_some t1] at e1
  simp only [Prod.mk.injEq] at e1
  obtain ⟨rfl, rfl, rfl⟩ := e1
  rw [rdShort_some t2] at e2
  simp only [Prod.mk.injEq] at e2
  obtain ⟨rfl, rfl, rfl⟩ := e2
  rw [rdNum_some t3] at e3
  simp only [Prod.mk.injEq] at e3
  obtain ⟨rfl, rfl, rfl⟩ := e3
  rw [(rdFlag_of t4).1] at e4
  simp only [Prod.mk.injEq] at e4
  obtain ⟨rfl, rfl, rfl⟩ := e4
  rw [rdShort_some t6] at e5
  simp only [Prod.mk.injEq] at e5
  obtain ⟨rfl, rfl, rfl⟩ := e5
  rw [← h5] at t9
  rw [t9, t10]
  have hL : L.take (i + 1) = L.take i ++ [L[i]] := List.take_succ_eq_append_getElem hlt
  exact ⟨rfl, by rw [h2, hL], by omega, t7, by rw [hL, lastK_snoc]⟩
theorem KI.fin {s : ByteArray} {L : List EntR} {b : Bool} {i : Nat} {l : List EntR} {p : Nat} {bad : Bool} {last : ByteArray} (hC : BlkC s L b) (h : KI s L b i l p bad last) (h2 : 2 ≤ s.size) (hd : b = true → (bad = true ∨ ¬ p < endOf s ∨ ¬ i < 16)) :
    b = (!bad && (decide (l.length ≠ 0) && showBlkL l == s.data.toList)) ∧ (b = true → L = l) := by
  cases b
  · refine ⟨?_, fun h => by cases h⟩
    rcases hx : (!bad && (decide (l.length ≠ 0) && showBlkL l == s.data.toList)) with _ | _
    · rfl
    · exfalso
      simp only [Bool.and_eq_true, decide_eq_true_eq, beq_iff_eq] at hx
      have hsz : s.data.toList.length = s.size := by simp
      rcases hb : blockB l with _ | _
      · have h3 := hx.2.2
        rw [showBlkL_not hb] at h3
        have h4 := congrArg List.length h3
        rw [hsz] at h4
        simp at h4
        omega
      · exact (hC.no rfl).2 l hb hx.2.2
  · obtain ⟨e1, e2, e3, e4, e5⟩ := h.cmp rfl
    obtain ⟨t1, t2, t3, t4⟩ := hC.text rfl
    have hil : i = L.length := by
      rcases hd rfl with h | h | h
      · rw [e1] at h; cases h
      · rw [(hC.end_eq rfl).1, e4] at h
        have := (blkTo_pre (L := L) i (L.length - i) (by omega)).2
        rw [show i + (L.length - i) = L.length from by omega] at this
        omega
      · omega
    have hl : l = L := by rw [e2, hil, List.take_length]
    refine ⟨?_, fun _ => hl.symm⟩
    have hne : L.length ≠ 0 := by omega
    rw [hl, e1, (hC.yes rfl).2]
    simp only [hne, ne_eq, not_false_eq_true, decide_true, Bool.true_and, Bool.not_false]
    exact (beq_self_eq_true _).symm
/-- The reference's steps. -/
theorem KI.s1 {s : ByteArray} {L : List EntR} {b : Bool} {i : Nat} {l : List EntR} {p : Nat} {last : ByteArray} (hC : BlkC s L b) (h : KI s L b i l p false last) (hi : p < endOf s) (e : takeV s p = none) : b = false := by
  cases b
  · rfl
  · obtain ⟨q1, q2, q3, q5, t1, _⟩ := hC.ent rfl (h.lt hC rfl hi)
    rw [← (h.cmp rfl).2.2.2.1, e] at t1; cases t1
theorem KI.sv {s : ByteArray} {L : List EntR} {b : Bool} {i : Nat} {l : List EntR} {p : Nat} {last : ByteArray} (hC : BlkC s L b) (h : KI s L b i l p false last) (hi : p < endOf s) {n p1 : Nat} (e1 : takeV s p = some (n, p1)) (hb : b = true) :
    ∃ hlt : i < L.length, ∃ p2 p3 p5 : Nat, n = shr L i ∧ tkP s p1 = (str (L[i].key.data.toList.drop (shr L i)), (p2 : Int)) ∧ takeV s p2 = some (L[i].seq.toNat, p3) ∧ ∃ h3 : p3 < s.size, (s[p3] == 1) = L[i].del ∧ tkP s ((p3 : Int) + 1) = (L[i].val, (p5 : Int)) ∧ p5 = (blkTo L (i + 1)).length ∧ last.extract 0 n ++ str (L[i].key.data.toList.drop (shr L i)) = L[i].key ∧ ((L[i].seq.toNat : Nat) : Int) = L[i].seq ∧ p1 ≤ s.size := by
  have hlt := h.lt hC hb hi
  obtain ⟨_, h2, h3, h4, h5⟩ := h.cmp hb
  obtain ⟨q1, q2, q3, q5, t1, t2, t3, t4, t5, t6, t7, t8, t9, t10⟩ := hC.ent hb hlt
  rw [← h4, e1] at t1
  simp only [Option.some.injEq, Prod.mk.injEq] at t1
  obtain ⟨rfl, rfl⟩ := t1
  rw [← h5] at t9
  refine ⟨hlt, q2, q3, q5, rfl, tkP_some t2, t3, t5, ?_, ?_, t7, t9, t10, (takeV_some e1).2.2.2⟩
  · have hh : rem s q3 = s[q3] :: rem s (q3 + 1) := by
      unfold rem; rw [List.drop_eq_getElem_cons (by simpa using t5)]; rfl
    rw [hh] at t4
    have := (List.cons.inj (t4.trans (show flagL L[i].del ++ rem s (q3 + 1) = (if L[i].del then 1 else 0) :: rem s (q3 + 1) by unfold flagL; split <;> rfl))).1
    rw [this]
    cases L[i].del <;> rfl
  · have := tkP_some t6
    rwa [show (((q3 + 1 : Nat)) : Int) = (q3 : Int) + 1 from by omega] at this
theorem KI.s2 {s : ByteArray} {L : List EntR} {b : Bool} {i : Nat} {l : List EntR} {p : Nat} {last : ByteArray} (hC : BlkC s L b) (h : KI s L b i l p false last) (hi : p < endOf s) {n p1 : Nat} (e1 : takeV s p = some (n, p1)) {k : ByteArray} {e2 : Int} (h2 : tkP s p1 = (k, e2)) (h3 : tkV s e2 = none) : b = false := by
  cases b
  · rfl
  · obtain ⟨hlt, p2, p3, p5, _, t2, t3, _⟩ := h.sv hC hi e1 rfl
    rw [t2] at h2
    simp only [Prod.mk.injEq] at h2
    rw [← h2.2, tkV_nat, t3] at h3; cases h3
theorem KI.s3 {s : ByteArray} {L : List EntR} {b : Bool} {i : Nat} {l : List EntR} {p : Nat} {last : ByteArray} (hC : BlkC s L b) (h : KI s L b i l p false last) (hi : p < endOf s) {n p1 : Nat} (e1 : takeV s p = some (n, p1)) {k : ByteArray} {e2 : Int} (h2 : tkP s p1 = (k, e2)) {q p3 : Nat} (h3 : tkV s e2 = some (q, p3)) (h4 : ¬ p3 < s.size) : b = false := by
  cases b
  · rfl
  · obtain ⟨hlt, q2, q3, q5, _, t2, t3, t4, _⟩ := h.sv hC hi e1 rfl
    rw [t2] at h2
    simp only [Prod.mk.injEq] at h2
    rw [← h2.2, tkV_nat, t3] at h3
    simp only [Option.some.injEq, Prod.mk.injEq] at h3
    omega
theorem KI.s5 {s : ByteArray} {L : List EntR} {b : Bool} {i : Nat} {l : List EntR} {p : Nat} {last : ByteArray} (hC : BlkC s L b) (h : KI s L b i l p false last) (hi : p < endOf s) {n p1 : Nat} (e1 : takeV s p = some (n, p1)) {k : ByteArray} {e2 : Int} (h2 : tkP s p1 = (k, e2)) {q p3 : Nat} (h3 : tkV s e2 = some (q, p3)) {v : ByteArray} {e5 : Int} (h5 : tkP s ((p3 : Int) + 1) = (v, e5)) (hn : e5 < 0) : b = false := by
  cases b
  · rfl
  · obtain ⟨hlt, q2, q3, q5, _, t2, t3, t4, t5, t6, _⟩ := h.sv hC hi e1 rfl
    rw [t2] at h2
    simp only [Prod.mk.injEq] at h2
    rw [← h2.2, tkV_nat, t3] at h3
    simp only [Option.some.injEq, Prod.mk.injEq] at h3
    rw [h3.2, h5] at t6
    simp only [Prod.mk.injEq] at t6
    omega
theorem KI.sstep {s : ByteArray} {L : List EntR} {b : Bool} {i : Nat} {l : List EntR} {p : Nat} {last : ByteArray} (hC : BlkC s L b) (h : KI s L b i l p false last) (hs : (s.size : Int) ≤ 1048576) (hi : p < endOf s) (h16 : i < 16) {n p1 : Nat} (e1 : takeV s p = some (n, p1)) {k : ByteArray} {e2 : Int} (h2 : tkP s p1 = (k, e2)) {q p3 : Nat} (h3 : tkV s e2 = some (q, p3)) (h4 : p3 < s.size) {v : ByteArray} {p5 : Nat} (h5 : tkP s ((p3 : Int) + 1) = (v, (p5 : Int))) :
    KI s L b (i + 1) (l ++ [⟨last.extract 0 n ++ k, (q : Int), s[p3] == 1, v⟩]) p5 false (last.extract 0 n ++ k) := by
  have m2 := tkP_bd s p1
  rw [h2] at m2
  have m5 := tkP_bd s ((p3 : Int) + 1)
  rw [h5] at m5
  refine ⟨by simp [h.len], by omega, m5.1, KI.ls_next hs h.ls m2.2.2, fun hb => ?_⟩
  obtain ⟨_, g2, g3, g4, g5⟩ := h.cmp hb
  obtain ⟨hlt, q2, q3, q5, rfl, t2, t3, t4, t5, t6, t7, t8, t9, _⟩ := h.sv hC hi e1 hb
  rw [t2] at h2
  simp only [Prod.mk.injEq] at h2
  obtain ⟨rfl, rfl⟩ := h2
  rw [tkV_nat, t3] at h3
  simp only [Option.some.injEq, Prod.mk.injEq] at h3
  obtain ⟨rfl, rfl⟩ := h3
  rw [h5] at t6
  simp only [Prod.mk.injEq] at t6
  obtain ⟨rfl, hp⟩ := t6
  obtain rfl : p5 = q5 := by omega
  rw [t8, t9, t5]
  have hL : L.take (i + 1) = L.take i ++ [L[i]] := List.take_succ_eq_append_getElem hlt
  exact ⟨rfl, by rw [g2, hL], by omega, t7, by rw [hL, lastK_snoc]⟩
end Sp
end Go.Proofs.Ytfbbdnicplbmdaa

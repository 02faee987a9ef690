/- Plain: rows of a log, one after another. No program in sight. -/
import Derived.Test.YtoflclofcnpjlaaShowW
import Derived.Test.YtoflclofcnpjlaaTakeW
set_option linter.unusedVariables false
set_option linter.unusedSimpArgs false
namespace Go.Proofs.Ytoflclofcnpjlaa
open Sp
namespace Sp
theorem fixed4_len (l : List UInt8) : (fixedL (crcV l) 4).length = 4 := by
  have hb := crcV_bd l
  obtain ⟨m, hm⟩ := Int.eq_ofNat_of_zero_le hb.1
  rw [hm]
  have : fixedL (m : Int) 4 = beB 4 m := by
    unfold fixedL; rw [if_pos (by omega)]
    exact fixedN_zero (Nat.div_eq_of_lt (by show m < 4294967296; omega))
  rw [this, beB_length]
/-- At p the row R stands, and ends at q. -/
structure RowAt (s : ByteArray) (p : Nat) (R : RowR) (q : Nat) : Prop where
  ok : rowB R = true
  sync : R.sync = false
  txt : rem s p = showRowL R ++ rem s q
  le : q ≤ s.size
  pl : p ≤ s.size
theorem RowAt.len {s : ByteArray} {p q : Nat} {R : RowR} (h : RowAt s p R q) : q = p + (showRowL R).length := by
  have h1 := congrArg List.length h.txt
  rw [List.length_append, rem_length, rem_length] at h1
  have := h.le; have := h.pl
  omega
theorem showRowL_len {R : RowR} (h : rowB R = true) : 4 ≤ (showRowL R).length := by
  rw [showRowL_ok h]; unfold sumL; rw [List.length_append, fixed4_len]; omega
theorem RowAt.lt {s : ByteArray} {p q : Nat} {R : RowR} (h : RowAt s p R q) : p + 4 ≤ q := by
  have := h.len; have := showRowL_len h.ok; omega
theorem row_nums {R : RowR} (h : rowB R = true) : (1 ≤ R.ten ∧ R.ten ≤ 99) ∧ (0 ≤ R.boot ∧ R.boot ≤ 1000) ∧ (0 ≤ R.seq ∧ R.seq ≤ 999999) ∧ (R.text.size : Int) ≤ 300 := by
  simp only [rowB, Bool.and_eq_true, inB_iff, decide_eq_true_eq] at h
  exact ⟨h.1.1, h.1.2.1, h.1.2.2, h.2⟩
theorem RowAt.rd {s : ByteArray} {p q : Nat} {R : RowR} (h : RowAt s p R q) : ∃ p1 p2 p3, takeV s (p + 4) = some (R.ten.toNat, p1) ∧ takeV s p1 = some (R.boot.toNat, p2) ∧ takeV s p2 = some (R.seq.toNat, p3) ∧ takeP s p3 = some (R.text, q) ∧
    ((R.ten.toNat : Nat) : Int) = R.ten ∧ ((R.boot.toNat : Nat) : Int) = R.boot ∧ ((R.seq.toNat : Nat) : Int) = R.seq := by
  obtain ⟨n1, n2, n3, n4⟩ := row_nums h.ok
  have e1 : (R.ten.toNat : Int) = R.ten := by omega
  have e2 : (R.boot.toNat : Int) = R.boot := by omega
  have e3 : (R.seq.toNat : Int) = R.seq := by omega
  have ht := h.txt
  rw [showRowL_ok h.ok] at ht
  have r0 : rem s (p + 4) = varB R.ten.toNat ++ (varB R.boot.toNat ++ (varB R.seq.toNat ++ (pieL R.text.data.toList ++ rem s q))) := by
    rw [← rem_drop, ht]
    unfold sumL rowS
    rw [← varL_nat (by omega), ← varL_nat (by omega), ← varL_nat (by omega), e1, e2, e3, List.append_assoc, List.drop_append_of_le_length (by rw [fixed4_len]; omega), List.drop_of_length_le (by rw [fixed4_len]; omega)]
    simp
  obtain ⟨a1, a2⟩ := takeV_of (by omega) r0
  obtain ⟨b1, b2⟩ := takeV_of (by omega) a2
  obtain ⟨c1, c2⟩ := takeV_of (by omega) b2
  obtain ⟨d1, d2⟩ := takeP_of (by omega) c2
  refine ⟨_, _, _, a1, b1, c1, ?_, e1, e2, e3⟩
  rw [d1]
  have g1 := (takeP_some d1).2.2.2.1
  have g2 := congrArg List.length d2
  rw [rem_length, rem_length] at g2
  have := h.le
  rw [show p + 4 + (varB R.ten.toNat).length + (varB R.boot.toNat).length + (varB R.seq.toNat).length + (pieL R.text.data.toList).length = q from by omega]
theorem RowAt.uniq {s : ByteArray} {p q q' : Nat} {R R' : RowR} (h : RowAt s p R q) (h' : RowAt s p R' q') : R = R' ∧ q = q' := by
  obtain ⟨p1, p2, p3, a1, a2, a3, a4, e1, e2, e3⟩ := h.rd
  obtain ⟨q1, q2, q3, b1, b2, b3, b4, f1, f2, f3⟩ := h'.rd
  rw [a1] at b1; simp only [Option.some.injEq, Prod.mk.injEq] at b1; obtain ⟨c1, rfl⟩ := b1
  rw [a2] at b2; simp only [Option.some.injEq, Prod.mk.injEq] at b2; obtain ⟨c2, rfl⟩ := b2
  rw [a3] at b3; simp only [Option.some.injEq, Prod.mk.injEq] at b3; obtain ⟨c3, rfl⟩ := b3
  rw [a4] at b4; simp only [Option.some.injEq, Prod.mk.injEq] at b4; obtain ⟨c4, rfl⟩ := b4
  refine ⟨?_, rfl⟩
  have hs := h.sync.trans h'.sync.symm
  obtain ⟨t, b, sq, tx, sy⟩ := R
  obtain ⟨t', b', sq', tx', sy'⟩ := R'
  simp only at *
  subst c4 hs
  simp only [RowR.mk.injEq, and_true]
  refine ⟨by omega, by omega, by omega⟩
/-- The rows from p on, and where they end. -/
inductive ScanC (s : ByteArray) : Nat → List RowR → Nat → Prop
  | stop (p : Nat) (h : ∀ R q, ¬ RowAt s p R q) : ScanC s p [] p
  | step (p : Nat) (R : RowR) (q : Nat) (rows : List RowR) (e : Nat) (h : RowAt s p R q) (t : ScanC s q rows e) : ScanC s p (R :: rows) e
theorem ScanC.exists (s : ByteArray) : ∀ (n p : Nat), p ≤ s.size → s.size - p ≤ n → ∃ rows e, ScanC s p rows e := by
  intro n
  induction n with
  | zero =>
    intro p hp hn
    refine ⟨[], p, .stop p fun R q h => ?_⟩
    have := h.lt; have := h.le; omega
  | succ n ih =>
    intro p hp hn
    by_cases h : ∃ R q, RowAt s p R q
    · obtain ⟨R, q, h⟩ := h
      obtain ⟨rows, e, t⟩ := ih q h.le (by have := h.lt; omega)
      exact ⟨_, _, .step p R q rows e h t⟩
    · exact ⟨[], p, .stop p fun R q hh => h ⟨R, q, hh⟩⟩
theorem ScanC.len {s : ByteArray} {p e : Nat} {rows : List RowR} (h : ScanC s p rows e) (hp : p ≤ s.size) : p + rows.length ≤ s.size := by
  induction h with
  | stop p h => simpa using hp
  | step p R q rows e h t ih =>
    have := ih h.le
    have := h.lt
    rw [List.length_cons]; omega
theorem ScanC.none {s : ByteArray} {p e : Nat} {rows : List RowR} (h : ScanC s p rows e) (hn : ∀ R q, ¬ RowAt s p R q) : rows = [] ∧ e = p := by
  cases h with
  | stop p h => exact ⟨rfl, rfl⟩
  | step p R q rows e h t => exact absurd h (hn R q)
theorem ScanC.some {s : ByteArray} {p e : Nat} {rows : List RowR} (h : ScanC s p rows e) {R : RowR} {q : Nat} (hr : RowAt s p R q) : ∃ rs, rows = R :: rs ∧ ScanC s q rs e := by
  cases h with
  | stop p h => exact absurd hr (h R q)
  | step p R' q' rows e h t =>
    obtain ⟨rfl, rfl⟩ := hr.uniq h
    exact ⟨rows, rfl, t⟩
/-- Three numbers and a piece, as the reference reads them. -/
theorem three_some {s : ByteArray} {p : Nat} {xs : List Nat} {e e' : Int} {t : ByteArray} (h1 : takeVs s p 3 = (xs, e)) (h2 : tkP s e = (t, e')) (he : ¬ e' < 0) :
    ∃ n1 n2 n3 p1 p2 p3 q : Nat, xs = [n1, n2, n3] ∧ takeV s p = some (n1, p1) ∧ takeV s p1 = some (n2, p2) ∧ takeV s p2 = some (n3, p3) ∧ takeP s p3 = some (t, q) ∧ e' = (q : Int) := by
  have hneg : ∀ {a : Int}, a < 0 → tkP s a = (t, e') → False := fun ha h => by
    rw [tkP_neg ha] at h
    simp only [Prod.mk.injEq] at h
    omega
  simp only [takeVs] at h1
  rcases a1 : takeV s p with _ | ⟨n1, p1⟩
  · rw [a1] at h1; simp only [Prod.mk.injEq] at h1
    exact (hneg (a := e) (by omega) h2).elim
  · rw [a1] at h1
    simp only at h1
    rcases a2 : takeV s p1 with _ | ⟨n2, p2⟩
    · rw [a2] at h1; simp only [Prod.mk.injEq] at h1
      exact (hneg (a := e) (by omega) h2).elim
    · rw [a2] at h1
      simp only at h1
      rcases a3 : takeV s p2 with _ | ⟨n3, p3⟩
      · rw [a3] at h1; simp only [Prod.mk.injEq] at h1
        exact (hneg (a := e) (by omega) h2).elim
      · rw [a3] at h1
        simp only [Prod.mk.injEq] at h1
        obtain ⟨rfl, rfl⟩ := h1
        rw [tkP_nat] at h2
        rcases a4 : takeP s p3 with _ | ⟨t', q⟩
        · rw [a4] at h2; simp only [Prod.mk.injEq] at h2; omega
        · rw [a4] at h2; simp only [Prod.mk.injEq] at h2
          obtain ⟨rfl, rfl⟩ := h2
          exact ⟨n1, n2, n3, p1, p2, p3, q, rfl, rfl, a2, a3, a4, rfl⟩
theorem RowAt.three {s : ByteArray} {p q : Nat} {R : RowR} (h : RowAt s p R q) {xs : List Nat} {e e' : Int} {t : ByteArray} (h1 : takeVs s (p + 4) 3 = (xs, e)) (h2 : tkP s e = (t, e')) : e' = (q : Int) := by
  obtain ⟨p1, p2, p3, a1, a2, a3, a4, _⟩ := h.rd
  simp only [takeVs, a1, a2, a3] at h1
  simp only [Prod.mk.injEq] at h1
  rw [← h1.2, tkP_nat, a4] at h2
  simp only [Prod.mk.injEq] at h2
  exact h2.2.symm
/-- The text of the row read, compared with the string. -/
theorem RowAt.of {s : ByteArray} {p q n1 n2 n3 p1 p2 p3 : Nat} {t : ByteArray} (hp : p ≤ s.size) (a1 : takeV s (p + 4) = some (n1, p1)) (a2 : takeV s p1 = some (n2, p2)) (a3 : takeV s p2 = some (n3, p3)) (a4 : takeP s p3 = some (t, q)) :
    (showRowL ⟨n1, n2, n3, t, false⟩ ≠ [] ∧ showRowL ⟨n1, n2, n3, t, false⟩ = (rem s p).take (q - p) → RowAt s p ⟨n1, n2, n3, t, false⟩ q) ∧
    (∀ R q', RowAt s p R q' → R = ⟨n1, n2, n3, t, false⟩ ∧ q' = q ∧ showRowL ⟨n1, n2, n3, t, false⟩ ≠ [] ∧ showRowL ⟨n1, n2, n3, t, false⟩ = (rem s p).take (q - p)) := by
  have b1 := takeV_some a1
  have b2 := takeV_some a2
  have b3 := takeV_some a3
  have b4 := takeP_some a4
  refine ⟨fun ⟨h1, h2⟩ => ?_, fun R q' h => ?_⟩
  · have hb : rowB ⟨n1, n2, n3, t, false⟩ = true := by
      rcases hx : rowB ⟨n1, n2, n3, t, false⟩ with _ | _
      · exact absurd (showRowL_not hx) h1
      · rfl
    refine ⟨hb, rfl, ?_, b4.2.2.2.1, hp⟩
    rw [h2]
    have : rem s q = (rem s p).drop (q - p) := by rw [rem_drop]; congr 1; omega
    rw [this, List.take_append_drop]
  · obtain ⟨q1, q2, q3, c1, c2, c3, c4, e1, e2, e3⟩ := h.rd
    rw [a1] at c1; simp only [Option.some.injEq, Prod.mk.injEq] at c1; obtain ⟨g1, rfl⟩ := c1
    rw [a2] at c2; simp only [Option.some.injEq, Prod.mk.injEq] at c2; obtain ⟨g2, rfl⟩ := c2
    rw [a3] at c3; simp only [Option.some.injEq, Prod.mk.injEq] at c3; obtain ⟨g3, rfl⟩ := c3
    rw [a4] at c4; simp only [Option.some.injEq, Prod.mk.injEq] at c4; obtain ⟨g4, rfl⟩ := c4
    have hR : R = ⟨n1, n2, n3, t, false⟩ := by
      have hs := h.sync
      obtain ⟨x1, x2, x3, x4, x5⟩ := R
      simp only at *
      subst g4 hs
      simp only [RowR.mk.injEq, and_true]
      refine ⟨by omega, by omega, by omega⟩
    subst hR
    refine ⟨rfl, rfl, ?_, ?_⟩
    · intro h0
      have := showRowL_len h.ok
      rw [h0] at this; simp at this
    · have hl := h.len
      rw [h.txt, hl, Nat.add_sub_cancel_left, List.take_append_of_le_length (Nat.le_refl _), List.take_length]
/-- A row within what is left. -/
theorem RowAt.shift {s : ByteArray} {p q : Nat} {R : RowR} (hp : p ≤ s.size) : RowAt (s.extract p s.size) 0 R q ↔ RowAt s p R (p + q) := by
  have hsz : (s.extract p s.size).size = s.size - p := by rw [ByteArray.size_extract]; omega
  have hr : ∀ k, rem (s.extract p s.size) k = rem s (p + k) := fun k => by
    unfold rem; rw [ext_from, List.drop_drop]
  constructor
  · rintro ⟨h1, h2, h3, h4, _⟩
    rw [hsz] at h4
    rw [hr, hr, Nat.add_zero] at h3
    exact ⟨h1, h2, h3, by omega, hp⟩
  · rintro ⟨h1, h2, h3, h4, _⟩
    refine ⟨h1, h2, by rw [hr, hr, Nat.add_zero]; exact h3, by rw [hsz]; omega, by omega⟩
theorem ext_mid (s : ByteArray) (p q : Nat) : (s.extract p q).data.toList = (rem s p).take (q - p) := by
  rw [ext_str, str_data]; rfl
/-- What the program's reader gives of a row. -/
theorem rd_row {s : ByteArray} {x0 : List UInt8} {q0 n1 q1 n2 q2 n3 q3 q4 : Nat} {d0 d1 d2 d3 d4 : Bool} {t : ByteArray} (h0 : rdBytes s 0 false 4 = (x0, q0, d0)) (h1 : rdNum s q0 d0 = (n1, q1, d1)) (h2 : rdNum s q1 d1 = (n2, q2, d2)) (h3 : rdNum s q2 d2 = (n3, q3, d3)) (h4 : rdShort s q3 d3 = (t, q4, d4)) :
    (d4 = true → ∀ R q, ¬ RowAt s 0 R q) ∧ (d4 = false → takeV s (0 + 4) = some (n1, q1) ∧ takeV s q1 = some (n2, q2) ∧ takeV s q2 = some (n3, q3) ∧ takeP s q3 = some (t, q4)) := by
  constructor
  · intro hd R q h
    obtain ⟨p1, p2, p3, a1, a2, a3, a4, _⟩ := h.rd
    have hl := h.lt; have := h.le
    rw [rdBytes_ok (by omega)] at h0
    simp only [Prod.mk.injEq] at h0; obtain ⟨_, rfl, rfl⟩ := h0
    rw [rdNum_some a1] at h1; simp only [Prod.mk.injEq] at h1; obtain ⟨rfl, rfl, rfl⟩ := h1
    rw [rdNum_some a2] at h2; simp only [Prod.mk.injEq] at h2; obtain ⟨rfl, rfl, rfl⟩ := h2
    rw [rdNum_some a3] at h3; simp only [Prod.mk.injEq] at h3; obtain ⟨rfl, rfl, rfl⟩ := h3
    rw [rdShort_some a4] at h4; simp only [Prod.mk.injEq] at h4; obtain ⟨rfl, rfl, rfl⟩ := h4
    cases hd
  · intro hd
    subst hd
    obtain rfl : d3 = false := by
      cases d3
      · rfl
      · rw [rdShort_bad] at h4; simp at h4
    obtain rfl : d2 = false := by
      cases d2
      · rfl
      · rw [rdNum_bad] at h3; simp at h3
    obtain rfl : d1 = false := by
      cases d1
      · rfl
      · rw [rdNum_bad] at h2; simp at h2
    obtain rfl : d0 = false := by
      cases d0
      · rfl
      · rw [rdNum_bad] at h1; simp at h1
    have k4 : takeP s q3 = some (t, q4) := by
      rcases hv : takeP s q3 with _ | ⟨t', q'⟩
      · have := (rdShort_none hv).2; rw [h4] at this; simp at this
      · rw [rdShort_some hv] at h4; simp only [Prod.mk.injEq] at h4; obtain ⟨rfl, rfl, _⟩ := h4; rfl
    have kn : ∀ {a n b : Nat}, rdNum s a false = (n, b, false) → takeV s a = some (n, b) := by
      intro a n b h
      rcases hv : takeV s a with _ | ⟨n', q'⟩
      · rw [rdNum_none hv] at h; simp at h
      · rw [rdNum_some hv] at h; simp only [Prod.mk.injEq] at h; obtain ⟨rfl, rfl, _⟩ := h; rfl
    have k0 : q0 = 0 + 4 := by
      by_cases hs : s.size - 0 < 4
      · rw [rdBytes_short hs] at h0; simp at h0
      · rw [rdBytes_ok hs] at h0; simp only [Prod.mk.injEq] at h0; exact h0.2.1.symm
    subst k0
    exact ⟨kn h1, kn h2, kn h3, k4⟩
theorem rd_steps (s : ByteArray) : ∃ (x0 : List UInt8) (q0 : Nat) (d0 : Bool) (n1 q1 : Nat) (d1 : Bool) (n2 q2 : Nat) (d2 : Bool) (n3 q3 : Nat) (d3 : Bool) (t : ByteArray) (q4 : Nat) (d4 : Bool), rdBytes s 0 false 4 = (x0, q0, d0) ∧ rdNum s q0 d0 = (n1, q1, d1) ∧ rdNum s q1 d1 = (n2, q2, d2) ∧ rdNum s q2 d2 = (n3, q3, d3) ∧ rdShort s q3 d3 = (t, q4, d4) :=
  ⟨_, _, _, _, _, _, _, _, _, _, _, _, _, _, _, rfl, rfl, rfl, rfl, rfl⟩
end Sp
end Go.Proofs.Ytoflclofcnpjlaa

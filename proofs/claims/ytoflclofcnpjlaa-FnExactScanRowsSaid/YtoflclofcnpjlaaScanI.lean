/- Walks: rowAt and ScanRows of the program. -/
import Derived.Test.YtoflclofcnpjlaaRdS
import Derived.Test.YtoflclofcnpjlaaScanP
import Derived.Test.YtoflclofcnpjlaaKLogRowR
import Derived.Test.YtoflclofcnpjlaaBx
import Derived.Test.YtoflclofcnpjlaaStepR
set_option linter.unusedVariables false
set_option linter.unusedSimpArgs false
namespace Go.Proofs.Ytoflclofcnpjlaa
open Go.RowKit Sp Go.Sort

theorem box5 {w : World} {b : Nat} {c0 c1 c2 c3 c4 : Value} (h : Bx w b #[c0, c1, c2, c3, c4]) (d0 d1 d2 d3 d4 : Value) :
    (w.setCell ⟨b, 0, none⟩ d0).cell? ⟨b, 0, none⟩ = some d0 ∧ ((w.setCell ⟨b, 0, none⟩ d0).setCell ⟨b, 1, none⟩ d1).cell? ⟨b, 1, none⟩ = some d1 ∧
    (((w.setCell ⟨b, 0, none⟩ d0).setCell ⟨b, 1, none⟩ d1).setCell ⟨b, 2, none⟩ d2).cell? ⟨b, 2, none⟩ = some d2 ∧
    ((((w.setCell ⟨b, 0, none⟩ d0).setCell ⟨b, 1, none⟩ d1).setCell ⟨b, 2, none⟩ d2).setCell ⟨b, 3, none⟩ d3).cell? ⟨b, 3, none⟩ = some d3 ∧
    (((((w.setCell ⟨b, 0, none⟩ d0).setCell ⟨b, 1, none⟩ d1).setCell ⟨b, 2, none⟩ d2).setCell ⟨b, 3, none⟩ d3).setCell ⟨b, 4, none⟩ d4).cell? ⟨b, 4, none⟩ = some d4 :=
  ⟨(h.set 0 d0).cell 0 _ rfl, ((h.set 0 d0).set 1 d1).cell 1 _ rfl, (((h.set 0 d0).set 1 d1).set 2 d2).cell 2 _ rfl, ((((h.set 0 d0).set 1 d1).set 2 d2).set 3 d3).cell 3 _ rfl, (((((h.set 0 d0).set 1 d1).set 2 d2).set 3 d3).set 4 d4).cell 4 _ rfl⟩
theorem below5 {B : Nat} {w wa : World} (h : Below B w wa) (b : Nat) (hb : B ≤ b) (d0 d1 d2 d3 d4 : Value) :
    Below B w (((((wa.setCell ⟨b, 0, none⟩ d0).setCell ⟨b, 1, none⟩ d1).setCell ⟨b, 2, none⟩ d2).setCell ⟨b, 3, none⟩ d3).setCell ⟨b, 4, none⟩ d4) :=
  below_set (below_set (below_set (below_set (below_set h _ _ hb) _ _ hb) _ _ hb) _ _ hb) _ _ hb

set_option maxRecDepth 100000 in
set_option maxHeartbeats 400000 in
theorem implRowAt (s : ByteArray) (w : World) (hs : (s.size : Int) ≤ 1048576) :
    Calls Try.prog 66 #[.string s] w fun e w' => ∃ (R : RowR) (q : Nat) (b : Bool), e = .returned (.tuple #[.agg #[.int .i64 R.ten, .int .i64 R.boot, .int .i64 R.seq, .string R.text, .bool R.sync], .int .i64 q, .bool b]) ∧ (b = true → RowAt s 0 R q) ∧ (b = false → ∀ R q, ¬ RowAt s 0 R q) ∧ Below w.heap.size w w' := by
  have U0 := Bx.new w #[.int .i64 0, .int .i64 0, .int .i64 0, .string { data := #[] }, .bool false] 28
  have u0 : Below w.heap.size w (w.alloc (.cells #[.int .i64 0, .int .i64 0, .int .i64 0, .string { data := #[] }, .bool false] 28)) := (Below.refl _ _).alloc (Nat.le_refl _) _
  have hz0 : (w.alloc (.cells #[.int .i64 0, .int .i64 0, .int .i64 0, .string { data := #[] }, .bool false] 28)).heap.size = w.heap.size + 1 := World.size_alloc _ _
  have d0 := rdBytes_bd s 0 false 4 (by omega)
  obtain ⟨y0, q0, e0, n1, q1, e1, n2, q2, e2, n3, q3, e3, tx, q4, e4, h0, h1, h2, h3, h4⟩ := rd_steps s
  have HR := Lib.hid (rd_row h0 h1 h2 h3 h4)
  rw [h0] at d0
  have g0 : (q0 : Int) ≤ s.size := by have := d0.1; simp only at this; omega
  have d1 := rdNum_bdI s q0 e0 g0
  rw [h1] at d1
  have d2 := rdNum_bdI s q1 e1 d1.1
  rw [h2] at d2
  have d3 := rdNum_bdI s q2 e2 d2.1
  rw [h3] at d3
  have d4 := rdShort_bd s q3 e3 d3.1
  rw [h4] at d4
  simp only at d1 d2 d3 d4
  obtain ⟨g1, v1⟩ := d1
  obtain ⟨g2, v2⟩ := d2
  obtain ⟨g3, v3⟩ := d3
  obtain ⟨g4, v4⟩ := d4
  have H0 := Lib.hid h0
  have H1 := Lib.hid h1
  have H2 := Lib.hid h2
  have H3 := Lib.hid h3
  have H4 := Lib.hid h4
  clear h0 h1 h2 h3 h4 d0
  go_enter Try.func66, Try.ntmps66
  go_wp2_with fail
  generalize hw0 : w.alloc (.cells #[.int .i64 0, .int .i64 0, .int .i64 0, .string { data := #[] }, .bool false] 28) = w0 at *
  obtain ⟨bb, hbb⟩ : ∃ bb, bb = w.heap.size + 1 := ⟨_, rfl⟩
  have r0 : Rd (w0.alloc (.cells #[.string s, .int .i64 0, .bool false] 67)) bb s 0 false := ⟨67, by rw [hbb, ← hz0]; exact heap_alloc_new w0 _⟩
  have b0 : Below w.heap.size w (w0.alloc (.cells #[.string s, .int .i64 0, .bool false] 67)) := u0.alloc (by omega) _
  have U1 := U0.below ((Below.refl w0.heap.size w0).alloc (Nat.le_refl _) (.cells #[.string s, .int .i64 0, .bool false] 67))
  rw [← hbb]
  have hb1 : w.heap.size < bb := by omega
  clear hbb hw0 u0 hz0 U0
  refine (bytes_any bb 0 4 4 rfl s false _ r0 (by omega) hs (by decide)).mono ?_
  rintro e w1 ⟨rfl, r1, t1⟩
  have x1 := below_touch b0 t1 (by omega) b0.size
  have U2 := U1.grown t1 (by intro e; have := Option.some.inj e; omega)
  rw [H0.out] at r1 ⊢
  simp only at r1
  have z1 := r1.lt
  clear r0 b0 t1
  go_wp2_with fail
  refine (number_any bb q0 s e0 _ r1 g0 hs).mono ?_
  rintro e w2 ⟨rfl, r2, t2⟩
  have x2 := below_touch x1 t2 (by omega) x1.size
  have U3 := U2.grown t2 (by intro e; have := Option.some.inj e; omega)
  rw [H1.out] at r2 ⊢
  simp only at r2 ⊢
  have z2 := r2.lt
  clear r1 x1 t2 z1
  have B3 := Bx.new w2 #[.int .i64 n1, .int .i64 0, .int .i64 0, .string ByteArray.empty, .bool false] 28
  have r3 := Rd.below r2 ((Below.refl w2.heap.size w2).alloc (Nat.le_refl _) (.cells #[.int .i64 n1, .int .i64 0, .int .i64 0, .string ByteArray.empty, .bool false] 28))
  have U4 := U3.below ((Below.refl w2.heap.size w2).alloc (Nat.le_refl _) (.cells #[.int .i64 n1, .int .i64 0, .int .i64 0, .string ByteArray.empty, .bool false] 28))
  have x3 := x2.alloc x2.size (.cells #[.int .i64 n1, .int .i64 0, .int .i64 0, .string ByteArray.empty, .bool false] 28)
  go_wp2_with fail
  refine (number_any bb q1 s e1 _ r3 g1 hs).mono ?_
  rintro e w4 ⟨rfl, r4, t4⟩
  have x4 := below_touch x3 t4 (by omega) x3.size
  have U5 := U4.grown t4 (by intro e; have := Option.some.inj e; omega)
  have B4 := B3.grown t4 (by intro e; have := Option.some.inj e; omega)
  rw [H2.out] at r4 ⊢
  simp only at r4 ⊢
  clear r3 t4 B3 x3 r2
  generalize hbo : w2.heap.size = bo at *
  have r5 : Rd (w4.setCell ⟨bo, 1, none⟩ (.int .i64 n2)) bb s q2 e2 := Rd.of (r4.bx.far ⟨bo, 1, none⟩ _ (by simp; omega))
  have B5 : Bx (w4.setCell ⟨bo, 1, none⟩ (.int .i64 n2)) bo #[.int .i64 n1, .int .i64 n2, .int .i64 0, .string ByteArray.empty, .bool false] := B4.set 1 _
  have U6 := U5.far ⟨bo, 1, none⟩ (.int .i64 n2) (by simp; omega)
  have x5 := below_set x4 ⟨bo, 1, none⟩ (.int .i64 n2) (by simp; omega)
  have c1 := B4.cell 1 _ rfl
  have zf := B4.frozen
  have zl := B4.lt
  go_wp2_with fail
  refine (number_any bb q2 s e2 _ r5 g2 hs).mono ?_
  rintro e w6 ⟨rfl, r6, t6⟩
  have x6 := below_touch x5 t6 (by omega) x5.size
  have U7 := U6.grown t6 (by intro e; have := Option.some.inj e; omega)
  have B6 := B5.grown t6 (by intro e; have := Option.some.inj e; omega)
  rw [H3.out] at r6 ⊢
  simp only at r6 ⊢
  clear r5 t6 B5 x5 r4 c1 zf zl B4
  have r7 : Rd (w6.setCell ⟨bo, 2, none⟩ (.int .i64 n3)) bb s q3 e3 := Rd.of (r6.bx.far ⟨bo, 2, none⟩ _ (by simp; omega))
  have B7 : Bx (w6.setCell ⟨bo, 2, none⟩ (.int .i64 n3)) bo #[.int .i64 n1, .int .i64 n2, .int .i64 n3, .string ByteArray.empty, .bool false] := B6.set 2 _
  have U8 := U7.far ⟨bo, 2, none⟩ (.int .i64 n3) (by simp; omega)
  have x7 := below_set x6 ⟨bo, 2, none⟩ (.int .i64 n3) (by simp; omega)
  have c2 := B6.cell 2 _ rfl
  have zf := B6.frozen
  have zl := B6.lt
  go_wp2_with fail
  refine (short_rd bb q3 s e3 _ r7 g3 hs).mono ?_
  rintro e w8 ⟨rfl, r8, t8⟩
  have x8 := below_touch x7 t8 (by omega) x7.size
  have U9 := U8.grown t8 (by intro e; have := Option.some.inj e; omega)
  have B8 := B7.grown t8 (by intro e; have := Option.some.inj e; omega)
  rw [H4.out] at r8 ⊢
  simp only at r8 ⊢
  clear r7 t8 B7 x7 r6 c2 zf zl B6
  have r9 : Rd (w8.setCell ⟨bo, 3, none⟩ (.string tx)) bb s q4 e4 := Rd.of (r8.bx.far ⟨bo, 3, none⟩ _ (by simp; omega))
  have B9 : Bx (w8.setCell ⟨bo, 3, none⟩ (.string tx)) bo #[.int .i64 n1, .int .i64 n2, .int .i64 n3, .string tx, .bool false] := B8.set 3 _
  have Ua := U9.far ⟨bo, 3, none⟩ (.string tx) (by simp; omega)
  have x9 := below_set x8 ⟨bo, 3, none⟩ (.string tx) (by simp; omega)
  have c3 := B8.cell 3 _ rfl
  have zf := B8.frozen
  have zl := B8.lt
  obtain ⟨f0, f1, f2, ff⟩ := r9.facts
  have k0 := B9.cell 0 _ rfl
  have k1 := B9.cell 1 _ rfl
  have k2 := B9.cell 2 _ rfl
  have k3 := B9.cell 3 _ rfl
  have k4 := B9.cell 4 _ rfl
  have ua0 := Ua.cell 0 _ rfl
  have ua1 := Ua.cell 1 _ rfl
  have ua2 := Ua.cell 2 _ rfl
  have ua3 := Ua.cell 3 _ rfl
  have ua4 := Ua.cell 4 _ rfl
  have uf := Ua.frozen
  have ul := Ua.lt
  cases e4
  · obtain ⟨a1, a2, a3, a4⟩ := HR.out.2 rfl
    have HA := Lib.hid (RowAt.of (Nat.zero_le _) a1 a2 a3 a4)
    clear HR H0 H1 H2 H3 H4 a1 a2 a3 a4
    have hok : RowR.ok ⟨n1, n2, n3, tx, false⟩ := by
      refine ⟨?_, ?_, ?_, ?_, trivial⟩ <;> simp only [szOk, inI64, maxLen] <;> omega
    have hrem := ext_mid s 0 q4
    go_wp2_with fail
    refine (implShowRow ⟨n1, n2, n3, tx, false⟩ hok _).mono ?_
    rintro e wa ⟨rfl, ba⟩
    have xa := x9.trans (ba.mono x9.size)
    have Ub := Ua.below ba
    have rb := Rd.below r9 ba
    have Bb := B9.below ba
    clear ua0 ua1 ua2 ua3 ua4 uf ul k0 k1 k2 k3 k4 f0 f1 f2 ff c3 zf zl
    have ua0 := Ub.cell 0 _ rfl
    have ua1 := Ub.cell 1 _ rfl
    have ua2 := Ub.cell 2 _ rfl
    have ua3 := Ub.cell 3 _ rfl
    have ua4 := Ub.cell 4 _ rfl
    have uf := Ub.frozen
    have ul := Ub.lt
    obtain ⟨f0, f1, f2, ff⟩ := rb.facts
    have k0 := Bb.cell 0 _ rfl
    have k1 := Bb.cell 1 _ rfl
    have k2 := Bb.cell 2 _ rfl
    have k3 := Bb.cell 3 _ rfl
    have k4 := Bb.cell 4 _ rfl
    by_cases hE : showRowL ⟨n1, n2, n3, tx, false⟩ = []
    · have HN := Lib.hid (show ∀ R q, ¬ RowAt s 0 R q from fun R q' h => (HA.out.2 R q' h).2.2.1 hE)
      rw [hE]
      have hem : (str []).toList.isEmpty = true := by rw [str_toList]; rfl
      clear HA hrem hE
      obtain ⟨z0, z1, z2, z3, z4⟩ := box5 Ub (.int .i64 0) (.int .i64 0) (.int .i64 0) (.string ⟨#[]⟩) (.bool false)
      go_wp2
      refine bodyPost_ret (v := .tuple #[.agg #[.int .i64 0, .int .i64 0, .int .i64 0, .string ⟨#[]⟩, .bool false], .int .i64 (0 : Nat), .bool false]) (by simp [results, Try.results66, go_sem, z0, z1, z2, z3, z4]) rfl ⟨⟨0, 0, 0, ⟨#[]⟩, false⟩, 0, false, rfl, (fun h => by cases h), fun _ => HN.out, below5 xa _ (Nat.le_refl _) _ _ _ _ _⟩
    · have HE := Lib.hid hE
      have hem : (str (showRowL ⟨n1, n2, n3, tx, false⟩)).toList.isEmpty = false := by
        rw [str_toList]; simpa using hE
      clear hE
      rcases hq : ((str (showRowL ⟨n1, n2, n3, tx, false⟩)).toList == (s.extract 0 q4).toList) with _ | _
      · have HN := Lib.hid (show ∀ R q, ¬ RowAt s 0 R q from fun R q' h => by
          have := (HA.out.2 R q' h).2.2.2
          rw [str_toList, toList_data, hrem, ← this] at hq
          simp at hq)
        clear HA hrem HE
        obtain ⟨z0, z1, z2, z3, z4⟩ := box5 Ub (.int .i64 0) (.int .i64 0) (.int .i64 0) (.string ⟨#[]⟩) (.bool false)
        go_wp2
        refine bodyPost_ret (v := .tuple #[.agg #[.int .i64 0, .int .i64 0, .int .i64 0, .string ⟨#[]⟩, .bool false], .int .i64 (0 : Nat), .bool false]) (by simp [results, Try.results66, go_sem, z0, z1, z2, z3, z4]) rfl ⟨⟨0, 0, 0, ⟨#[]⟩, false⟩, 0, false, rfl, (fun h => by cases h), fun _ => HN.out, below5 xa _ (Nat.le_refl _) _ _ _ _ _⟩
      · have hrow := Lib.hid (HA.out.1 ⟨HE.out, by rw [str_toList, toList_data, hrem] at hq; simpa using hq⟩)
        clear HA hrem HE
        have hne1 : ¬ bb = w.heap.size := by omega
        have hne2 : ¬ bo = w.heap.size := by omega
        obtain ⟨z0, z1, z2, z3, z4⟩ := box5 Ub (.int .i64 n1) (.int .i64 n2) (.int .i64 n3) (.string tx) (.bool false)
        go_wp2_with fail
        go_region
        go_wp2
        refine bodyPost_ret (v := .tuple #[.agg #[.int .i64 n1, .int .i64 n2, .int .i64 n3, .string tx, .bool false], .int .i64 q4, .bool true]) (by simp [results, Try.results66, go_sem, z0, z1, z2, z3, z4]) rfl ⟨⟨n1, n2, n3, tx, false⟩, q4, true, rfl, (fun _ => hrow.out), (fun h => by cases h), ?_⟩
        exact (below5 xa _ (Nat.le_refl _) _ _ _ _ _).drew
  · have HN := Lib.hid (HR.out.1 rfl)
    clear HR H0 H1 H2 H3 H4
    obtain ⟨z0, z1, z2, z3, z4⟩ := box5 Ua (.int .i64 0) (.int .i64 0) (.int .i64 0) (.string ⟨#[]⟩) (.bool false)
    go_wp2
    refine bodyPost_ret (v := .tuple #[.agg #[.int .i64 0, .int .i64 0, .int .i64 0, .string ⟨#[]⟩, .bool false], .int .i64 (0 : Nat), .bool false]) (by simp [results, Try.results66, go_sem, z0, z1, z2, z3, z4]) rfl ⟨⟨0, 0, 0, ⟨#[]⟩, false⟩, 0, false, rfl, (fun h => by cases h), fun _ => HN.out, below5 x9 _ (Nat.le_refl _) _ _ _ _ _⟩

set_option maxRecDepth 100000 in
set_option maxHeartbeats 800000 in
theorem implScanRows (s : ByteArray) (L : List RowR) (E : Nat) (hC : ScanC s 0 L E) (w : World) (hs : (s.size : Int) ≤ 1048576) :
    Calls Try.prog 37 #[.string s] w fun e w' => ∃ v', e = .returned (.tuple #[v', .int .i64 E]) ∧ Row RowR.cells 28 5 w.heap.size w'.heap.size w' v' L ∧ Below w.heap.size w w' := by
  have HC := Lib.hid hC
  have hLn := hC.len (Nat.zero_le _)
  clear hC
  go_enter Try.func37, Try.ntmps37
  go_wp2
  go_loopw [4, 5] (fun o a wr => ∃ (k p : Nat) (l rs : List RowR) (ao : Option Addr) (cp : Nat), o = .slice ao k cp ∧ a = .int .i64 p ∧ RowKit.Hid (l.length = k ∧ L = l ++ rs ∧ ScanC s p rs E) ∧ p ≤ s.size ∧ k + rs.length = L.length ∧ wr.ownsRow w.heap.size 28 5 o k (l.map RowR.cells).flatten ∧ Below w.heap.size w wr) (fun _ a _ => s.size - (intOf a).toNat)
  case atStart => exact ⟨0, 0, [], L, none, 0, rfl, rfl, ⟨rfl, rfl, HC⟩, Nat.zero_le _, by simp, World.ownsRow_nil _ _ _ _, Below.refl _ _⟩
  case round =>
    obtain ⟨k, p, l, rs, ao, cp, rfl, rfl, HB, hp, hkl, ho, xb⟩ := hrel
    have hp' : (p : Int) ≤ s.size := by omega
    have hsx : ((s.extract p s.size).size : Int) ≤ 1048576 := by rw [ByteArray.size_extract]; omega
    go_wp2_with fail
    refine (implRowAt (s.extract p s.size) _ hsx).mono ?_
    rintro e w1 ⟨R, q, b, rfl, ht, hf, b1⟩
    have x1 := xb.trans (b1.mono xb.size)
    have o1 := own_below ho b1
    clear ho b1
    cases b
    · obtain ⟨HL, HR⟩ : L = l ∧ E = (p : Nat) := by
        obtain ⟨h1, h2, h3⟩ := HB.out
        obtain ⟨rfl, rfl⟩ := h3.none (fun R q' h => by
          have hq := h.lt
          exact hf rfl R (q' - p) ((RowAt.shift hp).2 (by rw [Nat.add_sub_cancel' (by omega)]; exact h)))
        exact ⟨by rw [h2, List.append_nil], rfl⟩
      obtain rfl := HB.out.1
      clear HB ht hf
      go_wp2
      refine bodyPost_ret (v := .tuple #[.slice ao l.length cp, .int .i64 p]) (by simp [results, Try.results37, go_sem]) rfl ⟨_, by rw [HR], ?_, x1.alloc x1.size _⟩
      rw [HL]
      exact Row.up (o1.alloc _) rfl (Nat.le_refl _)
    · have hrow := (RowAt.shift hp).1 (ht rfl)
      have hq := hrow.lt
      have hq2 := hrow.le
      have HN := Lib.hid (show ∃ rs', rs = R :: rs' ∧ (l ++ [R]).length = k + 1 ∧ L = (l ++ [R]) ++ rs' ∧ ScanC s (p + q) rs' E from by
        obtain ⟨h1, h2, h3⟩ := HB.out
        obtain ⟨rs', rfl, h4⟩ := h3.some hrow
        exact ⟨rs', rfl, by simp [h1], by simp [h2], h4⟩)
      have W1 : IntKind.i64.wrap ((p : Int) + q) = (p : Int) + q := by rw [IntKind.wrap_i64]; omega
      clear HB hrow ht hf
      have x2 := x1.alloc x1.size (.cells #[.int .i64 R.ten, .int .i64 R.boot, .int .i64 R.seq, .string R.text, .bool R.sync] 28)
      have o2 := o1.alloc (.cells #[.int .i64 R.ten, .int .i64 R.boot, .int .i64 R.seq, .string R.text, .bool R.sync] 28)
      go_wp2_with (at_builtin; go_loud (refine app_new rfl rfl Try.underlying42 info_LogRow rfl (by decide) o2 rfl 1 (by simp [Act.eval]) rfl (by simp [Value.oneCell']) (by omega) x2 (Nat.le_refl _) x2.size ?_; intro v8 w8 r8 x8 g8))
      obtain ⟨gg, cap, rfl⟩ := own_sl r8 (by omega)
      obtain ⟨rs', hrs, e1, e2, e3⟩ := HN.out
      go_roundw
      case rel => exact ⟨k + 1, p + q, _, rs', _, _, rfl, by go_num, ⟨e1, e2, e3⟩, hq2, by rw [hrs] at hkl; simp at hkl; omega, by simpa [RowR.cells] using r8, x8⟩
      case measure => simp [intOf]; omega
end Go.Proofs.Ytoflclofcnpjlaa

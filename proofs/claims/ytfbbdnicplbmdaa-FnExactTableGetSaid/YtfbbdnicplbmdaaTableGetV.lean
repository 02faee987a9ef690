
/- Walk: the law of TableGet. -/
import Derived.Test.YtfbbdnicplbmdaaTabM3
import Derived.Test.YtfbbdnicplbmdaaKEntA
import Derived.Test.YtfbbdnicplbmdaaTabM1
import Derived.Deep.RegionWith
import Derived.Lib.Hide
set_option linter.unusedVariables false
set_option linter.unusedSimpArgs false
namespace Go.Proofs.Ytfbbdnicplbmdaa
open Go.RowKit Sp Go.Sort

set_option maxRecDepth 100000 in
set_option maxHeartbeats 3200000 in
theorem walkFnExactTableGet (w : World) (v : Value) (d : TabR) (h : IsTable w v d) (hok : d.ok) (a1 : ByteArray) (w1 : a1.size ≤ maxLen) (a2 : Int) (w2 : (Lit.int .i64 a2).wf = true) :
    Calls Try.prog 10 #[v, .string a1, .int .i64 a2] w fun e w' => e = .returned (.bool true) ∧ Below w.heap.size w w' := by
  have hnn := TabR.sz_nonneg d
  have hcopy := h
  obtain ⟨s0, hv, h0⟩ := hcopy
  subst hv
  have hal : ∀ (W : World) (o : Obj), RowKit.Below W.heap.size W (W.alloc o) := fun W o => (Below.refl _ _).alloc (Nat.le_refl _) _
  by_cases hb1 : (1048576 : Int) < a1.size
  · go_enter Try.func10, Try.ntmps10
    go_wp2
    go_ret
    exact ⟨rfl, hal _ _⟩
  obtain ⟨W0, hW0⟩ : ∃ W0, w.alloc (.cells #[s0, .string d.bloom, .int .i64 d.top] 85) = W0 := ⟨_, rfl⟩
  have A0 : Bx W0 w.heap.size #[s0, .string d.bloom, .int .i64 d.top] := hW0 ▸ Bx.new w _ _
  have c0 : Below w.heap.size w W0 := hW0 ▸ hal _ _
  have HW := Lib.hid hW0
  clear hW0
  have r0 := h.below c0
  have hba := A0.cell 0 _ rfl
  have hbb := A0.cell 1 _ rfl
  have hbc := A0.cell 2 _ rfl
  by_cases hbig : (1048576 : Int) - d.sz < 0
  · have hd := dec_neg hbig
    go_enter Try.func10, Try.ntmps10
    go_upto_region 1 with fail
    rw [HW.out]
    go_wp2_with (go_at_call 57; refine (szTable_any _ d hok _ _ r0 (by omega) (by omega)).mono ?_; rintro e w1 ⟨rfl, b1⟩; rw [hd])
    go_ret
    exact ⟨rfl, c0.trans (b1.mono c0.size)⟩
  have hd := dec_pos hbig
  have hd2 : decide ((1048576 : Int) - d.sz < 0) = false := decide_eq_false hbig
  have HZ := Lib.hid (show d.sz ≤ 1048576 by omega)
  have l0 := parts_le HZ.out
  have hkl : (a1.size : Int) ≤ 1048576 := by omega
  go_enter Try.func10, Try.ntmps10
  go_upto_region 1 with fail
  rw [HW.out]
  clear HW
  go_wp2_with (go_at_call 57; refine (szTable_any _ d hok _ _ r0 (by omega) (by omega)).mono ?_; rintro e w1 ⟨rfl, b1⟩; rw [hd]; have c1 := c0.trans (b1.mono c0.size); have r1 := h.below c1; have A1 := A0.below b1; clear A0 hba hbb hbc; have hba := A1.cell 0 _ rfl; have hbb := A1.cell 1 _ rfl; have hbc := A1.cell 2 _ rfl)
  go_wp2_with (go_at_call 59; refine (toTable_is _ d _ r1 l0).mono ?_; rintro e w2 ⟨z2, rfl, s2, b2⟩; have c2 := c1.trans (b2.mono c1.size); have r2 := h.below c2; have A2 := A1.below b2; clear A1 hba hbb hbc; have hba := A2.cell 0 _ rfl; have hbb := A2.cell 1 _ rfl; have hbc := A2.cell 2 _ rfl)
  go_wp2_with fail
  refine (specTableGet _ d a1 a2 _ s2 l0 (part_sz HZ.out) (flat_le HZ.out) (bloom_sz HZ.out) hkl).mono ?_
  rintro e w3 ⟨rfl, b3⟩
  have c3 := c2.trans (b3.mono c2.size)
  have A3 := A2.below b3
  clear A2 hba hbb hbc
  generalize hg : tabGet d a1 a2 = gr at *
  have HG := Lib.hid hg
  clear hg
  obtain ⟨⟨gk, gs, gd, gv⟩, gn⟩ := gr
  have U4 := Bx.new w3 #[.string gk, .int .i64 gs, .bool gd, .string gv] 30
  have b4 := hal w3 (.cells #[.string gk, .int .i64 gs, .bool gd, .string gv] 30)
  have c4 := c3.trans (b4.mono c3.size)
  have A4 := A3.below b4
  go_upto_region 8 with fail
  generalize w3.alloc (.cells #[.string gk, .int .i64 gs, .bool gd, .string gv] 30) = w4 at *
  have r4 := h.below c4
  clear A3 b3 b4 s2
  have hba := A4.cell 0 _ rfl
  have hbb := A4.cell 1 _ rfl
  have hbc := A4.cell 2 _ rfl
  have z4 := U4.lt
  go_wp2_with fail
  refine (toTable_is _ d _ r4 l0).mono ?_
  rintro e w5 ⟨z5, rfl, s5, b5⟩
  have c5 := c4.trans (b5.mono c4.size)
  have A5 := A4.below b5
  have U5 := U4.below b5
  clear A4 U4 hba hbb hbc b5
  have s5c := s5
  obtain ⟨y0, hv5, e0⟩ := s5c
  subst hv5
  obtain ⟨ao0, cp0, hq0, _⟩ := e0.shape
  subst hq0
  clear e0
  have X6 := Bx.new w5 #[.slice ao0 d.parts.length cp0, .string d.bloom, .int .i64 d.top] 26
  have b6 := hal w5 (.cells #[.slice ao0 d.parts.length cp0, .string d.bloom, .int .i64 d.top] 26)
  have c6 := c5.trans (b6.mono c5.size)
  have A6 := A5.below b6
  have U6 := U5.below b6
  have s6 := s5.below b6
  clear A5 U5 s5
  go_upto_region 9 with fail
  generalize w5.alloc (.cells #[.slice ao0 d.parts.length cp0, .string d.bloom, .int .i64 d.top] 26) = w6 at *
  clear b6
  have hba := X6.cell 0 _ rfl
  have hbb := X6.cell 1 _ rfl
  have hbc := X6.cell 2 _ rfl
  go_wp2_with fail
  refine (implTableGet _ d a1 a2 _ s6 l0 (part_sz HZ.out) (bloom_sz HZ.out) hkl).mono ?_
  rintro e w7 ⟨rfl, b7⟩
  rw [HG.out]
  have c7 := c6.trans (b7.mono c6.size)
  have A7 := A6.below b7
  have U7 := U6.below b7
  have X7 := X6.below b7
  have s7 := s6.below b7
  clear A6 U6 X6 s6 b7 hba hbb hbc
  have G8 := Bx.new w7 #[.string gk, .int .i64 gs, .bool gd, .string gv] 30
  have b8 := hal w7 (.cells #[.string gk, .int .i64 gs, .bool gd, .string gv] 30)
  have c8 := c7.trans (b8.mono c7.size)
  have A8 := A7.below b8
  have U8 := U7.below b8
  have X8 := X7.below b8
  have s8 := s7.below b8
  clear A7 U7 X7 s7
  go_upto_region 10 with fail
  generalize w7.alloc (.cells #[.string gk, .int .i64 gs, .bool gd, .string gv] 30) = w8 at *
  clear b8
  have g0 := G8.cell 0 _ rfl
  have g1 := G8.cell 1 _ rfl
  have g2 := G8.cell 2 _ rfl
  have g3 := G8.cell 3 _ rfl
  have u0 := U8.cell 0 _ rfl
  have u1 := U8.cell 1 _ rfl
  have u2 := U8.cell 2 _ rfl
  have u3 := U8.cell 3 _ rfl
  go_wp2_with fail
  refine (eqEnt_any gk gs gd gv _).mono ?_
  rintro e w9 ⟨rfl, b9⟩
  have c9 := c8.trans (b9.mono c8.size)
  have A9 := A8.below b9
  have X9 := X8.below b9
  have s9 := s8.below b9
  have r9 := h.below c9
  clear A8 U8 X8 G8 s8 b9 g0 g1 g2 g3 u0 u1 u2 u3
  have hba := A9.cell 0 _ rfl
  have hbb := A9.cell 1 _ rfl
  have hbc := A9.cell 2 _ rfl
  have hx0 := X9.cell 0 _ rfl
  have hx1 := X9.cell 1 _ rfl
  have hx2 := X9.cell 2 _ rfl
  go_upto_region 12 with fail
  have dr : Below w9.heap.size w9 w9.drew := (Below.refl _ _).drew
  have c9d := c9.drew
  have h9d := h.below c9d
  have s9d := s9.below dr
  have A9d := A9.below dr
  have X9d := X9.below dr
  go_region_with (first | (go_at_call 59; refine (toTable_is _ d _ h9d l0).mono ?_; rintro e w10 ⟨z10, rfl, s10, b10⟩; have c10 := Below.trans c9d (b10.mono c9d.size); have s10' := s9d.below b10; have A10 := A9d.below b10; have X10 := X9d.below b10; have hbA := A10.cell 0 _ rfl; have hbB := A10.cell 1 _ rfl; have hbC := A10.cell 2 _ rfl; have hxA := X10.cell 0 _ rfl; have hxB := X10.cell 1 _ rfl; have hxC := X10.cell 2 _ rfl) | (go_at_call 52; refine (eqTable_any _ _ d _ s10' s10 l0).mono ?_; rintro e w11 ⟨rfl, b11⟩; have c11 := Below.trans c10 (b11.mono c10.size)))
  all_goals
    go_wp2
    go_ret
    exact ⟨rfl, c11⟩
end Go.Proofs.Ytfbbdnicplbmdaa

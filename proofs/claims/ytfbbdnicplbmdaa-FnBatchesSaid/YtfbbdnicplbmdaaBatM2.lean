
/- Walk: the law FnBatches. -/
import Derived.Test.YtfbbdnicplbmdaaBatM1
import Derived.Test.YtfbbdnicplbmdaaKOpA
import Derived.Test.YtfbbdnicplbmdaaTakeW
import Derived.Test.YtfbbdnicplbmdaaRdX
import Derived.Test.YtfbbdnicplbmdaaStepR
import Derived.Test.YtfbbdnicplbmdaaKOpR
import Derived.Test.YtfbbdnicplbmdaaBx
import Derived.Test.YtfbbdnicplbmdaaKKVA
import Derived.BigQuiet
import Derived.Test.YtfbbdnicplbmdaaMapS
import Derived.Test.YtfbbdnicplbmdaaSlices
/- Walks: the draws of batches and of maps. -/
set_option linter.unusedVariables false
set_option linter.unusedSimpArgs false
namespace Go.Proofs.Ytfbbdnicplbmdaa
open Go.RowKit Sp Go.Sort
theorem opOne : ∀ x : OpR, ∀ u ∈ OpR.cells x, u.oneCell' = true := by
  intro x u hu
  simp [OpR.cells] at hu
  rcases hu with rfl | rfl | rfl <;> rfl

set_option maxRecDepth 100000 in
set_option maxHeartbeats 3200000 in
theorem l7Batch_any (b : Nat) (w0 : World) (v : Value) (xs : List UInt8) (w : World) (h : Cu w b w0 v xs) :
    Calls Try.prog 93 #[.pointer (some ⟨b, 0, none⟩)] w fun e w' => ∃ (ao : Option Addr) (cp : Nat) (l : List OpR), e = .returned (.slice ao l.length cp) ∧ w'.ownsRow w.heap.size 138 3 (.slice ao l.length cp) l.length (l.map OpR.cells).flatten ∧ (l.length : Int) ≤ 8 ∧ Cu w' b w0 v xs ∧ w.grownBy w' (some b) := by
  have hlt := h.lt
  have h0 : (w.alloc (.cells #[] 138)).ownsRow w.heap.size 138 3 (.slice (some ⟨w.heap.size, 0, none⟩) 0 0) 0 (([] : List OpR).map OpR.cells).flatten := World.ownsRow_lit w #[] 0 (Nat.le_refl _) (by simp [maxLen]) rfl
  have c0 := h.below (hal2 w (.cells #[] 138))
  have g0 := grown_below (World.grownBy.refl w (some b)) (hal2 w (.cells #[] 138))
  go_enter Try.func93, Try.ntmps93
  go_wp2_with fail
  refine (l1Below_any b w0 v xs 4 (by decide) _ c0).mono ?_
  rintro e w1 ⟨n0, rfl, hn0, hn1, c1, g1⟩
  have hn0 := hn0 (by decide)
  have o1 := own_grown h0 g1 (fun k hk e => by have := (h0.lt _ hk).1; have := Option.some.inj e; omega)
  have q1 := grown2 g0 g1
  have N1 : IntKind.i64.wrap (1 + (n0 : Int)) = ((1 + n0 : Nat) : Int) := by rw [IntKind.wrap_i64]; omega
  clear h0 c0 g0 g1
  go_wp2_with fail
  go_loopw [3, 4] (fun o n wr => ∃ (r : Nat) (ao : Option Addr) (cp : Nat) (l : List OpR), n = .int .i64 r ∧ o = .slice ao l.length cp ∧ wr.ownsRow w.heap.size 138 3 (.slice ao l.length cp) l.length (l.map OpR.cells).flatten ∧ (l.length : Int) + r ≤ 4 ∧ (r = 0 → 0 < l.length) ∧ Cu wr b w0 v xs ∧ w.grownBy wr (some b)) (fun _ n _ => (intOf n).toNat)
  case atStart => exact ⟨1 + n0, _, _, [], rfl, rfl, o1, by simp; omega, by omega, c1, q1⟩
  case round =>
    clear o1 c1 q1
    obtain ⟨r, ao, cp, l, rfl, rfl, ho, hl, hp, c3, q3⟩ := hrel
    by_cases hr0 : 0 < r
    · have R1 : IntKind.i64.wrap ((r : Int) - 1) = ((r - 1 : Nat) : Int) := by rw [IntKind.wrap_i64]; omega
      go_wp2_with fail
      refine (l7Key_any b w0 v xs _ c3).mono ?_
      rintro e w5 ⟨ky, rfl, hky, c5, g5⟩
      have o5 := own_grown ho g5 (fun k hk e => by have := (ho.lt _ hk).1; have := Option.some.inj e; omega)
      have q5 := grown2 q3 g5
      clear c3 q3 ho g5
      go_upto_region 6 with fail
      have B6 := Bx.new w5 #[.string ky, .bool false, .string ⟨#[]⟩] 138
      have c6 := c5.below (hal2 w5 (.cells #[.string ky, .bool false, .string ⟨#[]⟩] 138))
      have q6 := grown_below q5 (hal2 w5 (.cells #[.string ky, .bool false, .string ⟨#[]⟩] 138))
      have o6 := o5.alloc (.cells #[.string ky, .bool false, .string ⟨#[]⟩] 138)
      have z5 := q5.size
      have hne : ∀ k, (Value.slice ao l.length cp).ownBlock = some k → k ≠ w5.heap.size := fun k e => by have := (o5.lt k e).2; omega
      generalize w5.alloc (.cells #[.string ky, .bool false, .string ⟨#[]⟩] 138) = W6 at *
      generalize w5.heap.size = g6 at *
      clear c5 o5 q5
      go_wp2_with fail
      refine (l1Once_any b w0 v xs 3 (by decide) _ c6).mono ?_
      rintro e w7 ⟨on, rfl, c7, g7⟩
      have o7 := own_grown o6 g7 (fun k hk e => by have := (o6.lt _ hk).1; have := Option.some.inj e; omega)
      have q7 := grown2 q6 g7
      have B7 := B6.grown g7 (by simp; omega)
      have h3 := c7.lo
      clear c6 o6 q6 B6 g7
      cases on
      · go_wp2_with fail
        refine (l1Text_any b w0 v xs 5 (by decide) _ c7).mono ?_
        rintro e w8 ⟨t, rfl, ht, c8, g8⟩
        have o8 := own_grown o7 g8 (fun k hk e => by have := (o7.lt _ hk).1; have := Option.some.inj e; omega)
        have q8 := grown2 q7 g8
        have B8 := B7.grown g8 (by simp; omega)
        have zf := B8.frozen
        have y2 := B8.cell 2 _ rfl
        have c8 := c8.far ⟨g6, 2, none⟩ (.string t) (by show b ≠ g6; omega) (by show w0.heap.size ≤ g6; omega)
        have o8 := own_far o8 ⟨g6, 2, none⟩ (.string t) (fun e => hne _ e rfl)
        have q8 := grown_far q8 ⟨g6, 2, none⟩ (.string t) (by show w.heap.size ≤ g6; omega)
        have B8 := B8.set 2 (.string t)
        clear c7 o7 q7 B7 g8
        go_upto_region 9 with fail
        clear y2 zf
        generalize w8.setCell ⟨g6, 2, none⟩ (.string t) = W8 at *
        have y0 := B8.cell 0 _ rfl
        have y1 := B8.cell 1 _ rfl
        have y2 := B8.cell 2 _ rfl
        have z8 := q8.size
        go_wp2_with (at_builtin; go_loud (refine app_new rfl rfl Try.underlying44 info_Op rfl (by decide) o8 rfl 1 (by simp [Act.eval]) rfl (by simp [Value.oneCell']) (by omega) (Below.refl w.heap.size W8) (Nat.le_refl _) z8 ?_; intro v9 w9 r9 x9 g9))
        have c9 := c8.grown g9 (fun e => by have := (o8.lt _ e).1; omega) (fun k e => by have := (o8.lt _ e).1; omega)
        have q9 := grown_own q8 g9 (fun k e => (o8.lt _ e).1)
        obtain ⟨gg, cap, rfl⟩ := own_slD r9 (by omega)
        go_roundw
        case rel => exact ⟨r - 1, some ⟨gg, 0, none⟩, cap, l ++ [⟨ky, false, t⟩], rfl, by simp, by simpa [OpR.cells] using r9, by simp; omega, by simp, c9, q9⟩
        case measure => simp [intOf]; omega
      · have zf := B7.frozen
        have y1 := B7.cell 1 _ rfl
        have c8 := c7.far ⟨g6, 1, none⟩ (.bool true) (by show b ≠ g6; omega) (by show w0.heap.size ≤ g6; omega)
        have o8 := own_far o7 ⟨g6, 1, none⟩ (.bool true) (fun e => hne _ e rfl)
        have q8 := grown_far q7 ⟨g6, 1, none⟩ (.bool true) (by show w.heap.size ≤ g6; omega)
        have B8 := B7.set 1 (.bool true)
        clear c7 o7 q7 B7
        go_upto_region 9 with fail
        clear y1 zf
        generalize w7.setCell ⟨g6, 1, none⟩ (.bool true) = W8 at *
        have y0 := B8.cell 0 _ rfl
        have y1 := B8.cell 1 _ rfl
        have y2 := B8.cell 2 _ rfl
        have z8 := q8.size
        go_wp2_with (at_builtin; go_loud (refine app_new rfl rfl Try.underlying44 info_Op rfl (by decide) o8 rfl 1 (by simp [Act.eval]) rfl (by simp [Value.oneCell']) (by omega) (Below.refl w.heap.size W8) (Nat.le_refl _) z8 ?_; intro v9 w9 r9 x9 g9))
        have c9 := c8.grown g9 (fun e => by have := (o8.lt _ e).1; omega) (fun k e => by have := (o8.lt _ e).1; omega)
        have q9 := grown_own q8 g9 (fun k e => (o8.lt _ e).1)
        obtain ⟨gg, cap, rfl⟩ := own_slD r9 (by omega)
        go_roundw
        case rel => exact ⟨r - 1, some ⟨gg, 0, none⟩, cap, l ++ [⟨ky, true, ⟨#[]⟩⟩], rfl, by simp, by simpa [OpR.cells] using r9, by simp; omega, by simp, c9, q9⟩
        case measure => simp [intOf]; omega
    · obtain rfl : r = 0 := by omega
      have hp := hp rfl
      obtain ⟨g, cp', hv⟩ := own_slD ho hp
      obtain ⟨rfl, rfl⟩ : ao = some ⟨g, 0, none⟩ ∧ cp = cp' := by simpa using hv
      have hg := (ho.lt g rfl).1
      have hbg : b ≠ g := by omega
      clear hv
      go_wp2_with fail
      refine (l1Once_any b w0 v xs 10 (by decide) _ c3).mono ?_
      rintro e w4 ⟨on, rfl, c4, g4⟩
      have o4 := own_grown ho g4 (fun k hk e => by have := (ho.lt _ hk).1; have := Option.some.inj e; omega)
      have q4 := grown2 q3 g4
      clear ho c3 q3 g4
      cases on
      · go_wp2
        go_ret
        exact ⟨_, _, l, rfl, o4, by omega, c4, q4⟩
      · go_wp2_with fail
        refine (l1Below_any b w0 v xs (l.length : Int) (by omega) _ c4).mono ?_
        rintro e w5 ⟨k, rfl, hk, _, c5, g5⟩
        have hk := hk (by omega)
        have hkl : k < l.length := by omega
        have o5 := own_grown o4 g5 (fun k hk e => by have := (o4.lt _ hk).1; have := Option.some.inj e; omega)
        have q5 := grown2 q4 g5
        clear o4 q4 c4 g5
        go_wp2_with fail
        refine (l1Below_any b w0 v xs 4 (by decide) _ c5).mono ?_
        rintro e w6 ⟨sw, rfl, hsw, _, c6, g6⟩
        have hsw := hsw (by decide)
        have o6 := own_grown o5 g6 (fun k hk e => by have := (o5.lt _ hk).1; have := Option.some.inj e; omega)
        have q6 := grown2 q5 g6
        have h3 := c6.lo
        clear o5 q5 c5 g6
        rcases (by omega : sw = 0 ∨ sw = 1 ∨ sw = 2 ∨ sw = 3) with rfl | rfl | rfl | rfl
        · go_wp2_with fail
          refine (pickLit b w0 v xs _ c6 _ [⟨#[]⟩, ⟨#[97, 97, 97, 97, 97, 97, 97, 97, 97, 97]⟩, ⟨#[97, 97, 97, 97, 97, 97, 97, 97, 97, 97, 97]⟩] 3 _ rfl rfl (by decide) (by decide) rfl).mono ?_
          rintro e w7 ⟨t, ht, rfl, c7, g7⟩
          have o7 := own_grown o6 g7 (fun k hk e => by have := (o6.lt _ hk).1; have := Option.some.inj e; omega)
          have q7 := grown2 q6 g7
          obtain ⟨⟨z, p1, _⟩, p2, p3⟩ := own_put (enc := OpR.cells) (size := 3) (fun _ => rfl) o7 k hkl 0 (by decide) (.string t) ⟨t, l[k].del, l[k].val⟩ rfl
          clear o6 q6 c6 g7 o7
          rw [Nat.add_zero] at p1 p2 p3
          have hn : (l.set k ⟨t, l[k].del, l[k].val⟩).length = l.length := by simp
          rw [hn] at p3
          go_wp2
          go_ret
          refine ⟨_, _, l.set k ⟨t, l[k].del, l[k].val⟩, by rw [hn]; rfl, ?_, by rw [hn]; omega, c7.far _ _ hbg (by show w0.heap.size ≤ g; omega), grown_far q7 _ _ hg⟩
          rw [hn]; exact p3
        · go_wp2_with fail
          refine (l1Text_any b w0 v xs 1 (by decide) _ c6).mono ?_
          rintro e w7 ⟨t, rfl, ht, c7, g7⟩
          have o7 := own_grown o6 g7 (fun k hk e => by have := (o6.lt _ hk).1; have := Option.some.inj e; omega)
          have q7 := grown2 q6 g7
          have hsz : ¬ 9223372036854775807 < 16 + t.size := by omega
          obtain ⟨⟨z, p1, _⟩, p2, p3⟩ := own_put (enc := OpR.cells) (size := 3) (fun _ => rfl) o7 k hkl 2 (by decide) (.string ((⟨#[97, 97, 97, 97, 97, 97, 97, 97, 97, 97, 97, 97, 97, 97, 97, 97]⟩ : ByteArray) ++ t)) ⟨l[k].key, l[k].del, (⟨#[97, 97, 97, 97, 97, 97, 97, 97, 97, 97, 97, 97, 97, 97, 97, 97]⟩ : ByteArray) ++ t⟩ rfl
          clear o6 q6 c6 g7 o7
          have hn : (l.set k ⟨l[k].key, l[k].del, (⟨#[97, 97, 97, 97, 97, 97, 97, 97, 97, 97, 97, 97, 97, 97, 97, 97]⟩ : ByteArray) ++ t⟩).length = l.length := by simp
          rw [hn] at p3
          go_wp2
          go_ret
          refine ⟨_, _, l.set k ⟨l[k].key, l[k].del, (⟨#[97, 97, 97, 97, 97, 97, 97, 97, 97, 97, 97, 97, 97, 97, 97, 97]⟩ : ByteArray) ++ t⟩, by rw [hn]; rfl, ?_, by rw [hn]; omega, c7.far _ _ hbg (by show w0.heap.size ≤ g; omega), grown_far q7 _ _ hg⟩
          rw [hn]; exact p3
        · go_wp2_with (at_builtin; go_loud (refine app_recs rfl rfl Try.underlying44 info_Op rfl (by decide) o6 rfl (some ⟨g, 0, none⟩) cp (SlT.of_own o6 (fun _ => rfl) (by decide)) rfl (fun _ => rfl) opOne (by omega) (Below.refl w.heap.size w6) (Nat.le_refl _) q6.size ?_; intro v8 w8 r8 x8 g8))
          have c8 := c6.grown g8 (fun e => by have := (o6.lt _ e).1; omega) (fun k e => by have := (o6.lt _ e).1; omega)
          have q8 := grown_own q6 g8 (fun k e => (o6.lt _ e).1)
          have hn : (l ++ l).length = l.length + l.length := by simp
          rw [← List.flatten_append, ← List.map_append, ← hn] at r8
          obtain ⟨ao', cp', rfl⟩ := own_form r8
          generalize l ++ l = l2 at *
          go_wp2
          go_ret
          exact ⟨_, _, l2, rfl, r8, by omega, c8, q8⟩
        · have z6 := q6.size
          go_wp2
          go_ret
          exact ⟨_, _, [], rfl, own_mono (own0 rfl (Nat.le_refl _)) z6, by simp, c6.below (hal2 _ _), grown_below q6 (hal2 _ _)⟩
end Go.Proofs.Ytfbbdnicplbmdaa
/- Walks: l7Map, DrawApplyBatch, DrawShowBatch, DrawReadBatch. -/
set_option linter.unusedVariables false
set_option linter.unusedSimpArgs false
namespace Go.Proofs.Ytfbbdnicplbmdaa
open Go.RowKit Sp Go.Sort
theorem applyL_le (m : List KV) (l : List OpR) : (applyL m l).length ≤ m.length + l.length := by
  unfold applyL
  split
  · split
    · exact puts_len m l
    · omega
  · simp

set_option maxRecDepth 100000 in
set_option maxHeartbeats 3200000 in
theorem l7Map_any (b : Nat) (w0 : World) (v : Value) (xs : List UInt8) (w : World) (h : Cu w b w0 v xs) :
    Calls Try.prog 92 #[.pointer (some ⟨b, 0, none⟩)] w fun e w' => ∃ (ao : Option Addr) (cp : Nat) (m : List KV), e = .returned (.slice ao m.length cp) ∧ w'.ownsRow w.heap.size 134 2 (.slice ao m.length cp) m.length (m.map KV.cells).flatten ∧ (m.length : Int) ≤ 40 ∧ Cu w' b w0 v xs ∧ w.grownBy w' (some b) := by
  have hlt := h.lt
  have h0 : (w.alloc (.cells #[] 134)).ownsRow w.heap.size 134 2 (.slice (some ⟨w.heap.size, 0, none⟩) 0 0) 0 (([] : List KV).map KV.cells).flatten := World.ownsRow_lit w #[] 0 (Nat.le_refl _) (by simp [maxLen]) rfl
  have c0 := h.below (hal2 w (.cells #[] 134))
  have g0 := grown_below (World.grownBy.refl w (some b)) (hal2 w (.cells #[] 134))
  go_enter Try.func92, Try.ntmps92
  go_wp2_with fail
  refine (l1Below_any b w0 v xs 5 (by decide) _ c0).mono ?_
  rintro e w1 ⟨n0, rfl, hn0, hn1, c1, g1⟩
  have hn0 := hn0 (by decide)
  have o1 := own_grown h0 g1 (fun k hk e => by have := (h0.lt _ hk).1; have := Option.some.inj e; omega)
  have q1 := grown2 g0 g1
  clear h0 c0 g0 g1
  go_wp2_with fail
  go_loopw [3, 4] (fun o n wr => ∃ (r : Nat) (ao : Option Addr) (cp : Nat) (m : List KV), n = .int .i64 r ∧ o = .slice ao m.length cp ∧ wr.ownsRow w.heap.size 134 2 (.slice ao m.length cp) m.length (m.map KV.cells).flatten ∧ (m.length : Int) + 8 * (r : Int) ≤ 40 ∧ Cu wr b w0 v xs ∧ w.grownBy wr (some b)) (fun _ n _ => (intOf n).toNat)
  case atStart => exact ⟨n0, _, _, [], rfl, rfl, o1, by simp; omega, c1, q1⟩
  case round =>
    clear o1 c1 q1
    obtain ⟨r, ao, cp, m, rfl, rfl, ho, hl, c3, q3⟩ := hrel
    by_cases hr0 : 0 < r
    · have R1 : IntKind.i64.wrap ((r : Int) - 1) = ((r - 1 : Nat) : Int) := by rw [IntKind.wrap_i64]; omega
      go_wp2_with fail
      refine (l7Batch_any b w0 v xs _ c3).mono ?_
      rintro e w5 ⟨bo, bp, l, rfl, ol, hl8, c5, g5⟩
      have o5 := own_grown ho g5 (fun k hk e => by have := (ho.lt _ hk).1; have := Option.some.inj e; omega)
      have q5 := grown2 q3 g5
      have s5 : SlT KV.cells 2 w5 (.slice ao m.length cp) m := SlT.of_own o5 (fun _ => rfl) (by decide)
      have t5 : SlT OpR.cells 3 w5 (.slice bo l.length bp) l := SlT.of_own ol (fun _ => rfl) (by decide)
      have z5 := q5.size
      clear c3 q3 ho g5 ol
      go_wp2_with fail
      refine (specApplyBatch_row ao cp m bo bp l _ s5 t5 (by omega) (by omega) (fun _ => by omega)).mono ?_
      rintro e w6 ⟨v6, rfl, r6, b6⟩
      have hle := applyL_le m l
      have c6 := c5.below b6
      have q6 := grown_below q5 b6
      have o6 := own_below o5 b6
      obtain ⟨eo, ep, rfl⟩ := r6.form
      have p6 := own_mono r6.1 z5
      generalize applyB m l = on at *
      generalize applyL m l = m2 at *
      clear s5 t5 c5 q5 o5 b6 r6
      cases on
      · go_wp2
        go_roundw
        case rel => exact ⟨r - 1, _, _, m, rfl, rfl, o6, by omega, c6, q6⟩
        case measure => simp [intOf]; omega
      · go_wp2
        go_roundw
        case rel => exact ⟨r - 1, _, _, m2, rfl, rfl, p6, by omega, c6, q6⟩
        case measure => simp [intOf]; omega
    · obtain rfl : r = 0 := by omega
      by_cases hm0 : m.length = 0
      · have hmz : (m.length : Int) = 0 := by omega
        go_wp2
        go_ret
        exact ⟨_, _, m, rfl, ho, by omega, c3, q3⟩
      · have hmp : 0 < m.length := by omega
        obtain ⟨g, cp', hv⟩ := own_slD ho hmp
        obtain ⟨rfl, rfl⟩ : ao = some ⟨g, 0, none⟩ ∧ cp = cp' := by simpa using hv
        have hg := (ho.lt g rfl).1
        have hbg : b ≠ g := by omega
        clear hv
        go_wp2_with fail
        refine (l1Once_any b w0 v xs 12 (by decide) _ c3).mono ?_
        rintro e w4 ⟨on, rfl, c4, g4⟩
        have o4 := own_grown ho g4 (fun k hk e => by have := (ho.lt _ hk).1; have := Option.some.inj e; omega)
        have q4 := grown2 q3 g4
        clear ho c3 q3 g4
        cases on
        · go_wp2
          go_ret
          exact ⟨_, _, m, rfl, o4, by omega, c4, q4⟩
        · go_wp2_with fail
          refine (pickLit b w0 v xs _ c4 _ [⟨#[]⟩, ⟨#[122, 122, 122]⟩, ⟨#[97, 97, 97, 97, 97, 97, 97, 97, 97, 97, 97]⟩] 3 _ rfl rfl (by decide) (by decide) rfl).mono ?_
          rintro e w7 ⟨t, ht, rfl, c7, g7⟩
          have o7 := own_grown o4 g7 (fun k hk e => by have := (o4.lt _ hk).1; have := Option.some.inj e; omega)
          have q7 := grown2 q4 g7
          obtain ⟨⟨z, p1, _⟩, p2, p3⟩ := own_put (enc := KV.cells) (size := 2) (fun _ => rfl) o7 0 hmp 0 (by decide) (.string t) ⟨t, m[0].val⟩ rfl
          clear o4 q4 c4 g7 o7
          simp only [Nat.zero_mul, Nat.add_zero] at p1 p2 p3
          have hn : (m.set 0 ⟨t, m[0].val⟩).length = m.length := by simp
          rw [hn] at p3
          go_wp2
          go_ret
          refine ⟨_, _, m.set 0 ⟨t, m[0].val⟩, by rw [hn]; rfl, ?_, by rw [hn]; omega, c7.far _ _ hbg (by show w0.heap.size ≤ g; have := c7.old_le; have := c7.lo; omega), grown_far q7 _ _ hg⟩
          rw [hn]; exact p3

set_option maxRecDepth 100000 in
set_option maxHeartbeats 1600000 in
theorem drawApplyBatch_any (v : Value) (xs : List UInt8) (w : World) (h : SlT bytC 1 w v xs) (hs : (xs.length : Int) ≤ 1048576) :
    Calls Try.prog 22 #[v] w fun e w' => ∃ (ao : Option Addr) (cp : Nat) (m : List KV) (bo : Option Addr) (bp : Nat) (l : List OpR), e = .returned (.tuple #[.slice ao m.length cp, .slice bo l.length bp]) ∧ SlT KV.cells 2 w' (.slice ao m.length cp) m ∧ SlT OpR.cells 3 w' (.slice bo l.length bp) l ∧ (m.length : Int) ≤ 40 ∧ (l.length : Int) ≤ 8 ∧ Below w.heap.size w w' := by
  go_enter Try.func22, Try.ntmps22
  go_wp2_with fail
  refine (l1New_any v xs _ h hs).mono ?_
  rintro e w1 ⟨b, rfl, c1, b1⟩
  have lo1 := c1.lo
  have hb1 := c1.lt
  go_wp2_with fail
  refine (l7Map_any b w v xs _ c1).mono ?_
  rintro e w2 ⟨ao, cp, m, rfl, o2, hm, c2, g2⟩
  have x2 : RowKit.Below w.heap.size w w2 := b1.grown g2 b1.size (fun k e => by have := Option.some.inj e; omega)
  clear b1 c1 g2
  go_wp2_with fail
  refine (l7Batch_any b w v xs _ c2).mono ?_
  rintro e w3 ⟨bo, bp, l, rfl, ol, hl, c3, g3⟩
  have x3 : RowKit.Below w.heap.size w w3 := x2.grown g3 x2.size (fun k e => by have := Option.some.inj e; omega)
  have o3 := own_grown o2 g3 (fun k hk e => by have := (o2.lt _ hk).1; have := Option.some.inj e; omega)
  go_wp2
  exact bodyPost_ret (v := .tuple #[.slice ao m.length cp, .slice bo l.length bp]) (by simp [results, Try.results22, go_sem]) rfl ⟨ao, cp, m, bo, bp, l, rfl, SlT.of_own o3 (fun _ => rfl) (by decide), SlT.of_own ol (fun _ => rfl) (by decide), hm, hl, x3⟩

set_option maxRecDepth 100000 in
set_option maxHeartbeats 1600000 in
theorem drawShowBatch_any (v : Value) (xs : List UInt8) (w : World) (h : SlT bytC 1 w v xs) (hs : (xs.length : Int) ≤ 1048576) :
    Calls Try.prog 29 #[v] w fun e w' => ∃ (bo : Option Addr) (bp : Nat) (l : List OpR), e = .returned (.slice bo l.length bp) ∧ SlT OpR.cells 3 w' (.slice bo l.length bp) l ∧ (l.length : Int) ≤ 8 ∧ Below w.heap.size w w' := by
  go_enter Try.func29, Try.ntmps29
  go_wp2_with fail
  refine (l1New_any v xs _ h hs).mono ?_
  rintro e w1 ⟨b, rfl, c1, b1⟩
  have lo1 := c1.lo
  go_wp2_with fail
  refine (l7Batch_any b w v xs _ c1).mono ?_
  rintro e w3 ⟨bo, bp, l, rfl, ol, hl, c3, g3⟩
  have x3 : RowKit.Below w.heap.size w w3 := b1.grown g3 b1.size (fun k e => by have := Option.some.inj e; omega)
  go_wp2
  go_ret
  exact ⟨bo, bp, l, rfl, SlT.of_own ol (fun _ => rfl) (by decide), hl, x3⟩

theorem showBL_small (l : List OpR) : (showBL l).length ≤ 1000 := by
  rcases h : batchB l with _ | _
  · rw [showBL_not h]; simp
  · rw [showBL_yes h, List.length_append]
    have h1 := varL_length (l.length : Int)
    have h2 := opsL_len h l.length (Nat.le_refl _)
    rw [List.take_length] at h2
    have h3 := (batch_ops h).1
    omega
set_option maxRecDepth 100000 in
set_option maxHeartbeats 1600000 in
theorem drawReadBatch_any (v : Value) (xs : List UInt8) (w : World) (h : SlT bytC 1 w v xs) (hs : (xs.length : Int) ≤ 1048576) :
    Calls Try.prog 32 #[v] w fun e w' => ∃ t : ByteArray, e = .returned (.string t) ∧ (t.size : Int) ≤ 1048576 ∧ Below w.heap.size w w' := by
  go_enter Try.func32, Try.ntmps32
  go_wp2_with fail
  refine (l1New_any v xs _ h hs).mono ?_
  rintro e w1 ⟨b, rfl, c1, b1⟩
  have lo1 := c1.lo
  go_wp2_with fail
  refine (l7Batch_any b w v xs _ c1).mono ?_
  rintro e w2 ⟨bo, bp, l, rfl, ol, hl, c2, g2⟩
  have x2 : RowKit.Below w.heap.size w w2 := b1.grown g2 b1.size (fun k e => by have := Option.some.inj e; omega)
  have t2 : SlT OpR.cells 3 w2 (.slice bo l.length bp) l := SlT.of_own ol (fun _ => rfl) (by decide)
  clear b1 c1 g2 ol
  go_wp2_with fail
  refine (specShowBatch _ l _ t2 (by omega)).mono ?_
  rintro e w3 ⟨rfl, b3⟩
  have x3 := x2.trans (b3.mono x2.size)
  have c3 := c2.below b3
  have hsz := showBL_small l
  have hsz2 : ((str (showBL l)).size : Int) ≤ 1000000 := by rw [str_size]; omega
  generalize str (showBL l) = ss at *
  clear t2 b3 c2 x2
  go_wp2_with fail
  refine (l1Once_any b w v xs 3 (by decide) _ c3).mono ?_
  rintro e w4 ⟨on, rfl, c4, g4⟩
  have x4 : RowKit.Below w.heap.size w w4 := x3.grown g4 x3.size (fun k e => by have := Option.some.inj e; omega)
  clear c3 x3 g4
  cases on
  · go_wp2
    go_ret
    exact ⟨ss, rfl, by omega, x4⟩
  · go_wp2_with fail
    refine (l1Spoil_any b w v xs ss hsz2 _ c4).mono ?_
    rintro e w5 ⟨t, rfl, ht, c5, g5⟩
    have x5 : RowKit.Below w.heap.size w w5 := x4.grown g5 x4.size (fun k e => by have := Option.some.inj e; omega)
    go_wp2
    go_ret
    exact ⟨t, rfl, ht, x5⟩
end Go.Proofs.Ytfbbdnicplbmdaa
/- Walk: the laws' test of a code that is too long. -/
set_option linter.unusedVariables false
set_option linter.unusedSimpArgs false
namespace Go.Proofs.Ytfbbdnicplbmdaa
open Go.RowKit Sp Go.Sort
set_option maxRecDepth 100000 in
theorem big_any (v : Value) (xs : List UInt8) (w : World) (h : SlT bytC 1 w v xs) :
    Calls Try.prog 11 #[v] w fun e w' => e = .returned (.bool (decide (1048576 < (xs.length : Int)))) ∧ w = w' := by
  obtain ⟨ao, cap, rfl, hlc, hcm, hsh⟩ := h.shape
  go_enter Try.func11, Try.ntmps11
  go_wp2
  go_ret
  exact ⟨rfl, rfl⟩
end Go.Proofs.Ytfbbdnicplbmdaa
/- Plain: reading a batch of operations back. No program in sight. -/
set_option linter.unusedVariables false
set_option linter.unusedSimpArgs false
namespace Go.Proofs.Ytfbbdnicplbmdaa
open Sp
namespace Sp
/-- L is what the string is the text of, if b; else it is the text of none. -/
structure BatC (s : ByteArray) (L : List OpR) (b : Bool) : Prop where
  yes : b = true → batchB L = true ∧ showBL L = s.data.toList
  no : b = false → L = [] ∧ ∀ l, batchB l = true → showBL l ≠ s.data.toList
theorem BatC.exists (s : ByteArray) : ∃ L b, BatC s L b := by
  by_cases h : ∃ L, batchB L = true ∧ showBL L = s.data.toList
  · obtain ⟨L, h⟩ := h
    exact ⟨L, true, ⟨fun _ => h, fun h => by cases h⟩⟩
  · exact ⟨[], false, ⟨(fun h => by cases h), fun _ => ⟨rfl, fun l h1 h2 => h ⟨l, h1, h2⟩⟩⟩⟩
theorem BatC.len {s : ByteArray} {L : List OpR} {b : Bool} (h : BatC s L b) : (L.length : Int) ≤ 1048576 := by
  cases b
  · rw [(h.no rfl).1]; simp
  · have := (batch_ops (h.yes rfl).1).1; omega
theorem BatC.text {s : ByteArray} {L : List OpR} {b : Bool} (h : BatC s L b) (hb : b = true) : L.length ≤ 6 ∧ 1 ≤ L.length ∧ s.data.toList = varB L.length ++ opsL L := by
  obtain ⟨h1, h2⟩ := h.yes hb
  have h6 := (batch_ops h1).1
  have hin : inB L.length 1 6 = true := by unfold batchB at h1; rw [Bool.and_eq_true] at h1; exact h1.1
  have hi := inB_iff.1 hin
  rw [showBL_yes h1, varL_nat (by omega)] at h2
  exact ⟨by omega, by omega, h2.symm⟩
/-- An operation of a reader. -/
def rdOp (s : ByteArray) (p : Nat) : OpR × Nat × Bool :=
  if (rdFlag s p false).1 then (⟨(rdShort s (rdFlag s p false).2.1 (rdFlag s p false).2.2).1, true, str []⟩, (rdShort s (rdFlag s p false).2.1 (rdFlag s p false).2.2).2)
  else (⟨(rdShort s (rdFlag s p false).2.1 (rdFlag s p false).2.2).1, false, (rdShort s (rdShort s (rdFlag s p false).2.1 (rdFlag s p false).2.2).2.1 (rdShort s (rdFlag s p false).2.1 (rdFlag s p false).2.2).2.2).1⟩,
    (rdShort s (rdShort s (rdFlag s p false).2.1 (rdFlag s p false).2.2).2.1 (rdShort s (rdFlag s p false).2.1 (rdFlag s p false).2.2).2.2).2)
theorem rdShort_snd {s : ByteArray} {p : Nat} {bad : Bool} (h : (rdShort s p bad).2.2 = false) : bad = false ∧ takeP s p = some ((rdShort s p bad).1, (rdShort s p bad).2.1) := by
  cases bad
  · refine ⟨rfl, ?_⟩
    rcases ht : takeP s p with _ | ⟨t, q⟩
    · have := (rdShort_none ht).2; rw [h] at this; cases this
    · rw [rdShort_some ht]
  · rw [rdShort_bad] at h; cases h
theorem rdOp_snd {s : ByteArray} {p : Nat} (h : (rdOp s p).2.2 = false) : rem s p = opL (rdOp s p).1 ++ rem s (rdOp s p).2.1 := by
  unfold rdOp at h ⊢
  rcases hf : (rdFlag s p false).1 with _ | _
  · rw [hf] at h
    simp only [Bool.false_eq_true, if_false] at h ⊢
    obtain ⟨h1, h2⟩ := rdShort_snd h
    obtain ⟨h3, h4⟩ := rdShort_snd h1
    obtain ⟨e1, e2, _⟩ := rdFlag_some h3
    obtain ⟨g1, _⟩ := takeP_some h4
    obtain ⟨g2, _⟩ := takeP_some h2
    rw [e1] at g1
    rw [e2, hf, g1, e1]
    rw [e1] at g2
    rw [g2]
    simp [opL, flagL]
  · rw [hf] at h
    simp only [if_true] at h ⊢
    obtain ⟨h3, h4⟩ := rdShort_snd h
    obtain ⟨e1, e2, _⟩ := rdFlag_some h3
    obtain ⟨g1, _⟩ := takeP_some h4
    rw [e1] at g1
    rw [e2, hf, g1, e1]
    simp [opL, flagL]
theorem opR_sizes {o : OpR} (h : opR o = true) : o.key.size ≤ 10 ∧ o.val.size ≤ 16 ∧ (o.del = true → o.val = str []) := by
  simp only [opR, opB, keyB, valB, Bool.and_eq_true, inB_iff, decide_eq_true_eq] at h
  refine ⟨by omega, by omega, fun hd => ?_⟩
  have := h.2
  rw [hd] at this
  simp at this
  have e := str_of o.val
  rw [toList_data] at this
  rw [← e, this]
theorem rdOp_of {s : ByteArray} {p : Nat} {o : OpR} {r : List UInt8} (ho : opR o = true) (h : rem s p = opL o ++ r) : (rdOp s p).1 = o ∧ (rdOp s p).2.2 = false ∧ rem s (rdOp s p).2.1 = r := by
  obtain ⟨k1, v1, dv⟩ := opR_sizes ho
  obtain ⟨key, del, val⟩ := o
  simp only at k1 v1 dv
  cases del
  · have h' : rem s p = flagL false ++ (pieL key.data.toList ++ (pieL val.data.toList ++ r)) := by rw [h]; simp [opL, flagL]
    obtain ⟨f1, f2⟩ := rdFlag_of h'
    obtain ⟨a1, a2⟩ := takeP_of (by omega) f2
    obtain ⟨b1, b2⟩ := takeP_of (by omega) a2
    unfold rdOp
    rw [f1]
    simp only [Bool.false_eq_true, if_false]
    rw [rdShort_some a1]
    simp only
    rw [rdShort_some b1]
    exact ⟨rfl, rfl, b2⟩
  · have h' : rem s p = flagL true ++ (pieL key.data.toList ++ r) := by rw [h]; simp [opL, flagL]
    obtain ⟨f1, f2⟩ := rdFlag_of h'
    obtain ⟨a1, a2⟩ := takeP_of (by omega) f2
    unfold rdOp
    rw [f1]
    simp only [if_true]
    rw [rdShort_some a1]
    exact ⟨by rw [dv rfl], rfl, a2⟩
theorem rdOp_bd (s : ByteArray) (p : Nat) (h : (p : Int) ≤ s.size) : ((rdOp s p).2.1 : Int) ≤ s.size := by
  have h1 := rdFlag_bd s p false h
  have h2 := (rdShort_bd s _ (rdFlag s p false).2.2 h1).1
  have h3 := (rdShort_bd s _ (rdShort s (rdFlag s p false).2.1 (rdFlag s p false).2.2).2.2 h2).1
  unfold rdOp
  split
  · exact h2
  · exact h3
/-- The program's loop. -/
structure BI (s : ByteArray) (L : List OpR) (b : Bool) (n i : Nat) (l : List OpR) (p : Nat) (bad : Bool) : Prop where
  len : l.length = i
  six : i ≤ 6
  ps : (p : Int) ≤ s.size
  snd : bad = false → s.data.toList = varB n ++ (opsL l ++ rem s p) ∧ n ≤ 562949953421311
  cmp : b = true → bad = false ∧ n = L.length ∧ l = L.take i
theorem BI.start {s : ByteArray} {L : List OpR} {b : Bool} (h : BatC s L b) : BI s L b (rdNum s 0 false).1 0 [] (rdNum s 0 false).2.1 (rdNum s 0 false).2.2 := by
  refine ⟨rfl, by omega, (rdNum_bdI s 0 false (by omega)).1, fun hb => ?_, fun hb => ?_⟩
  · rcases hv : takeV s 0 with _ | ⟨x, q⟩
    · rw [rdNum_none hv] at hb; cases hb
    · rw [rdNum_some hv]
      obtain ⟨h1, h2, _, _⟩ := takeV_some hv
      rw [rem_zero] at h1
      exact ⟨by simpa [opsL] using h1, h2⟩
  · obtain ⟨h1, _, h3⟩ := h.text hb
    rw [← rem_zero] at h3
    have := (takeV_of (by omega) h3).1
    rw [rdNum_some this]
    exact ⟨rfl, rfl, by simp⟩
theorem opsL_drop (l : List OpR) (k : Nat) (h : k < l.length) : opsL (l.drop k) = opL l[k] ++ opsL (l.drop (k + 1)) := by
  rw [List.drop_eq_getElem_cons h]; unfold opsL; rw [List.flatMap_cons]
theorem opsL_append (a c : List OpR) : opsL (a ++ c) = opsL a ++ opsL c := by unfold opsL; rw [List.flatMap_append]
theorem opsL_split (l : List OpR) (k : Nat) : opsL l = opsL (l.take k) ++ opsL (l.drop k) := by rw [← opsL_append, List.take_append_drop]
theorem BI.rest {s : ByteArray} {L : List OpR} {b : Bool} {n i : Nat} {l : List OpR} {p : Nat} {bad : Bool} (hC : BatC s L b) (h : BI s L b n i l p bad) (hb : b = true) : rem s p = opsL (L.drop i) := by
  obtain ⟨h1, h2, h3⟩ := h.cmp hb
  have h4 := (h.snd h1).1
  have h5 := (hC.text hb).2.2
  rw [h4, h2, h3, opsL_split L i] at h5
  exact List.append_cancel_left (List.append_cancel_left h5)
theorem BI.step {s : ByteArray} {L : List OpR} {b : Bool} {n i : Nat} {l : List OpR} {p : Nat} (hC : BatC s L b) (h : BI s L b n i l p false) (hi : i < n) (h6 : i < 6) : BI s L b n (i + 1) (l ++ [(rdOp s p).1]) (rdOp s p).2.1 (rdOp s p).2.2 := by
  refine ⟨by simp [h.len], by omega, rdOp_bd s p h.ps, fun hb => ?_, fun hb => ?_⟩
  · obtain ⟨e1, e2⟩ := h.snd rfl
    refine ⟨?_, e2⟩
    rw [e1, rdOp_snd hb, opsL_append]
    simp [opsL]
  · obtain ⟨_, h2, h3⟩ := h.cmp hb
    have hr := h.rest hC hb
    have hil : i < L.length := by omega
    rw [opsL_drop L i hil] at hr
    have hop := (batch_ops (hC.yes hb).1).2 i hil
    obtain ⟨r1, r2, r3⟩ := rdOp_of hop hr
    refine ⟨r2, h2, ?_⟩
    rw [r1, h3, List.take_add_one, List.getElem?_eq_getElem hil]; rfl
theorem BI.fin {s : ByteArray} {L : List OpR} {b : Bool} {n i : Nat} {l : List OpR} {p : Nat} {bad : Bool} (hC : BatC s L b) (h : BI s L b n i l p bad) (hd : bad = true ∨ ¬ i < n ∨ ¬ i < 6) :
    b = ((!bad && p == s.size) && (l.length == n && batchB l)) ∧ (b = true → L = l) := by
  cases b
  · refine ⟨?_, fun h => by cases h⟩
    rcases hx : ((!bad && p == s.size) && (l.length == n && batchB l)) with _ | _
    · rfl
    · exfalso
      simp only [Bool.and_eq_true, Bool.not_eq_true', beq_iff_eq] at hx
      obtain ⟨⟨h1, h2⟩, h3, h4⟩ := hx
      obtain ⟨e1, e2⟩ := h.snd h1
      refine (hC.no rfl).2 l h4 ?_
      rw [showBL_yes h4, varL_nat (by omega), e1, h3]
      have : rem s p = [] := by rw [h2]; unfold rem; rw [List.drop_of_length_le (by simp)]
      rw [this, List.append_nil]
  · obtain ⟨h1, h2, h3⟩ := h.cmp rfl
    obtain ⟨t1, t2, t3⟩ := hC.text rfl
    have hr := h.rest hC rfl
    have hi : L.length ≤ i := by rcases hd with h | h | h <;> first | (rw [h1] at h; cases h) | omega
    have hl : l = L := by rw [h3, List.take_of_length_le hi]
    have hp : p = s.size := by
      rw [List.drop_of_length_le hi] at hr
      have := congrArg List.length hr
      rw [rem_length] at this
      have h0 : (opsL ([] : List OpR)).length = 0 := rfl
      have := h.ps
      omega
    refine ⟨?_, fun _ => hl.symm⟩
    rw [h1, hp, hl, h2, (hC.yes rfl).1]
    simp
/-- The reference's loop. -/
structure BS (s : ByteArray) (L : List OpR) (b : Bool) (n i : Nat) (l : List OpR) (p : Nat) : Prop where
  len : l.length = i
  le : i ≤ n
  ps : (p : Int) ≤ s.size
  cmp : b = true → n = L.length ∧ l = L.take i ∧ rem s p = opsL (L.drop i)
theorem BS.none {s : ByteArray} {L : List OpR} {b : Bool} (hC : BatC s L b) (hv : takeV s 0 = none) : b = false := by
  cases b
  · rfl
  · obtain ⟨h1, _, h3⟩ := hC.text rfl
    rw [← rem_zero] at h3
    rw [(takeV_of (by omega) h3).1] at hv
    cases hv
theorem BS.big {s : ByteArray} {L : List OpR} {b : Bool} {n p : Nat} (hC : BatC s L b) (hv : takeV s 0 = some (n, p)) (h6 : 6 < n) : b = false := by
  cases b
  · rfl
  · obtain ⟨h1, _, h3⟩ := hC.text rfl
    rw [← rem_zero] at h3
    rw [(takeV_of (by omega) h3).1] at hv
    simp at hv; omega
theorem BS.start {s : ByteArray} {L : List OpR} {b : Bool} {n p : Nat} (hC : BatC s L b) (hv : takeV s 0 = some (n, p)) : BS s L b n 0 [] p := by
  obtain ⟨g1, g2, g3, g4⟩ := takeV_some hv
  refine ⟨rfl, by omega, by omega, fun hb => ?_⟩
  obtain ⟨h1, _, h3⟩ := hC.text hb
  rw [← rem_zero] at h3
  obtain ⟨e1, e2⟩ := takeV_of (by omega) h3
  rw [e1] at hv
  simp only [Option.some.injEq, Prod.mk.injEq] at hv
  obtain ⟨rfl, rfl⟩ := hv
  exact ⟨rfl, by simp, by simpa using e2⟩
/-- An operation read by the reference. -/
def tkOp (s : ByteArray) (p : Nat) (d : Bool) : OpR × Int :=
  if d then (⟨(tkP s ((p : Int) + 1)).1, true, str []⟩, (tkP s ((p : Int) + 1)).2) else (⟨(tkP s ((p : Int) + 1)).1, false, (tkP s (tkP s ((p : Int) + 1)).2).1⟩, (tkP s (tkP s ((p : Int) + 1)).2).2)
theorem tkOp_of {s : ByteArray} {p : Nat} {o : OpR} {r : List UInt8} (hp : p < s.size) (ho : opR o = true) (h : rem s p = opL o ++ r) : ∃ q : Nat, tkOp s p (s[p] == 1) = (o, (q : Int)) ∧ rem s q = r ∧ (q : Int) ≤ s.size := by
  obtain ⟨k1, v1, dv⟩ := opR_sizes ho
  obtain ⟨key, del, val⟩ := o
  simp only at k1 v1 dv
  have hh : rem s p = s[p] :: rem s (p + 1) := by
    unfold rem; rw [List.drop_eq_getElem_cons (by simpa using hp)]; rfl
  have hc : ((p : Int) + 1) = ((p + 1 : Nat) : Int) := by omega
  cases del
  · have h' : s[p] :: rem s (p + 1) = 0 :: (pieL key.data.toList ++ (pieL val.data.toList ++ r)) := by rw [← hh, h]; simp [opL]
    obtain ⟨f1, f2⟩ := List.cons.inj h'
    obtain ⟨a1, a2⟩ := takeP_of (by omega) f2
    obtain ⟨b1, b2⟩ := takeP_of (by omega) a2
    have hb3 := (takeP_some b1).2.2.2.1
    refine ⟨_, ?_, b2, by omega⟩
    unfold tkOp
    rw [if_neg (by rw [f1]; decide), hc, tkP_some a1]
    simp only
    rw [tkP_some b1]
  · have h' : s[p] :: rem s (p + 1) = 1 :: (pieL key.data.toList ++ r) := by rw [← hh, h]; simp [opL]
    obtain ⟨f1, f2⟩ := List.cons.inj h'
    obtain ⟨a1, a2⟩ := takeP_of (by omega) f2
    have hb3 := (takeP_some a1).2.2.2.1
    refine ⟨_, ?_, a2, by omega⟩
    unfold tkOp
    rw [if_pos (by rw [f1]; decide), hc, tkP_some a1, dv rfl]
theorem BS.op {s : ByteArray} {L : List OpR} {b : Bool} {n i : Nat} {l : List OpR} {p : Nat} (hC : BatC s L b) (h : BS s L b n i l p) (hi : i < n) (hb : b = true) : ∃ hil : i < L.length, opR L[i] = true ∧ rem s p = opL L[i] ++ opsL (L.drop (i + 1)) := by
  obtain ⟨h2, h3, h4⟩ := h.cmp hb
  have hil : i < L.length := by omega
  refine ⟨hil, (batch_ops (hC.yes hb).1).2 i hil, ?_⟩
  rw [h4, opsL_drop L i hil]
theorem opL_pos (o : OpR) : 0 < (opL o).length := by unfold opL; split <;> simp
theorem BS.short {s : ByteArray} {L : List OpR} {b : Bool} {n i : Nat} {l : List OpR} {p : Nat} (hC : BatC s L b) (h : BS s L b n i l p) (hi : i < n) (hp : ¬ p < s.size) : b = false := by
  cases b
  · rfl
  · obtain ⟨hil, _, h3⟩ := h.op hC hi rfl
    have := congrArg List.length h3
    rw [rem_length, List.length_append] at this
    have := opL_pos L[i]
    omega
theorem BS.fail {s : ByteArray} {L : List OpR} {b : Bool} {n i : Nat} {l : List OpR} {p : Nat} (hC : BatC s L b) (h : BS s L b n i l p) (hi : i < n) (hp : p < s.size) (hn : (tkOp s p (s[p] == 1)).2 < 0) : b = false := by
  cases b
  · rfl
  · obtain ⟨hil, h1, h3⟩ := h.op hC hi rfl
    obtain ⟨q, hq, _⟩ := tkOp_of hp h1 h3
    rw [hq] at hn
    simp only at hn
    omega
theorem BS.step {s : ByteArray} {L : List OpR} {b : Bool} {n i : Nat} {l : List OpR} {p q : Nat} (hC : BatC s L b) (h : BS s L b n i l p) (hi : i < n) (hp : p < s.size) (hn : (tkOp s p (s[p] == 1)).2 = (q : Int)) (hqs : (q : Int) ≤ s.size) : BS s L b n (i + 1) (l ++ [(tkOp s p (s[p] == 1)).1]) q := by
  refine ⟨by simp [h.len], by omega, hqs, fun hb => ?_⟩
  obtain ⟨hil, h1, h3⟩ := h.op hC hi hb
  obtain ⟨h2, h5, _⟩ := h.cmp hb
  obtain ⟨q', hq, hr, _⟩ := tkOp_of hp h1 h3
  rw [hq] at hn ⊢
  simp only at hn
  obtain rfl : q' = q := by omega
  refine ⟨h2, ?_, hr⟩
  rw [h5, List.take_add_one, List.getElem?_eq_getElem hil]; rfl
theorem BS.fin {s : ByteArray} {L : List OpR} {b : Bool} {n i : Nat} {l : List OpR} {p p0 : Nat} (hC : BatC s L b) (h : BS s L b n i l p) (hv : takeV s 0 = some (n, p0)) (hi : ¬ i < n) :
    b = (decide (l.length ≠ 0) && showBL l == s.data.toList) ∧ (b = true → L = l) := by
  have hle := h.le
  cases b
  · refine ⟨?_, fun h => by cases h⟩
    rcases hx : (decide (l.length ≠ 0) && showBL l == s.data.toList) with _ | _
    · rfl
    · exfalso
      simp only [Bool.and_eq_true, decide_eq_true_eq, beq_iff_eq] at hx
      rcases hb : batchB l with _ | _
      · have h1 := takeV_some hv
        have h2 := hx.2
        rw [showBL_not hb] at h2
        have h3 := congrArg List.length h2
        have : s.data.toList.length = s.size := by simp
        simp at h3
        omega
      · exact (hC.no rfl).2 l hb hx.2
  · obtain ⟨h2, h3, h4⟩ := h.cmp rfl
    have hl : l = L := by rw [h3, List.take_of_length_le (by omega)]
    obtain ⟨t1, t2, t3⟩ := hC.text rfl
    refine ⟨?_, fun _ => hl.symm⟩
    rw [hl, (hC.yes rfl).2]
    have hne : L.length ≠ 0 := by omega
    simp only [hne, ne_eq, not_false_eq_true, decide_true, Bool.true_and]
    exact (beq_self_eq_true _).symm
end Sp
end Go.Proofs.Ytfbbdnicplbmdaa
/- Plain: what the law of the batches asks. -/
set_option linter.unusedVariables false
set_option linter.unusedSimpArgs false
namespace Go.Proofs.Ytfbbdnicplbmdaa
open Go.RowKit Sp Go.Sort
namespace Sp
theorem shown_back {l L : List OpR} {b : Bool} (h : BatC (str (showBL l)) L b) : b = batchB l ∧ (b = true → str (showBL L) = str (showBL l)) := by
  have h2 : b = true → str (showBL L) = str (showBL l) := fun hb => by rw [(h.yes hb).2, str_data]
  refine ⟨?_, h2⟩
  rcases hl : batchB l with _ | _
  · cases b
    · rfl
    · have ht := (h.text rfl).2.2
      rw [showBL_not hl, str_data] at ht
      have := varB_ne L.length
      cases hv : varB L.length with
      | nil => exact (this hv).elim
      | cons a t => rw [hv] at ht; cases ht
  · cases b
    · exact ((h.no rfl).2 l hl (by rw [str_data])).elim
    · rfl
theorem read_shown {t : ByteArray} {L : List OpR} {b : Bool} (h : BatC t L b) (hb : b = true) : str (showBL L) = t := by
  rw [(h.yes hb).2, str_of]
theorem batch_one {o : OpR} (h : opR o = true) : batchB [o] = true := by
  rw [batchB_all (l := [o])]
  · rfl
  · intro j hj
    have : j = 0 := by simpa using hj
    subst this
    simpa [opAt] using h
theorem apply_one {m : List KV} {o : OpR} (hm : mapB m = true) (ho : opR o = true) : applyL m [o] = put7 m o := by
  unfold applyL
  rw [if_pos hm, if_pos (batch_one ho)]
  rfl
theorem applied {m : List KV} {l : List OpR} (h : applyB m l = true) : applyL m l = puts m l ∧ mapB (puts m l) = true ∧ l.length ≤ 6 ∧ ∀ k (hk : k < l.length), applyL (puts m (l.take k)) [l[k]] = puts m (l.take (k + 1)) := by
  simp only [applyB, Bool.and_eq_true] at h
  obtain ⟨hm, hb⟩ := h
  obtain ⟨h6, hops⟩ := batch_ops hb
  have hall : ∀ x ∈ l, opR x = true := fun x hx => by
    obtain ⟨k, hk, rfl⟩ := List.getElem_of_mem hx
    exact hops k hk
  refine ⟨by unfold applyL; rw [if_pos hm, if_pos hb], puts_map hm hall, by omega, fun k hk => ?_⟩
  rw [apply_one (puts_map hm (fun x hx => hall x (List.mem_of_mem_take hx))) (hops k hk), puts_step m l k hk]
theorem notapplied {m : List KV} {l : List OpR} (h : applyB m l = false) (hm : mapB m = true) : applyL m l = m := by
  have hb : batchB l = false := by simpa [applyB, hm] using h
  unfold applyL
  rw [if_pos hm, hb]; rfl
theorem kvB_sz {x : KV} (h : kvB x = true) : x.sz ≤ 26 := by
  simp only [kvB, keyB, valB, Bool.and_eq_true, inB_iff, decide_eq_true_eq] at h
  unfold KV.sz
  omega
theorem map_sum {m : List KV} (h : mapB m = true) : ∀ k, k ≤ m.length → sumSz KV.sz (m.take k) ≤ 26 * k
  | 0, _ => by simp [sumSz]
  | k + 1, hk => by
    have h1 := map_sum h k (by omega)
    rw [sumSz_step _ _ _ (by omega)]
    have h2 := kvB_sz (mapB_all h k (by omega))
    omega
end Sp
end Go.Proofs.Ytfbbdnicplbmdaa
/- Walks: ReadBatch of the program. -/
set_option linter.unusedVariables false
set_option linter.unusedSimpArgs false
namespace Go.Proofs.Ytfbbdnicplbmdaa
open Go.RowKit Sp Go.Sort

set_option maxRecDepth 100000 in
set_option maxHeartbeats 1600000 in
theorem implReadBatch (s : ByteArray) (L : List OpR) (b : Bool) (hC : BatC s L b) (w : World) (hs : (s.size : Int) ≤ 1048576) :
    Calls Try.prog 31 #[.string s] w fun e w' => ∃ v', e = .returned (.tuple #[v', .bool b]) ∧ Row OpR.cells 138 3 w.heap.size w'.heap.size w' v' L ∧ Below w.heap.size w w' := by
  have r0 : Rd (w.alloc (.cells #[.string s, .int .i64 0, .bool false] 114)) w.heap.size s 0 false := ⟨114, heap_alloc_new w _⟩
  have b0 : Below w.heap.size w (w.alloc (.cells #[.string s, .int .i64 0, .bool false] 114)) := (Below.refl _ _).alloc (Nat.le_refl _) _
  have HST := Lib.hid (BI.start hC)
  have hbd := rdNum_bdI s 0 false (by omega)
  go_enter Try.func31, Try.ntmps31
  go_wp2_with fail
  refine (number_any w.heap.size 0 s false _ r0 (by omega) hs).mono ?_
  rintro e w1 ⟨rfl, r1, t1⟩
  have x1 := below_touch b0 t1 (Nat.le_refl _) b0.size
  have z1 := t1.size
  rw [World.size_alloc] at z1
  clear r0 b0 t1
  generalize rdNum s 0 false = rn at *
  obtain ⟨n, p0, bad0⟩ := rn
  simp only at r1 hbd
  have hn49 := hbd.2
  clear hbd
  go_wp2_with fail
  go_loopw [6, 7] (fun o i wr => ∃ (k p : Nat) (l : List OpR) (bad : Bool) (ao : Option Addr) (c : Nat), i = .int .i64 k ∧ o = .slice ao k c ∧ RowKit.Hid (BI s L b n k l p bad) ∧ Rd wr w.heap.size s p bad ∧ wr.ownsRow (w.heap.size + 1) 138 3 o k (l.map OpR.cells).flatten ∧ Below w.heap.size w wr) (fun _ i _ => 6 - (intOf i).toNat)
  case atStart => exact ⟨0, p0, [], bad0, none, 0, rfl, rfl, HST, r1, World.ownsRow_nil _ _ _ _, x1⟩
  case round =>
    obtain ⟨k, p, l, bad, ao, c, rfl, rfl, HB, hr, ho, xb⟩ := hrel
    obtain ⟨c0, c1, c2, zf⟩ := hr.facts
    have hp := HB.out.ps
    have zr := hr.lt
    have zr := hr.lt
    have zr := hr.lt
    have zr := hr.lt
    have zr := hr.lt
    by_cases hgo : bad = false ∧ k < n ∧ k < 6
    · obtain ⟨rfl, hn, h6⟩ := hgo
      have HN := Lib.hid (HB.out.step hC hn h6)
      have HO := Lib.hid (show rdOp s p = if (rdFlag s p false).1 then (⟨(rdShort s (rdFlag s p false).2.1 (rdFlag s p false).2.2).1, true, str []⟩, (rdShort s (rdFlag s p false).2.1 (rdFlag s p false).2.2).2)
        else (⟨(rdShort s (rdFlag s p false).2.1 (rdFlag s p false).2.2).1, false, (rdShort s (rdShort s (rdFlag s p false).2.1 (rdFlag s p false).2.2).2.1 (rdShort s (rdFlag s p false).2.1 (rdFlag s p false).2.2).2.2).1⟩,
          (rdShort s (rdShort s (rdFlag s p false).2.1 (rdFlag s p false).2.2).2.1 (rdShort s (rdFlag s p false).2.1 (rdFlag s p false).2.2).2.2).2) from rfl)
      have d2 := rdFlag_bd s p false hp
      go_wp2_with fail
      refine (flag_rd w.heap.size p s false _ hr hp hs).mono ?_
      rintro e w2 ⟨rfl, r2, t2⟩
      have x2 := below_touch xb t2 (Nat.le_refl _) xb.size
      have o2 := own_grown ho t2 (fun k hk e => by have := (ho.lt _ hk).1; have := Option.some.inj e; omega)
      generalize rdFlag s p false = fv at *
      obtain ⟨fl, p2, bad2⟩ := fv
      simp only at r2 d2 HO
      clear hr t2 ho c0 c1 c2 zf
      have d3 := rdShort_bd s p2 bad2 d2
      have B3 := Bx.new w2 #[.string ByteArray.empty, .bool fl, .string ByteArray.empty] 138
      have r3 := Rd.below r2 ((Below.refl w2.heap.size w2).alloc (Nat.le_refl _) (.cells #[.string ByteArray.empty, .bool fl, .string ByteArray.empty] 138))
      have o3 := o2.alloc (.cells #[.string ByteArray.empty, .bool fl, .string ByteArray.empty] 138)
      have x3 := x2.alloc x2.size (.cells #[.string ByteArray.empty, .bool fl, .string ByteArray.empty] 138)
      go_wp2_with fail
      refine (short_rd w.heap.size p2 s bad2 _ r3 d2 hs).mono ?_
      rintro e w4 ⟨rfl, r4, t4⟩
      have x4 := below_touch x3 t4 (Nat.le_refl _) x3.size
      have z2 := r2.lt
      have B4 := B3.grown t4 (by intro e; have := Option.some.inj e; omega)
      have o4 := own_grown o3 t4 (fun k hk e => by have := (o3.lt _ hk).1; have := Option.some.inj e; omega)
      generalize rdShort s p2 bad2 = sv at *
      obtain ⟨ky, p4, bad4⟩ := sv
      simp only at r4 d3 HO
      clear r3 t4 B3 x3
      generalize hbo : w2.heap.size = bo at *
      have r5 : Rd (w4.setCell ⟨bo, 0, none⟩ (.string ky)) w.heap.size s p4 bad4 := Rd.of (r4.bx.far ⟨bo, 0, none⟩ _ (by simp; omega))
      have B5 : Bx (w4.setCell ⟨bo, 0, none⟩ (.string ky)) bo #[.string ky, .bool fl, .string ByteArray.empty] := B4.set 0 _
      have x5 := below_set x4 ⟨bo, 0, none⟩ (.string ky) (by simp; omega)
      have c0 := B4.cell 0 _ rfl
      have c1 := B4.cell 1 _ rfl
      have zf := B4.frozen
      have f0 := B5.cell 0 _ rfl
      have f1 := B5.cell 1 _ rfl
      have f2 := B5.cell 2 _ rfl
      have hne : ∀ k', (Value.slice ao k c).ownBlock = some k' → k' ≠ bo := fun k' hk' => by
        have := (o2.lt _ hk').2; omega
      have o5 := own_far o4 ⟨bo, 0, none⟩ (.string ky) (fun e => hne _ e rfl)
      cases fl
      · simp only [Bool.false_eq_true, if_false] at HO
        go_wp2_with fail
        refine (short_rd w.heap.size p4 s bad4 _ r5 d3.1 hs).mono ?_
        rintro e w6 ⟨rfl, r6, t6⟩
        have x6 := below_touch x5 t6 (Nat.le_refl _) x5.size
        have B6 := B5.grown t6 (by intro e; have := Option.some.inj e; omega)
        have o6 := own_grown o5 t6 (fun k hk e => by have := (o5.lt _ hk).1; have := Option.some.inj e; omega)
        clear c0 c1 zf f0 f1 f2
        have d6 := rdShort_bd s p4 bad4 d3.1
        generalize rdShort s p4 bad4 = sv at *
        obtain ⟨vl, p6, bad6⟩ := sv
        simp only at r6 d6 HO
        have r7 : Rd (w6.setCell ⟨bo, 2, none⟩ (.string vl)) w.heap.size s p6 bad6 := Rd.of (r6.bx.far ⟨bo, 2, none⟩ _ (by simp; omega))
        have B7 : Bx (w6.setCell ⟨bo, 2, none⟩ (.string vl)) bo #[.string ky, .bool false, .string vl] := B6.set 2 _
        have x7 := below_set x6 ⟨bo, 2, none⟩ (.string vl) (by simp; omega)
        have c2 := B6.cell 2 _ rfl
        have zf := B6.frozen
        have o7 := own_far o6 ⟨bo, 2, none⟩ (.string vl) (fun e => hne _ e rfl)
        clear d3 d6
        have q0 := B7.cell 0 _ rfl
        have q1 := B7.cell 1 _ rfl
        have q2 := B7.cell 2 _ rfl
        go_wp2_with (at_builtin; refine app_new rfl rfl Try.underlying44 info_Op rfl (by decide) o7 rfl 1 (by simp [Act.eval]) rfl (by simp [Value.oneCell']) (by omega) x7 (Nat.le_succ _) (by have := r7.lt; omega) ?_; intro v8 w8 r8 x8 g8)
        have R8 := Rd.of (r7.bx.grown g8 (by intro e; have := (o7.lt _ e).1; omega))
        obtain ⟨g, cap, rfl⟩ := own_sl r8 (by omega)
        go_roundw
        case rel => exact ⟨k + 1, _, _, _, _, _, by go_num, rfl, HN.out, by rw [HO.out]; exact R8, by rw [HO.out]; simpa [OpR.cells] using r8, x8⟩
        case measure => simp [intOf]; omega
      · simp only [if_true] at HO
        rw [show str [] = ByteArray.empty from rfl] at HO
        clear d3
        have q0 := B5.cell 0 _ rfl
        have q1 := B5.cell 1 _ rfl
        have q2 := B5.cell 2 _ rfl
        go_wp2_with (at_builtin; refine app_new rfl rfl Try.underlying44 info_Op rfl (by decide) o5 rfl 1 (by simp [Act.eval]) rfl (by simp [Value.oneCell']) (by omega) x5 (Nat.le_succ _) (by have := r5.lt; omega) ?_; intro v8 w8 r8 x8 g8)
        have R8 := Rd.of (r5.bx.grown g8 (by intro e; have := (o5.lt _ e).1; omega))
        obtain ⟨g, cap, rfl⟩ := own_sl r8 (by omega)
        go_roundw
        case rel => exact ⟨k + 1, _, _, _, _, _, by go_num, rfl, HN.out, by rw [HO.out]; exact R8, by rw [HO.out]; simpa [OpR.cells] using r8, x8⟩
        case measure => simp [intOf]; omega
    · have HF := Lib.hid (HB.out.fin hC (by cases bad <;> first | exact .inl rfl | (right; simp only [true_and, Classical.not_and_iff_not_or_not] at hgo; omega)))
      have HL := Lib.hid HB.out.len
      have h66 := HB.out.six
      obtain rfl : k = l.length := HL.out.symm
      clear HB HST
      have hx : (bad = true ∧ (l.length : Int) < min (n : Int) 6) ∨ ¬ (l.length : Int) < min (n : Int) 6 := by
        by_cases h : (l.length : Int) < min (n : Int) 6
        · left; refine ⟨?_, h⟩
          cases bad
          · exact absurd ⟨rfl, by omega, by omega⟩ hgo
          · rfl
        · exact .inr h
      clear hgo
      rcases hx with ⟨hb, hx⟩ | hx
      all_goals
        go_wp2_with fail
        refine (done_any w.heap.size p s bad _ hr hs).mono ?_
        rintro e w2 ⟨rfl, b2⟩
        have x2 := xb.trans (b2.mono xb.size)
        have o2 := own_below ho b2
        clear hr ho c0 c1 c2 zf b2 xb
        try clear hb
        generalize (!bad && p == s.size) = dn at *
        cases dn
        · obtain rfl : b = false := by rw [HF.out.1, Bool.false_and]
          obtain rfl : L = [] := (hC.no rfl).1
          clear hx
          go_wp2
          refine bodyPost_ret (v := .tuple #[.slice none 0 0, .bool false]) (by simp [results, Try.results31, go_sem]) rfl ⟨_, rfl, Row.nil _ _ _, x2⟩
        · simp only [Bool.true_and] at HF
          by_cases hkn : l.length = n
          · rw [beq_iff_eq.2 hkn, Bool.true_and] at HF
            have hg : ((l.length : Int) != (n : Int)) = false := by simp; omega
            have HK := Lib.hid hkn
            have hs2 : SlT OpR.cells 3 w2 (.slice ao l.length c) l := SlT.of_own o2 (fun _ => rfl) (by decide)
            have hl6 : (l.length : Int) ≤ 1048576 := by omega
            clear hkn hx
            go_wp2_with fail
            refine (implBatchOk _ l _ hs2 hl6).mono ?_
            rintro e w3 ⟨rfl, b3⟩
            have x3 := x2.trans (b3.mono x2.size)
            have o3 := own_below o2 b3
            clear hs2 o2 b3 hl6
            rcases hbl : batchB l with _ | _
            · obtain rfl : b = false := by rw [HF.out.1, hbl]
              obtain rfl : L = [] := (hC.no rfl).1
              clear hbl
              go_wp2
              refine bodyPost_ret (v := .tuple #[.slice none 0 0, .bool false]) (by simp [results, Try.results31, go_sem]) rfl ⟨_, rfl, Row.nil _ _ _, x3⟩
            · obtain rfl : b = true := by rw [HF.out.1, hbl]
              have HLL := Lib.hid (HF.out.2 rfl)
              clear hbl
              go_wp2
              refine bodyPost_ret (v := .tuple #[.slice ao l.length c, .bool true]) (by simp [results, Try.results31, go_sem]) rfl ⟨_, rfl, ?_, x3⟩
              rw [HLL.out]
              exact Row.up o3 rfl (Nat.le_succ _)
          · have hne : (l.length == n) = false := by simpa using hkn
            obtain rfl : b = false := by rw [HF.out.1, hne, Bool.false_and]
            obtain rfl : L = [] := (hC.no rfl).1
            have hg : ((l.length : Int) != (n : Int)) = true := by simp; omega
            clear hx hkn hne
            go_wp2
            refine bodyPost_ret (v := .tuple #[.slice none 0 0, .bool false]) (by simp [results, Try.results31, go_sem]) rfl ⟨_, rfl, Row.nil _ _ _, x2⟩
end Go.Proofs.Ytfbbdnicplbmdaa
/- Walks: ReadBatch of the reference. -/
set_option linter.unusedVariables false
set_option linter.unusedSimpArgs false
namespace Go.Proofs.Ytfbbdnicplbmdaa
open Go.RowKit Sp Go.Sort
theorem u8_one (x : UInt8) : ((x.toNat : Int) == 1) = (x == 1) := by
  rw [Bool.eq_iff_iff, beq_iff_eq, beq_iff_eq]
  constructor
  · intro h; exact UInt8.toNat_inj.1 (by show x.toNat = 1; omega)
  · rintro rfl; rfl

set_option maxRecDepth 100000 in
set_option maxHeartbeats 1600000 in
theorem specReadBatch (s : ByteArray) (L : List OpR) (b : Bool) (hC : BatC s L b) (w : World) (hs : (s.size : Int) ≤ 1048576) :
    Calls Try.prog 33 #[.string s] w fun e w' => ∃ v', e = .returned (.tuple #[v', .bool b]) ∧ SlT OpR.cells 3 w' v' L ∧ Below w.heap.size w w' := by
  have h0 : (w.alloc (.cells #[] 138)).ownsRow w.heap.size 138 3 (.slice (some ⟨w.heap.size, 0, none⟩) 0 0) 0 [] := World.ownsRow_lit w #[] 0 (Nat.le_refl _) (by simp [maxLen]) rfl
  have x0 : Below w.heap.size w (w.alloc (.cells #[] 138)) := (Below.refl _ _).alloc (Nat.le_refl _) _
  have hnil : ∀ (W : World) (a : Addr), SlT OpR.cells 3 W (.slice (some a) 0 0) ([] : List OpR) := fun W a => ⟨some a, 0, rfl, Nat.le_refl _, by decide, fun h => absurd h (by simp)⟩
  rcases hv : takeV s 0 with _ | ⟨n, p0⟩
  · obtain rfl : b = false := BS.none hC hv
    obtain rfl : L = [] := (hC.no rfl).1
    have hv' : tkV s 0 = none := by rw [show (0 : Int) = ((0 : Nat) : Int) from rfl, tkV_nat]; exact hv
    clear hv
    go_enter Try.func33, Try.ntmps33
    go_wp2_with fail
    refine (vars1_none s 0 _ hs hv').mono ?_
    rintro e w1 ⟨g, c, rfl, b1⟩
    have x1 := x0.trans (b1.mono x0.size)
    go_wp2
    refine bodyPost_ret (v := .tuple #[.slice (some ⟨w.heap.size, 0, none⟩) 0 0, .bool false]) (by simp [results, Try.results33, go_sem]) rfl ⟨_, rfl, hnil _ _, x1⟩
  · have hv' : tkV s 0 = some (n, p0) := by rw [show (0 : Int) = ((0 : Nat) : Int) from rfl, tkV_nat]; exact hv
    by_cases h6 : 6 < n
    · obtain rfl : b = false := BS.big hC hv h6
      obtain rfl : L = [] := (hC.no rfl).1
      clear hv
      go_enter Try.func33, Try.ntmps33
      go_wp2_with fail
      refine (vars1_some s 0 n p0 _ hs hv').mono ?_
      rintro e w1 ⟨g, c, rfl, cg, _, _, b1⟩
      have x1 := x0.trans (b1.mono x0.size)
      have hp0 : ¬ (p0 : Int) < 0 := by omega
      clear hv'
      go_wp2
      refine bodyPost_ret (v := .tuple #[.slice (some ⟨w.heap.size, 0, none⟩) 0 0, .bool false]) (by simp [results, Try.results33, go_sem]) rfl ⟨_, rfl, hnil _ _, x1⟩
    · have HV := Lib.hid hv
      have HST := Lib.hid (BS.start hC hv)
      clear hv
      go_enter Try.func33, Try.ntmps33
      go_wp2_with fail
      refine (vars1_some s 0 n p0 _ hs hv').mono ?_
      rintro e w1 ⟨g, c, rfl, cg, g1, g2, b1⟩
      have x1 := x0.trans (b1.mono x0.size)
      have o1 := own_below h0 b1
      have hp0 : ¬ (p0 : Int) < 0 := by omega
      rw [World.size_alloc] at g1
      clear hv' h0 b1
      go_wp2
      go_loopw [4, 6, 7] (fun o a i wr => ∃ (k p : Nat) (l : List OpR) (ao : Option Addr) (cp : Nat), i = .int .i64 k ∧ a = .int .i64 p ∧ o = .slice ao k cp ∧ RowKit.Hid (BS s L b n k l p) ∧ wr.cell? ⟨g, 0, none⟩ = some (.int .i64 n) ∧ g < wr.heap.size ∧ o.ownBlock ≠ some g ∧ wr.ownsRow w.heap.size 138 3 o k (l.map OpR.cells).flatten ∧ Below w.heap.size w wr) (fun _ _ i _ => n - (intOf i).toNat)
      case atStart => exact ⟨0, p0, [], _, _, rfl, rfl, rfl, HST, cg, g2, by simp [Value.ownBlock]; omega, o1, x1⟩
      case round =>
        clear HST o1 x1 cg g2 x0
        obtain ⟨k, p, l, ao, cp, rfl, rfl, rfl, HB, cg, g2, hob, ho, xb⟩ := hrel
        have hp := HB.out.ps
        have hk6 := HB.out.le
        by_cases hk : k < n
        · by_cases hps : p < s.size
          · have W1 : IntKind.i64.wrap ((p : Int) + 1) = (p : Int) + 1 := by rw [IntKind.wrap_i64]; omega
            have hu := u8_one s[p]
            rcases hd : (s[p] == 1) with _ | _
            · have HD := Lib.hid hd
              have HO := Lib.hid (show tkOp s p false = (⟨(tkP s ((p : Int) + 1)).1, false, (tkP s (tkP s ((p : Int) + 1)).2).1⟩, (tkP s (tkP s ((p : Int) + 1)).2).2) from rfl)
              rw [hd] at hu
              clear hd
              go_wp2_with fail
              refine (take_any s ((p : Int) + 1) _ hs).mono ?_
              rintro e w2 ⟨rfl, b2⟩
              have x2 := xb.trans (b2.mono xb.size)
              have o2 := own_below ho b2
              have cg2 := (b2.cell (p := ⟨g, 0, none⟩) g2).trans cg
              have g22 := Nat.lt_of_lt_of_le g2 b2.size
              have d2 := tkP_bd s ((p : Int) + 1)
              clear cg ho
              generalize tkP s ((p : Int) + 1) = tv at *
              obtain ⟨ky, e1⟩ := tv
              simp only at d2 HO
              go_wp2_with fail
              refine (take_any s e1 _ hs).mono ?_
              rintro e w3 ⟨rfl, b3⟩
              have x3 := x2.trans (b3.mono x2.size)
              have o3 := own_below o2 b3
              have cg3 := (b3.cell (p := ⟨g, 0, none⟩) g22).trans cg2
              have g23 := Nat.lt_of_lt_of_le g22 b3.size
              have d3 := tkP_bd s e1
              clear cg2 o2 d2
              generalize tkP s e1 = tv at *
              obtain ⟨vl, e2⟩ := tv
              simp only at d3 HO
              clear b2 b3
              by_cases he : e2 < 0
              · obtain rfl : b = false := HB.out.fail hC hk hps (by rw [HD.out, HO.out]; exact he)
                obtain rfl : L = [] := (hC.no rfl).1
                clear HB
                go_wp2
                refine bodyPost_ret (v := .tuple #[.slice (some ⟨w3.heap.size, 0, none⟩) 0 0, .bool false]) (by simp [results, Try.results33, go_sem]) rfl ⟨_, rfl, hnil _ _, x3.alloc x3.size _⟩
              · obtain ⟨q, rfl⟩ : ∃ q : Nat, e2 = (q : Int) := ⟨e2.toNat, by omega⟩
                have HN := Lib.hid (HB.out.step hC hk hps (q := q) (by rw [HD.out, HO.out]) (by omega))
                clear HB
                go_wp2_with (at_builtin; go_loud (refine app_new_at rfl rfl Try.underlying44 info_Op rfl (by decide) o3 rfl 1 (by simp [Act.eval]) rfl (by simp [Value.oneCell']) (by omega) x3 (Nat.le_refl _) x3.size ?_; intro v8 w8 r8 x8 g8 p8))
                have hb8 : v8.ownBlock ≠ some g := by
                  intro h
                  rcases p8 with p | p <;> rw [p] at h
                  · exact hob h
                  · have := Option.some.inj h; omega
                have c8 := ((gcell g8 (b := g) (by omega) hob).1 0).trans cg3
                have z8 := g8.size
                obtain ⟨g', cap, rfl⟩ := own_sl r8 (by omega)
                go_roundw
                case rel => exact ⟨k + 1, q, _, _, _, by go_num, rfl, rfl, HN, c8, by omega, hb8, by rw [HD.out, HO.out]; simpa [OpR.cells] using r8, x8⟩
                case measure => simp [intOf]; omega
            · have HD := Lib.hid hd
              have HO := Lib.hid (show tkOp s p true = (⟨(tkP s ((p : Int) + 1)).1, true, ⟨#[]⟩⟩, (tkP s ((p : Int) + 1)).2) from rfl)
              rw [hd] at hu
              clear hd
              go_wp2_with fail
              refine (take_any s ((p : Int) + 1) _ hs).mono ?_
              rintro e w2 ⟨rfl, b2⟩
              have x2 := xb.trans (b2.mono xb.size)
              have o2 := own_below ho b2
              have cg2 := (b2.cell (p := ⟨g, 0, none⟩) g2).trans cg
              have g22 := Nat.lt_of_lt_of_le g2 b2.size
              have d2 := tkP_bd s ((p : Int) + 1)
              clear cg ho
              generalize tkP s ((p : Int) + 1) = tv at *
              obtain ⟨ky, e1⟩ := tv
              simp only at d2 HO
              clear b2
              by_cases he : e1 < 0
              · obtain rfl : b = false := HB.out.fail hC hk hps (by rw [HD.out, HO.out]; exact he)
                obtain rfl : L = [] := (hC.no rfl).1
                clear HB
                go_wp2
                refine bodyPost_ret (v := .tuple #[.slice (some ⟨w2.heap.size, 0, none⟩) 0 0, .bool false]) (by simp [results, Try.results33, go_sem]) rfl ⟨_, rfl, hnil _ _, x2.alloc x2.size _⟩
              · obtain ⟨q, rfl⟩ : ∃ q : Nat, e1 = (q : Int) := ⟨e1.toNat, by omega⟩
                have HN := Lib.hid (HB.out.step hC hk hps (q := q) (by rw [HD.out, HO.out]) (by omega))
                clear HB
                go_wp2_with (at_builtin; go_loud (refine app_new_at rfl rfl Try.underlying44 info_Op rfl (by decide) o2 rfl 1 (by simp [Act.eval]) rfl (by simp [Value.oneCell']) (by omega) x2 (Nat.le_refl _) x2.size ?_; intro v8 w8 r8 x8 g8 p8))
                have hb8 : v8.ownBlock ≠ some g := by
                  intro h
                  rcases p8 with p | p <;> rw [p] at h
                  · exact hob h
                  · have := Option.some.inj h; omega
                have c8 := ((gcell g8 (b := g) (by omega) hob).1 0).trans cg2
                have z8 := g8.size
                obtain ⟨g', cap, rfl⟩ := own_sl r8 (by omega)
                go_roundw
                case rel => exact ⟨k + 1, q, _, _, _, by go_num, rfl, rfl, HN, c8, by omega, hb8, by rw [HD.out, HO.out]; simpa [OpR.cells] using r8, x8⟩
                case measure => simp [intOf]; omega
          · obtain rfl : b = false := HB.out.short hC hk hps
            obtain rfl : L = [] := (hC.no rfl).1
            clear HB
            go_wp2
            refine bodyPost_ret (v := .tuple #[.slice (some ⟨wr.heap.size, 0, none⟩) 0 0, .bool false]) (by simp [results, Try.results33, go_sem]) rfl ⟨_, rfl, hnil _ _, xb.alloc xb.size _⟩
        · have HF := Lib.hid (HB.out.fin hC HV.out hk)
          have HL := Lib.hid HB.out.len
          obtain rfl : k = l.length := HL.out.symm
          clear HB HV
          have hs2 : SlT OpR.cells 3 wr (.slice ao l.length cp) l := SlT.of_own ho (fun _ => rfl) (by decide)
          have hl6 : (l.length : Int) ≤ 1048576 := by omega
          by_cases h0 : l.length = 0
          · obtain rfl : l = [] := List.eq_nil_of_length_eq_zero h0
            obtain rfl : b = false := by rw [HF.out.1]; rfl
            obtain rfl : L = [] := (hC.no rfl).1
            clear h0
            go_wp2
            refine bodyPost_ret (v := .tuple #[.slice (some ⟨wr.heap.size, 0, none⟩) 0 0, .bool false]) (by simp [results, Try.results33, go_sem]) rfl ⟨_, rfl, hnil _ _, xb.alloc xb.size _⟩
          · have hlen0 : decide (l.length ≠ 0) = true := by simpa using h0
            have HF2 := Lib.hid (show b = (showBL l == s.data.toList) ∧ (b = true → L = l) from ⟨by rw [HF.out.1, hlen0, Bool.true_and], HF.out.2⟩)
            clear hlen0
            have hcmp : ((str (showBL l)).toList == s.toList) = (showBL l == s.data.toList) := by rw [str_toList, toList_data]
            clear HF
            go_wp2_with fail
            refine (specShowBatch _ l _ hs2 hl6).mono ?_
            rintro e w2 ⟨rfl, b2⟩
            have x2 := xb.trans (b2.mono xb.size)
            have hs3 := hs2.below b2
            clear hs2 b2
            rcases hq : (showBL l == s.data.toList) with _ | _
            · obtain rfl : b = false := by rw [HF2.out.1, hq]
              obtain rfl : L = [] := (hC.no rfl).1
              rw [hq] at hcmp
              clear hq
              go_wp2
              refine bodyPost_ret (v := .tuple #[.slice (some ⟨w2.heap.size, 0, none⟩) 0 0, .bool false]) (by simp [results, Try.results33, go_sem]) rfl ⟨_, rfl, hnil _ _, x2.alloc x2.size _⟩
            · obtain rfl : b = true := by rw [HF2.out.1, hq]
              have HLL := Lib.hid (HF2.out.2 rfl)
              rw [hq] at hcmp
              clear hq
              go_wp2
              refine bodyPost_ret (v := .tuple #[.slice ao l.length cp, .bool true]) (by simp [results, Try.results33, go_sem]) rfl ⟨_, rfl, ?_, x2⟩
              rw [HLL.out]
              exact hs3
end Go.Proofs.Ytfbbdnicplbmdaa
/- Walks: sameMap at equal lists. -/
set_option linter.unusedVariables false
set_option linter.unusedSimpArgs false
namespace Go.Proofs.Ytfbbdnicplbmdaa
open Go.RowKit Sp Go.Sort

set_option maxRecDepth 100000 in
set_option maxHeartbeats 1600000 in
theorem sameMap_eq (u v : Value) (l : List KV) (w : World) (hu : SlT KV.cells 2 w u l) (hv : SlT KV.cells 2 w v l) (hl : (l.length : Int) ≤ 1048576) :
    Calls Try.prog 26 #[u, v] w fun e w' => e = .returned (.bool true) ∧ Below w.heap.size w w' := by
  obtain ⟨ao, cap, rfl, hlc, hcm, hsh⟩ := hu.shape
  obtain ⟨bo, cbp, rfl, hlc1, hcm1, hsh1⟩ := hv.shape
  go_enter Try.func26, Try.ntmps26
  go_wp2
  go_loopw [5] (fun i wr => ∃ k : Nat, i = .int .i64 k ∧ k ≤ l.length ∧ Below w.heap.size w wr) (fun i _ => l.length - (intOf i).toNat)
  case atStart => exact ⟨0, rfl, Nat.zero_le _, Below.refl _ _⟩
  case round =>
    obtain ⟨k, rfl, hk, xr⟩ := hrel
    by_cases hlt : k < l.length
    · obtain ⟨b, off, rfl, hb, hc⟩ := hsh (by omega)
      obtain ⟨b', off', rfl, hb', hc'⟩ := hsh1 (by omega)
      have k0 : wr.cell? ⟨b, off + k * 2, none⟩ = some (.string l[k].key) := (xr.cell (p := ⟨b, off + k * 2, none⟩) hb).trans (hc k hlt 0 _ rfl)
      have k1 : wr.cell? ⟨b, off + k * 2 + 1, none⟩ = some (.string l[k].val) := (xr.cell (p := ⟨b, off + k * 2 + 1, none⟩) hb).trans (hc k hlt 1 _ rfl)
      have m0 : wr.cell? ⟨b', off' + k * 2, none⟩ = some (.string l[k].key) := (xr.cell (p := ⟨b', off' + k * 2, none⟩) hb').trans (hc' k hlt 0 _ rfl)
      have m1 : wr.cell? ⟨b', off' + k * 2 + 1, none⟩ = some (.string l[k].val) := (xr.cell (p := ⟨b', off' + k * 2 + 1, none⟩) hb').trans (hc' k hlt 1 _ rfl)
      clear hc hc' hsh hsh1
      generalize l[k].key = f0 at *
      generalize l[k].val = f1 at *
      go_wp2_with fail
      go_quiet (fail)
      go_wp2
      go_roundw
      case rel => exact ⟨k + 1, by go_num, hlt, below_drewN xr _⟩
      case measure => simp [intOf]; omega
    · go_wp2
      go_ret
      exact ⟨rfl, xr⟩
end Go.Proofs.Ytfbbdnicplbmdaa
/- Walks: Bytes of the reference and of the program. -/
set_option linter.unusedVariables false
set_option linter.unusedSimpArgs false
namespace Go.Proofs.Ytfbbdnicplbmdaa
open Go.RowKit Sp Go.Sort
namespace Sp
def bytesV (l : List KV) : Int := if mapB l then sumSz KV.sz l else 0
end Sp

set_option maxRecDepth 100000 in
set_option maxHeartbeats 800000 in
theorem specBytes (v : Value) (l : List KV) (w : World) (h : SlT KV.cells 2 w v l) (hl : (l.length : Int) ≤ 1048576) (hsum : sumSz KV.sz l ≤ 1048576) :
    Calls Try.prog 28 #[v] w fun e w' => e = .returned (.int .i64 (bytesV l)) ∧ Below w.heap.size w w' := by
  obtain ⟨ao, cap, hv, hlc, hcm, hsh⟩ := h.shape
  subst hv
  have hnn := sumSz_nonneg KV.sz_nonneg l
  by_cases hz : l.length = 0
  · have hz' : l = [] := List.length_eq_zero_iff.1 hz
    subst hz'
    have HR : bytesV [] = 0 := by decide
    clear hsh h
    go_enter Try.func28, Try.ntmps28
    go_wp2
    refine wp_loop_rounds 1 ?_
    rw [rounds_succ]; go_wp2
    go_ret
    exact ⟨by first | rfl | (rw [HR]; rfl), Below.refl _ _⟩
  by_cases hm : mapB l = true
  · go_enter Try.func28, Try.ntmps28
    go_wp2
    go_loopw [3, 4] (fun n i wr => ∃ k : Nat, (k : Int) ≤ l.length ∧ i = .int .i64 k ∧ n = .int .i64 (sumSz KV.sz (l.take k)) ∧ Below w.heap.size w wr) (fun _ i _ => l.length - (intOf i).toNat)
    case atStart => exact ⟨0, by omega, rfl, by simp [sumSz], Below.refl _ _⟩
    case round =>
      obtain ⟨k, hk, rfl, rfl, hbl⟩ := hrel
      have hnk := sumSz_nonneg KV.sz_nonneg (l.take k)
      by_cases hlt : (k : Int) < l.length
      · have hltn : k < l.length := by omega
        have hw := h.below hbl
        obtain ⟨b, off, rfl, hb, hc⟩ := hsh (by omega)
        have hc0 : w.cell? ⟨b, off + k * 2, none⟩ = some (.string l[k].key) := hc k hltn 0 _ rfl
        have hc1 : w.cell? ⟨b, off + k * 2 + 1, none⟩ = some (.string l[k].val) := hc k hltn 1 _ rfl
        have hst := sumSz_step KV.sz l k hltn
        have hmo := sumSz_take_le KV.sz_nonneg l (k + 1)
        have hzz := KV.sz_nonneg l[k]
        have hz1 : KV.sz l[k] = l[k].key.size + l[k].val.size := rfl
        have HST := Lib.hid hst
        have HZ := Lib.hid hz1
        have m1 : IntKind.i64.wrap (sumSz KV.sz (l.take k) + l[k].key.size) = sumSz KV.sz (l.take k) + l[k].key.size := by rw [IntKind.wrap_i64]; omega
        have m2 : IntKind.i64.wrap (sumSz KV.sz (l.take k) + l[k].key.size + l[k].val.size) = sumSz KV.sz (l.take k) + l[k].key.size + l[k].val.size := by rw [IntKind.wrap_i64]; omega
        clear hst hsh hz1 hc
        generalize sumSz KV.sz (l.take k) = q at *
        go_wp2_with (go_at_call 25; refine (specMapOk _ l _ hw hl).mono ?_; rintro e w2 ⟨rfl, hb2⟩; rw [hm]; have hb3 := hbl.trans (hb2.mono hbl.size); have kc0 := (hb3.cell (by exact hb)).trans hc0; have kc1 := (hb3.cell (by exact hb)).trans hc1)
        go_quiet (fail)
        go_wp2
        go_roundw
        case rel => exact ⟨k + 1, by omega, by go_num, by rw [HST.out]; exact congrArg (Value.int .i64) (by have := HZ.out; omega), below_drewN hb3 _⟩
        case measure => simp [intOf]; omega
      · obtain rfl : k = l.length := by omega
        rw [List.take_length] at *
        have HR : bytesV l = sumSz KV.sz l := by unfold bytesV; rw [if_pos hm]
        clear hsh h
        go_wp2
        go_ret
        exact ⟨by first | rfl | (rw [HR]; rfl), hbl⟩
  · have hm' : mapB l = false := by simpa using hm
    have HR : bytesV l = 0 := by unfold bytesV; rw [if_neg hm]
    go_enter Try.func28, Try.ntmps28
    go_wp2
    refine wp_loop_rounds 1 ?_
    rw [rounds_succ]
    go_wp2_with (go_at_call 25; refine (specMapOk _ l _ h hl).mono ?_; rintro e w2 ⟨rfl, hb2⟩; rw [hm'])
    go_ret
    exact ⟨by first | rfl | (rw [HR]; rfl), hb2⟩

set_option maxRecDepth 100000 in
set_option maxHeartbeats 800000 in
theorem bytesOf_any (v : Value) (l : List KV) (w : World) (h : SlT KV.cells 2 w v l) (hl : (l.length : Int) ≤ 1048576) (hsum : sumSz KV.sz l ≤ 1048576) :
    Calls Try.prog 100 #[v] w fun e w' => e = .returned (.int .i64 (sumSz KV.sz l)) ∧ Below w.heap.size w w' := by
  obtain ⟨ao, cap, rfl, hlc, hcm, hsh⟩ := h.shape
  have hnn := sumSz_nonneg KV.sz_nonneg l
  go_enter Try.func100, Try.ntmps100
  go_wp2
  go_loopw [3, 8] (fun n i wr => ∃ k : Nat, (k : Int) ≤ l.length ∧ i = .int .i64 k ∧ n = .int .i64 (sumSz KV.sz (l.take k)) ∧ Below w.heap.size w wr) (fun _ i _ => l.length - (intOf i).toNat)
  case atStart => exact ⟨0, by omega, rfl, by simp [sumSz], Below.refl _ _⟩
  case round =>
    obtain ⟨k, hk, rfl, rfl, hbl⟩ := hrel
    have hnk := sumSz_nonneg KV.sz_nonneg (l.take k)
    by_cases hlt : (k : Int) < l.length
    · have hltn : k < l.length := by omega
      obtain ⟨b, off, rfl, hb, hc⟩ := hsh (by omega)
      have hc0 : wr.cell? ⟨b, off + k * 2, none⟩ = some (.string l[k].key) := (hbl.cell (by exact hb)).trans (hc k hltn 0 _ rfl)
      have hc1 : wr.cell? ⟨b, off + k * 2 + 1, none⟩ = some (.string l[k].val) := (hbl.cell (by exact hb)).trans (hc k hltn 1 _ rfl)
      have hst := sumSz_step KV.sz l k hltn
      have hmo := sumSz_take_le KV.sz_nonneg l (k + 1)
      have hzz := KV.sz_nonneg l[k]
      have hz1 : KV.sz l[k] = l[k].key.size + l[k].val.size := rfl
      have HST := Lib.hid hst
      have HZ := Lib.hid hz1
      have hk1 : (l[k].key.size : Int) ≤ 1048576 := by omega
      have hk2 : (l[k].val.size : Int) ≤ 1048576 := by omega
      have hk3 : sumSz KV.sz (l.take k) ≤ 1048576 := by omega
      clear hst hsh h hz1 hc hmo
      generalize sumSz KV.sz (l.take k) = q at *
      go_wp2
      go_roundw
      case rel => exact ⟨k + 1, by omega, by go_num, by rw [HST.out]; exact congrArg (Value.int .i64) (by have := HZ.out; omega), hbl.alloc hbl.size _⟩
      case measure => simp [intOf]; omega
    · obtain rfl : k = l.length := by omega
      rw [List.take_length] at *
      clear hsh h
      go_wp2
      go_ret
      exact ⟨rfl, hbl⟩

set_option maxRecDepth 100000 in
set_option maxHeartbeats 400000 in
theorem implBytes (v : Value) (l : List KV) (w : World) (h : SlT KV.cells 2 w v l) (hl : (l.length : Int) ≤ 1048576) (hsum : sumSz KV.sz l ≤ 1048576) :
    Calls Try.prog 27 #[v] w fun e w' => e = .returned (.int .i64 (bytesV l)) ∧ Below w.heap.size w w' := by
  by_cases hm : mapB l = true
  · have HR : bytesV l = sumSz KV.sz l := by unfold bytesV; rw [if_pos hm]
    go_enter Try.func27, Try.ntmps27
    go_wp2_with (go_at_call 94; refine (implMapOk _ l _ h hl).mono ?_; rintro e w2 ⟨rfl, hb2⟩; rw [hm])
    go_wp2_with (go_at_call 100; refine (bytesOf_any _ l _ (h.below hb2) hl hsum).mono ?_; rintro e w3 ⟨rfl, hb3⟩)
    go_ret
    exact ⟨by first | rfl | (rw [HR]; rfl), hb2.trans (hb3.mono hb2.size)⟩
  · have hm' : mapB l = false := by simpa using hm
    have HR : bytesV l = 0 := by unfold bytesV; rw [if_neg hm]
    go_enter Try.func27, Try.ntmps27
    go_wp2_with (go_at_call 94; refine (implMapOk _ l _ h hl).mono ?_; rintro e w2 ⟨rfl, hb2⟩; rw [hm'])
    go_ret
    exact ⟨by first | rfl | (rw [HR]; rfl), hb2⟩
end Go.Proofs.Ytfbbdnicplbmdaa
set_option linter.unusedVariables false
set_option linter.unusedSimpArgs false
namespace Go.Proofs.Ytfbbdnicplbmdaa
open Go.RowKit Sp Go.Sort
/-- One element of a slice, as a slice of its own. -/
theorem SlT.one {α : Type} {enc : α → List Value} {size : Nat} {w : World} {b off n cap : Nat} {l : List α} (h : SlT enc size w (.slice (some ⟨b, off, none⟩) n cap) l) {k : Nat} (hk : k < l.length) :
    SlT enc size w (.slice (some ⟨b, off + k * size, none⟩) 1 (cap - k)) [l[k]] := by
  obtain ⟨ao, cp, hv, hc, hm, hh⟩ := h.shape
  simp only [Value.slice.injEq] at hv
  obtain ⟨e1, e2, e3⟩ := hv
  subst e1; subst e3
  refine ⟨_, _, rfl, by show 1 ≤ cap - k; omega, by omega, fun hp => ?_⟩
  obtain ⟨b', off', ha, hlt, hcell⟩ := hh (by omega)
  simp only [Option.some.injEq, Addr.mk.injEq] at ha
  obtain ⟨rfl, rfl, _⟩ := ha
  refine ⟨b, off + k * size, rfl, hlt, fun i cs hi' j u hj => ?_⟩
  have hil : i = 0 := by
    have := (List.getElem?_eq_some_iff.1 hi').1
    simpa using this
  subst hil
  have he : cs = enc l[k] := by simpa using hi'.symm
  subst he
  have := hcell k hk j u hj
  rw [Nat.zero_mul, Nat.add_zero]
  exact this
theorem apply_single (ad : Option Addr) (cap : Nat) (m : List KV) (ad2 : Option Addr) (cap2 : Nat) (o : OpR) (w : World) (h : SlT KV.cells 2 w (.slice ad m.length cap) m) (h2 : SlT OpR.cells 3 w (.slice ad2 1 cap2) [o]) (hl : (m.length : Int) ≤ 1048000) :
    Calls Try.prog 23 #[.slice ad m.length cap, .slice ad2 1 cap2] w fun e w' => ∃ v', e = .returned (.tuple #[v', .bool (applyB m [o])]) ∧ Row KV.cells 134 2 w.heap.size w'.heap.size w' v' (applyL m [o]) ∧ Below w.heap.size w w' :=
  implApplyBatch ad cap m ad2 cap2 [o] w h h2 (by omega) (by simp) (fun _ => hl)

set_option maxRecDepth 100000 in
set_option maxHeartbeats 6400000 in
theorem walkFnBatches (w : World) (v : Value) (xs : List UInt8) (h : SlT bytC 1 w v xs) :
    Calls Try.prog 4 #[v] w fun e w' => e = .returned (.bool true) ∧ Below w.heap.size w w' := by
  by_cases hbig : 1048576 < (xs.length : Int)
  · go_enter Try.func4, Try.ntmps4
    go_wp2_with fail
    refine (big_any v xs _ h).mono ?_
    rintro e w1 ⟨rfl, rfl⟩
    rw [decide_eq_true hbig]
    go_wp2
    go_ret
    exact ⟨rfl, Below.refl _ _⟩
  go_enter Try.func4, Try.ntmps4
  go_wp2_with fail
  refine (big_any v xs _ h).mono ?_
  rintro e w1 ⟨rfl, rfl⟩
  rw [decide_eq_false (show ¬ 1048576 < (xs.length : Int) from by omega)]
  go_wp2_with fail
  refine (drawApplyBatch_any v xs _ h (by omega)).mono ?_
  rintro e w1 ⟨ao, cp, m, bo, bp, l, rfl, sm1, sl1, hm, hl, x1⟩
  go_wp2_with fail
  refine (implApplyBatch ao cp m bo bp l _ sm1 sl1 (by omega) (by omega) (fun _ => by omega)).mono ?_
  rintro e w2 ⟨vx, rfl, rx, b2⟩
  have x2 := x1.trans (b2.mono x1.size)
  have sm2 := sm1.below b2
  have sl2 := sl1.below b2
  have hxl := applyL_le m l
  have HAP := Lib.hid (@applied m l)
  have HNA := Lib.hid (@notapplied m l)
  generalize applyL m l = x at *
  obtain ⟨xo, xp, rfl⟩ := rx.form
  have sx2 := rx.slT (fun _ => rfl) (by decide)
  clear rx sm1 sl1 x1 b2
  go_wp2_with fail
  refine (specApplyBatch ao cp m bo bp l _ sm2 sl2 (by omega) (by omega) (fun _ => by omega)).mono ?_
  rintro e w3 ⟨vy, rfl, _, b3⟩
  have x3 := x2.trans (b3.mono x2.size)
  have sm3 := sm2.below b3
  have sl3 := sl2.below b3
  have sx3 := sx2.below b3
  clear sm2 sl2 sx2 x2 b3
  generalize applyB m l = is at *
  go_upto_region 6 with fail
  go_cut [57] (fun s57 wx => s57 = .bool false ∧ Below w.heap.size w wx ∧ SlT KV.cells 2 wx (.slice ao m.length cp) m ∧ SlT OpR.cells 3 wx (.slice bo l.length bp) l ∧ SlT KV.cells 2 wx (.slice xo x.length xp) x)
  case first =>
    cases is
    · have HN := Lib.hid (HNA.out rfl)
      clear HAP HNA
      go_wp2_with fail
      refine (specMapOk _ m _ sm3 (by omega)).mono ?_
      rintro e w4 ⟨rfl, b4⟩
      have x4 := x3.trans (b4.mono x3.size)
      have sm4 := sm3.below b4
      have sl4 := sl3.below b4
      have sx4 := sx3.below b4
      generalize mapB m = ok at *
      clear x3 sm3 sl3 sx3 b4
      cases ok
      · go_wp2
        go_meet
        exact ⟨rfl, x4, sm4, sl4, sx4⟩
      · obtain rfl := HN.out rfl
        clear HN
        go_wp2_with fail
        refine (sameMap_eq _ _ x _ sx4 sm4 (by omega)).mono ?_
        rintro e w5 ⟨rfl, b5⟩
        have x5 := x4.trans (b5.mono x4.size)
        have sm5 := sm4.below b5
        have sl5 := sl4.below b5
        have sx5 := sx4.below b5
        go_wp2
        go_meet
        exact ⟨rfl, x5, sm5, sl5, sx5⟩
    · go_wp2
      go_meet
      exact ⟨rfl, x3, sm3, sl3, sx3⟩
  case rest =>
  clear x3 sm3 sl3 sx3 HNA
  obtain ⟨rfl, x3, sm3, sl3, sx3⟩ := hcut
  go_upto_if 58 with (fail)
  go_cut [] (fun wx => Below w.heap.size w wx ∧ True)
  case first =>
    cases is
    · go_wp2
      go_meet
      exact ⟨x3, trivial⟩
    · obtain ⟨rfl, h2, h3, h4⟩ := HAP.out rfl
      have H4 := Lib.hid h4
      have H2 := Lib.hid h2
      clear HAP h2 h4
      go_wp2_with fail
      go_loopw [9, 10] (fun y i wr => ∃ (k : Nat) (yo : Option Addr) (yp : Nat), i = .int .i64 k ∧ k ≤ l.length ∧ y = .slice yo (puts m (l.take k)).length yp ∧ SlT KV.cells 2 wr (.slice yo (puts m (l.take k)).length yp) (puts m (l.take k)) ∧ Below wc.heap.size wc wr) (fun _ i _ => l.length - (intOf i).toNat)
      case atStart => exact ⟨0, ao, cp, rfl, by omega, by rw [puts_zero], by rw [puts_zero]; exact sm3, Below.refl _ _⟩
      case round =>
        obtain ⟨k, yo, yp, rfl, hk, rfl, sy, br⟩ := hrel
        have hpl := puts_len m (l.take k)
        have hpl2 : ((puts m (l.take k)).length : Int) ≤ 60 := by rw [List.length_take] at hpl; omega
        by_cases hlt : k < l.length
        · have HS := Lib.hid (H4.out k hlt)
          have slr := sl3.below br
          obtain ⟨ao', cp', hv, hc', hm', hh⟩ := slr.shape
          obtain ⟨rfl, rfl⟩ : bo = ao' ∧ bp = cp' := by simpa using hv
          obtain ⟨b, off, rfl, _, _⟩ := hh (by omega)
          have s1 := SlT.one slr hlt
          have K1 : IntKind.i64.wrap ((k : Int) + 1) = (k : Int) + 1 := by rw [IntKind.wrap_i64]; omega
          have K2 : ((k : Int) + 1).toNat = k + 1 := by omega
          have K3 : k + 1 - k = 1 := by omega
          have K4 : (k : Int) + 1 ≤ (bp : Int) := by omega
          have K5 : (0 : Int) ≤ (k : Int) + 1 := by omega
          clear hv hh hm' slr
          generalize puts m (l.take k) = pm at *
          go_wp2_with fail
          refine (apply_single yo yp pm _ _ l[k] _ sy s1 (by omega)).mono ?_
          rintro e w6 ⟨v6, rfl, r6, b6⟩
          rw [HS.out] at r6
          obtain ⟨eo, ep, rfl⟩ := r6.form
          have s6 := r6.slT (fun _ => rfl) (by decide)
          have br6 := br.trans (b6.mono br.size)
          go_wp2
          go_roundw
          case rel => exact ⟨k + 1, eo, ep, by go_num, hlt, rfl, s6, br6⟩
          case measure => simp [intOf]; omega
        · obtain rfl : k = l.length := by omega
          rw [List.take_length] at sy hpl2 ⊢
          generalize puts m l = x at *
          have x4 := x3.trans (br.mono x3.size)
          have sx4 := sx3.below br
          have hsm := map_sum H2.out x.length (Nat.le_refl _)
          rw [List.take_length] at hsm
          have hq : (bytesV x == bytesV x) = true := beq_self_eq_true _
          go_wp2_with fail
          refine (sameMap_eq _ _ x _ sx4 sy (by omega)).mono ?_
          rintro e w5 ⟨rfl, b5⟩
          have x5 := x4.trans (b5.mono x4.size)
          have sx5 := sx4.below b5
          go_wp2_with fail
          refine (specMapOk _ x _ sx5 (by omega)).mono ?_
          rintro e w6 ⟨rfl, b6⟩
          have x6 := x5.trans (b6.mono x5.size)
          have sx6 := sx5.below b6
          rw [H2.out]
          go_wp2_with fail
          refine (implBytes _ x _ sx6 (by omega) (by omega)).mono ?_
          rintro e w7 ⟨rfl, b7⟩
          have x7 := x6.trans (b7.mono x6.size)
          have sx7 := sx6.below b7
          go_wp2_with fail
          refine (specBytes _ x _ sx7 (by omega) (by omega)).mono ?_
          rintro e w8 ⟨rfl, b8⟩
          have x8 := x7.trans (b8.mono x7.size)
          go_wp2
          go_meet
          exact ⟨x8, trivial⟩
  case rest =>
  clear x3 sm3 sl3 sx3 HAP
  obtain ⟨x3, -⟩ := hcut
  go_wp2_with fail
  refine (drawShowBatch_any v xs _ (h.below x3) (by omega)).mono ?_
  rintro e w4 ⟨po, pp, p, rfl, sp4, hp, b4⟩
  have x4 := x3.trans (b4.mono x3.size)
  go_wp2_with fail
  refine (implShowBatch _ p _ sp4 (by omega)).mono ?_
  rintro e w5 ⟨rfl, b5⟩
  have x5 := x4.trans (b5.mono x4.size)
  have sp5 := sp4.below b5
  clear x3 x4 b4 b5 sp4
  obtain ⟨R, rd, hR⟩ := BatC.exists (str (showBL p))
  obtain ⟨hrd, hbk⟩ := shown_back hR
  have HR := Lib.hid hR
  have HRD := Lib.hid hrd
  have HBK := Lib.hid hbk
  have hRl := hR.len
  have hsz := showBL_small p
  have hsz2 : ((str (showBL p)).size : Int) ≤ 1048576 := by rw [str_size]; omega
  clear hR hrd hbk
  generalize str (showBL p) = s at *
  go_wp2_with fail
  refine (implReadBatch s R rd HR.out _ hsz2).mono ?_
  rintro e w6 ⟨vr, rfl, rr, b6⟩
  obtain ⟨ro, rp, rfl⟩ := rr.form
  have sr6 := rr.slT (fun _ => rfl) (by decide)
  have x6 := x5.trans (b6.mono x5.size)
  have sp6 := sp5.below b6
  clear x5 b6 sp5 rr
  go_wp2_with fail
  refine (drawReadBatch_any v xs _ (h.below x6) (by omega)).mono ?_
  rintro e w7 ⟨t, rfl, ht, b7⟩
  have x7 := x6.trans (b7.mono x6.size)
  have sp7 := sp6.below b7
  have sr7 := sr6.below b7
  clear x6 b7 sp6 sr6
  obtain ⟨T, fine, hT⟩ := BatC.exists t
  have HT := Lib.hid hT
  have hTl := hT.len
  clear hT
  go_wp2_with fail
  refine (implReadBatch t T fine HT.out _ ht).mono ?_
  rintro e w8 ⟨vt, rfl, rt, b8⟩
  obtain ⟨ta, tp, rfl⟩ := rt.form
  have st8 := rt.slT (fun _ => rfl) (by decide)
  have x8 := x7.trans (b8.mono x7.size)
  have sp8 := sp7.below b8
  have sr8 := sr7.below b8
  clear x7 b8 sp7 sr7 rt
  go_wp2_with fail
  refine (specReadBatch t T fine HT.out _ ht).mono ?_
  rintro e w9 ⟨vu, rfl, _, b9⟩
  have x9 := x8.trans (b9.mono x8.size)
  have sp9 := sp8.below b9
  have sr9 := sr8.below b9
  have st9 := st8.below b9
  clear x8 b9 sp8 sr8 st8
  have q1 : (s.toList == s.toList) = true := beq_self_eq_true _
  have q2 : (t.toList == t.toList) = true := beq_self_eq_true _
  go_wp2_with fail
  refine (specBatchOk _ p _ sp9 (by omega)).mono ?_
  rintro e w10 ⟨rfl, b10⟩
  rw [← HRD.out]
  have x10 := x9.trans (b10.mono x9.size)
  have sr10 := sr9.below b10
  have st10 := st9.below b10
  clear x9 b10 sp9 sr9 st9 HRD
  rcases rd with _ | _ <;> rcases fine with _ | _
  · go_wp2
    go_ret
    exact ⟨rfl, x10⟩
  · have HX := Lib.hid (read_shown HT.out rfl)
    go_wp2_with fail
    refine (implShowBatch _ T _ st10 hTl).mono ?_
    rintro e w11 ⟨rfl, b11⟩
    rw [HX.out]
    go_wp2
    go_ret
    exact ⟨rfl, x10.trans (b11.mono x10.size)⟩
  · have HY := Lib.hid (HBK.out rfl)
    go_wp2_with fail
    refine (implShowBatch _ R _ sr10 hRl).mono ?_
    rintro e w11 ⟨rfl, b11⟩
    rw [HY.out]
    go_wp2
    go_ret
    exact ⟨rfl, x10.trans (b11.mono x10.size)⟩
  · have HY := Lib.hid (HBK.out rfl)
    have HX := Lib.hid (read_shown HT.out rfl)
    go_wp2_with fail
    refine (implShowBatch _ R _ sr10 hRl).mono ?_
    rintro e w11 ⟨rfl, b11⟩
    rw [HY.out]
    have x11 := x10.trans (b11.mono x10.size)
    have st11 := st10.below b11
    go_wp2_with fail
    refine (implShowBatch _ T _ st11 hTl).mono ?_
    rintro e w12 ⟨rfl, b12⟩
    rw [HX.out]
    go_wp2
    go_ret
    exact ⟨rfl, x11.trans (b12.mono x11.size)⟩
end Go.Proofs.Ytfbbdnicplbmdaa

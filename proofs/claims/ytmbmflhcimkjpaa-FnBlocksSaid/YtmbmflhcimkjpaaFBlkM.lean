
/- Walk: the law FnBlocks. -/
import Derived.Test.YtmbmflhcimkjpaaDrawT
import Derived.Test.YtmbmflhcimkjpaaMemPS
import Derived.Deep.RegionLaw
import Derived.Deep.RegionHeld
import Derived.Lib.Hide
import Derived.Test.YtmbmflhcimkjpaaBlkP
import Derived.Test.YtmbmflhcimkjpaaTakeW
import Derived.Test.YtmbmflhcimkjpaaReadFixed
import Derived.Test.YtmbmflhcimkjpaaBlkS
import Derived.BigQuiet
import Derived.Test.YtmbmflhcimkjpaaRdX
import Derived.Test.YtmbmflhcimkjpaaBlkI
import Derived.Test.YtmbmflhcimkjpaaKEntR
import Derived.Test.YtmbmflhcimkjpaaKEntA
import Derived.Test.YtmbmflhcimkjpaaBx
import Derived.Test.YtmbmflhcimkjpaaStepR
/- Walks: the draws of a key and of entries. -/
set_option linter.unusedVariables false
set_option linter.unusedSimpArgs false
namespace Go.Proofs.Ytmbmflhcimkjpaa
open Go.RowKit Sp Go.Sort
theorem below_drew (W : World) : Below W.heap.size W W.drew := (Below.refl _ _).drew
theorem hal2 (W : World) (o : Obj) : RowKit.Below W.heap.size W (W.alloc o) := (Below.refl _ _).alloc (Nat.le_refl _) _
theorem grown_far {w W : World} {r : Option Nat} (h : w.grownBy W r) (p : Addr) (u : Value) (hp : w.heap.size ≤ p.block) : w.grownBy (W.setCell p u) r :=
  ⟨h.os, h.tape, h.output, by simp [World.setCell]; exact h.size, fun k hk hne => (Below.heap_setCell _ _ _ _ (by omega)).trans (h.block k hk hne)⟩
theorem memPut_60 (l : List EntR) (e : EntR) (h : putB l e = true) : ((memPut l e).length : Int) ≤ 60 := by
  simp only [putB, Bool.and_eq_true] at h
  rw [show memPut l e = putE l e from by simp [memPut, h.1, putB, h.2]]
  have := memB_len h.2
  omega
/-- One of a literal list of texts. -/
theorem pickLit (b : Nat) (w0 : World) (v : Value) (xs : List UInt8) (w : World) (h : Cu w b w0 v xs) (cs : Array Value) (l : List ByteArray) (n : Nat) (T : TypeId) (hl : (l.map strCells).flatten = cs.toList) (hc : cs.size = n * 1) (hn : n ≤ 1000) (h0 : 0 < l.length) (hl2 : l.length = n) :
    Calls Try.prog 120 #[.pointer (some ⟨b, 0, none⟩), .slice (some ⟨w.heap.size, 0, none⟩) n n] (w.alloc (.cells cs T)) fun e w' => ∃ x, x ∈ l ∧ e = .returned (.string x) ∧ Cu w' b w0 v xs ∧ w.grownBy w' (some b) := by
  have hb := h.lt
  refine (l1Pick_any b w0 v xs _ (h.below (hal2 w _)) _ l (lit_slT strCells cs l n w T hl (fun _ => rfl) hc hn) (fun a n c e _ => by simp only [Value.slice.injEq, Option.some.injEq] at e; rw [← e.1]; show w.heap.size ≠ b; omega) h0 (by omega)).mono ?_
  rintro e w' ⟨x, hx, rfl, hc, hg⟩
  exact ⟨x, hx, rfl, hc, grown2 (grown_below (World.grownBy.refl _ _) (hal2 w _)) hg⟩
theorem pickIntLit (b : Nat) (w0 : World) (v : Value) (xs : List UInt8) (w : World) (h : Cu w b w0 v xs) (cs : Array Value) (l : List Int) (n : Nat) (T : TypeId) (hl : (l.map intC).flatten = cs.toList) (hc : cs.size = n * 1) (hn : n ≤ 1000) (h0 : 0 < l.length) (hl2 : l.length = n) :
    Calls Try.prog 104 #[.pointer (some ⟨b, 0, none⟩), .slice (some ⟨w.heap.size, 0, none⟩) n n] (w.alloc (.cells cs T)) fun e w' => ∃ x, x ∈ l ∧ e = .returned (.int .i64 x) ∧ Cu w' b w0 v xs ∧ w.grownBy w' (some b) := by
  have hb := h.lt
  refine (l1PickInt_any b w0 v xs _ (h.below (hal2 w _)) _ l (lit_slT intC cs l n w T hl (fun _ => rfl) hc hn) (fun a n c e _ => by simp only [Value.slice.injEq, Option.some.injEq] at e; rw [← e.1]; show w.heap.size ≠ b; omega) h0 (by omega)).mono ?_
  rintro e w' ⟨x, hx, rfl, hc, hg⟩
  exact ⟨x, hx, rfl, hc, grown2 (grown_below (World.grownBy.refl _ _) (hal2 w _)) hg⟩

set_option maxRecDepth 100000 in
set_option maxHeartbeats 800000 in
theorem l7Key_any (b : Nat) (w0 : World) (v : Value) (xs : List UInt8) (w : World) (h : Cu w b w0 v xs) :
    Calls Try.prog 80 #[.pointer (some ⟨b, 0, none⟩)] w fun e w' => ∃ x : ByteArray, e = .returned (.string x) ∧ (x.size : Int) ≤ 3 ∧ Cu w' b w0 v xs ∧ w.grownBy w' (some b) := by
  go_enter Try.func80, Try.ntmps80
  go_wp2_with fail
  refine (pickLit b w0 v xs w h _ [⟨#[97]⟩, ⟨#[98]⟩, ⟨#[97, 98]⟩, ⟨#[97, 98, 99]⟩, ⟨#[98, 48]⟩, ⟨#[99]⟩, ⟨#[0]⟩, ⟨#[122, 122]⟩] 8 _ rfl rfl (by decide) (by decide) rfl).mono ?_
  rintro e w' ⟨x, hx, rfl, hc, hg⟩
  go_wp2
  go_ret
  refine ⟨x, rfl, ?_, hc, hg⟩
  simp only [List.mem_cons, List.not_mem_nil, or_false] at hx
  rcases hx with rfl | rfl | rfl | rfl | rfl | rfl | rfl | rfl <;> decide

set_option maxRecDepth 100000 in
set_option maxHeartbeats 1600000 in
theorem l9Some_any (b : Nat) (w0 : World) (v : Value) (xs : List UInt8) (most : Nat) (hm : (most : Int) ≤ 1000) (w : World) (h : Cu w b w0 v xs) :
    Calls Try.prog 161 #[.pointer (some ⟨b, 0, none⟩), .int .i64 most] w fun e w' => ∃ (ao : Option Addr) (cp : Nat) (l : List EntR), e = .returned (.slice ao l.length cp) ∧ w'.ownsRow w.heap.size 30 4 (.slice ao l.length cp) l.length (l.map EntR.cells).flatten ∧ (l.length : Int) ≤ 60 ∧ Cu w' b w0 v xs ∧ w.grownBy w' (some b) := by
  have hlt := h.lt
  have h0 : (w.alloc (.cells #[] 30)).ownsRow w.heap.size 30 4 (.slice (some ⟨w.heap.size, 0, none⟩) 0 0) 0 (([] : List EntR).map EntR.cells).flatten := World.ownsRow_lit w #[] 0 (Nat.le_refl _) (by simp [maxLen]) rfl
  have c0 := h.below (hal2 w (.cells #[] 30))
  have g0 := grown_below (World.grownBy.refl w (some b)) (hal2 w (.cells #[] 30))
  go_enter Try.func161, Try.ntmps161
  go_wp2_with fail
  refine (l1Below_any b w0 v xs most (by omega) _ c0).mono ?_
  rintro e w1 ⟨n0, rfl, hn0, hn1, c1, g1⟩
  have o1 := own_grown h0 g1 (fun k hk e => by have := (h0.lt _ hk).1; have := Option.some.inj e; omega)
  have q1 := grown2 g0 g1
  clear h0 c0 g0 g1
  go_wp2_with fail
  go_loopw [5, 6] (fun o n wr => ∃ (r : Nat) (ao : Option Addr) (cp : Nat) (l : List EntR), n = .int .i64 r ∧ (r : Int) ≤ 1000 ∧ o = .slice ao l.length cp ∧ wr.ownsRow w.heap.size 30 4 (.slice ao l.length cp) l.length (l.map EntR.cells).flatten ∧ (l.length : Int) ≤ 60 ∧ Cu wr b w0 v xs ∧ w.grownBy wr (some b)) (fun _ n _ => (intOf n).toNat)
  case atStart => exact ⟨n0, _, _, [], rfl, by omega, rfl, o1, by simp, c1, q1⟩
  case round =>
    clear o1 c1 q1
    obtain ⟨r, ao, cp, l, rfl, hr, rfl, ho, hl, c3, q3⟩ := hrel
    by_cases hr0 : 0 < r
    · have R1 : IntKind.i64.wrap ((r : Int) - 1) = ((r - 1 : Nat) : Int) := by rw [IntKind.wrap_i64]; omega
      go_wp2_with fail
      refine (l7Key_any b w0 v xs _ c3).mono ?_
      rintro e w4 ⟨ky, rfl, hky, c4, g4⟩
      have o4 := own_grown ho g4 (fun k hk e => by have := (ho.lt _ hk).1; have := Option.some.inj e; omega)
      have q4 := grown2 q3 g4
      clear c3 q3 ho g4
      go_wp2_with fail
      refine (l1Below_any b w0 v xs 20 (by decide) _ c4).mono ?_
      rintro e w5 ⟨sq, rfl, hsq, _, c5, g5⟩
      have o5 := own_grown o4 g5 (fun k hk e => by have := (o4.lt _ hk).1; have := Option.some.inj e; omega)
      have q5 := grown2 q4 g5
      clear c4 q4 o4 g5
      go_upto_region 6 with fail
      have B6 := Bx.new w5 #[.string ky, .int .i64 sq, .bool false, .string ⟨#[]⟩] 30
      have c6 := c5.below (hal2 w5 (.cells #[.string ky, .int .i64 sq, .bool false, .string ⟨#[]⟩] 30))
      have q6 := grown_below q5 (hal2 w5 (.cells #[.string ky, .int .i64 sq, .bool false, .string ⟨#[]⟩] 30))
      have o6 := o5.alloc (.cells #[.string ky, .int .i64 sq, .bool false, .string ⟨#[]⟩] 30)
      have z5 := q5.size
      have hne : ∀ k, (Value.slice ao l.length cp).ownBlock = some k → k ≠ w5.heap.size := fun k e => by have := (o5.lt k e).2; omega
      generalize w5.alloc (.cells #[.string ky, .int .i64 sq, .bool false, .string ⟨#[]⟩] 30) = W6 at *
      generalize w5.heap.size = g6 at *
      clear c5 o5 q5
      go_wp2_with fail
      refine (l1Once_any b w0 v xs 4 (by decide) _ c6).mono ?_
      rintro e w7 ⟨on, rfl, c7, g7⟩
      have o7 := own_grown o6 g7 (fun k hk e => by have := (o6.lt _ hk).1; have := Option.some.inj e; omega)
      have q7 := grown2 q6 g7
      have B7 := B6.grown g7 (by simp; omega)
      have h3 := c7.lo
      clear c6 o6 q6 B6 g7
      cases on
      · go_wp2_with fail
        refine (l1Text_any b w0 v xs 4 (by decide) _ c7).mono ?_
        rintro e w8 ⟨t, rfl, ht, c8, g8⟩
        have o8 := own_grown o7 g8 (fun k hk e => by have := (o7.lt _ hk).1; have := Option.some.inj e; omega)
        have q8 := grown2 q7 g8
        have B8 := B7.grown g8 (by simp; omega)
        have zf := B8.frozen
        have y3 := B8.cell 3 _ rfl
        have c8 := c8.far ⟨g6, 3, none⟩ (.string t) (by show b ≠ g6; omega) (by show w0.heap.size ≤ g6; omega)
        have o8 := own_far o8 ⟨g6, 3, none⟩ (.string t) (fun e => hne _ e rfl)
        have q8 := grown_far q8 ⟨g6, 3, none⟩ (.string t) (by show w.heap.size ≤ g6; omega)
        have B8 := B8.set 3 (.string t)
        clear c7 o7 q7 B7 g8
        go_upto_region 9 with fail
        clear y3 zf
        generalize w8.setCell ⟨g6, 3, none⟩ (.string t) = W8 at *
        have y0 := B8.cell 0 _ rfl
        have y1 := B8.cell 1 _ rfl
        have y2 := B8.cell 2 _ rfl
        have y3 := B8.cell 3 _ rfl
        go_wp2_with fail
        refine (specMemPut_row ao cp l ⟨ky, sq, false, t⟩ _ (SlT.of_own o8 (fun _ => rfl) (by decide)) (by omega)).mono ?_
        rintro e w9 ⟨v9, rfl, r9, b9⟩
        have o9 := own_below o8 b9
        have c9 := c8.below b9
        have q9 := grown_below q8 b9
        have z8 := q8.size
        have hlen := memPut_60 l ⟨ky, sq, false, t⟩
        clear y0 y1 y2 y3 B8 c8 o8 q8 b9
        rcases hp : putB l ⟨ky, sq, false, t⟩ with _ | _
        · go_wp2
          go_roundw
          case rel => exact ⟨r - 1, ao, cp, l, rfl, by omega, rfl, o9, hl, c9, q9⟩
          case measure => simp [intOf]; omega
        · have hlen := hlen hp
          obtain ⟨ao', cp', rfl⟩ := own_form r9
          have o9' := own_mono r9 z8
          generalize memPut l ⟨ky, sq, false, t⟩ = l' at *
          go_wp2
          go_roundw
          case rel => exact ⟨r - 1, ao', cp', l', rfl, by omega, rfl, o9', hlen, c9, q9⟩
          case measure => simp [intOf]; omega
      · have zf := B7.frozen
        have y2 := B7.cell 2 _ rfl
        have c8 := c7.far ⟨g6, 2, none⟩ (.bool true) (by show b ≠ g6; omega) (by show w0.heap.size ≤ g6; omega)
        have o8 := own_far o7 ⟨g6, 2, none⟩ (.bool true) (fun e => hne _ e rfl)
        have q8 := grown_far q7 ⟨g6, 2, none⟩ (.bool true) (by show w.heap.size ≤ g6; omega)
        have B8 := B7.set 2 (.bool true)
        clear c7 o7 q7 B7
        go_upto_region 9 with fail
        clear y2 zf
        generalize w7.setCell ⟨g6, 2, none⟩ (.bool true) = W8 at *
        have y0 := B8.cell 0 _ rfl
        have y1 := B8.cell 1 _ rfl
        have y2 := B8.cell 2 _ rfl
        have y3 := B8.cell 3 _ rfl
        go_wp2_with fail
        refine (specMemPut_row ao cp l ⟨ky, sq, true, ⟨#[]⟩⟩ _ (SlT.of_own o8 (fun _ => rfl) (by decide)) (by omega)).mono ?_
        rintro e w9 ⟨v9, rfl, r9, b9⟩
        have o9 := own_below o8 b9
        have c9 := c8.below b9
        have q9 := grown_below q8 b9
        have z8 := q8.size
        have hlen := memPut_60 l ⟨ky, sq, true, ⟨#[]⟩⟩
        clear y0 y1 y2 y3 B8 c8 o8 q8 b9
        rcases hp : putB l ⟨ky, sq, true, ⟨#[]⟩⟩ with _ | _
        · go_wp2
          go_roundw
          case rel => exact ⟨r - 1, ao, cp, l, rfl, by omega, rfl, o9, hl, c9, q9⟩
          case measure => simp [intOf]; omega
        · have hlen := hlen hp
          obtain ⟨ao', cp', rfl⟩ := own_form r9
          have o9' := own_mono r9 z8
          generalize memPut l ⟨ky, sq, true, ⟨#[]⟩⟩ = l' at *
          go_wp2
          go_roundw
          case rel => exact ⟨r - 1, ao', cp', l', rfl, by omega, rfl, o9', hlen, c9, q9⟩
          case measure => simp [intOf]; omega
    · obtain rfl : r = 0 := by omega
      go_wp2
      go_ret
      exact ⟨_, _, l, rfl, ho, hl, c3, q3⟩

theorem rec_set {α : Type} {enc : α → List Value} {size : Nat} (hs : ∀ x, (enc x).length = size) (l : List α) (k : Nat) (hk : k < l.length) (j : Nat) (hj : j < size) (u : Value) (e : α) (h : (enc l[k]).set j u = enc e) :
    (l.map enc).flatten.set (k * size + j) u = ((l.set k e).map enc).flatten := by
  rw [flat_set (l.map enc) (fun c hc => by obtain ⟨x, _, rfl⟩ := List.mem_map.1 hc; exact hs x) k (by simpa using hk) j hj u, List.map_set]
  congr 2
  simpa using h
/-- A cell of one element of a row of one's own is there, may be written, and the row is then the list with that element. -/
theorem own_put {α : Type} {enc : α → List Value} {size : Nat} (hs : ∀ x, (enc x).length = size) {W : World} {base T g cap : Nat} {l : List α} (h : W.ownsRow base T size (.slice (some ⟨g, 0, none⟩) l.length cap) l.length (l.map enc).flatten) (k : Nat) (hk : k < l.length) (j : Nat) (hj : j < size) (u : Value) (e : α) (he : (enc l[k]).set j u = enc e) :
    (∃ z, W.cell? ⟨g, k * size + j, none⟩ = some z ∧ (enc l[k])[j]? = some z) ∧ W.frozen? ⟨g, k * size + j, none⟩ = false ∧ (W.setCell ⟨g, k * size + j, none⟩ u).ownsRow base T size (.slice (some ⟨g, 0, none⟩) (l.set k e).length cap) (l.set k e).length ((l.set k e).map enc).flatten := by
  refine ⟨?_, h.frozenAt _, ?_⟩
  · have hl : j < (enc l[k]).length := by rw [hs]; exact hj
    refine ⟨(enc l[k])[j], ?_, List.getElem?_eq_getElem hl⟩
    have hb : k * size + j < l.length * size := by
      have := Nat.mul_le_mul_right size (Nat.succ_le_of_lt hk)
      rw [Nat.succ_mul] at this
      omega
    rw [h.cellAt _ hb]
    exact flat_at (l.map enc) (fun c hc => by obtain ⟨x, _, rfl⟩ := List.mem_map.1 hc; exact hs x) k (enc l[k]) (by simp [hk]) j _ (List.getElem?_eq_getElem hl)
  · have := (h.stored (k * size + j) u).1
    rw [rec_set hs l k hk j hj u e he] at this
    rw [List.length_set]
    exact this

set_option maxRecDepth 100000 in
set_option maxHeartbeats 1600000 in
theorem l9Any_any (b : Nat) (w0 : World) (v : Value) (xs : List UInt8) (most : Nat) (hm : (most : Int) ≤ 1000) (w : World) (h : Cu w b w0 v xs) :
    Calls Try.prog 114 #[.pointer (some ⟨b, 0, none⟩), .int .i64 most] w fun e w' => ∃ (ao : Option Addr) (cp : Nat) (l : List EntR), e = .returned (.slice ao l.length cp) ∧ w'.ownsRow w.heap.size 30 4 (.slice ao l.length cp) l.length (l.map EntR.cells).flatten ∧ (l.length : Int) ≤ 62 ∧ Cu w' b w0 v xs ∧ w.grownBy w' (some b) := by
  have hlt := h.lt
  go_enter Try.func114, Try.ntmps114
  go_wp2_with fail
  refine (l9Some_any b w0 v xs most hm _ h).mono ?_
  rintro e w1 ⟨ao, cp, l, rfl, o1, hl, c1, q1⟩
  by_cases hl0 : 0 < l.length
  · have hl0' : (0 : Int) < l.length := by omega
    obtain ⟨g, cp', hv⟩ := own_slD o1 hl0
    obtain ⟨rfl, rfl⟩ : ao = some ⟨g, 0, none⟩ ∧ cp = cp' := by simpa using hv
    have hg := (o1.lt g rfl).1
    have hbg : b ≠ g := by omega
    clear hv
    go_wp2_with fail
    refine (l1Once_any b w0 v xs 10 (by decide) _ c1).mono ?_
    rintro e w2 ⟨on, rfl, c2, g2⟩
    have o2 := own_grown o1 g2 (fun k hk e => by have := (o1.lt _ hk).1; have := Option.some.inj e; omega)
    have q2 := grown2 q1 g2
    clear o1 q1 c1 g2
    cases on
    · go_wp2
      go_ret
      exact ⟨_, _, l, rfl, o2, by omega, c2, q2⟩
    · go_wp2_with fail
      refine (l1Below_any b w0 v xs (l.length : Int) (by omega) _ c2).mono ?_
      rintro e w3 ⟨k, rfl, hk, _, c3, g3⟩
      have hk := hk (by omega)
      have hkl : k < l.length := by omega
      have o3 := own_grown o2 g3 (fun k hk e => by have := (o2.lt _ hk).1; have := Option.some.inj e; omega)
      have q3 := grown2 q2 g3
      clear o2 q2 c2 g3
      go_wp2_with fail
      refine (l1Below_any b w0 v xs 4 (by decide) _ c3).mono ?_
      rintro e w4 ⟨sw, rfl, hsw, _, c4, g4⟩
      have hsw := hsw (by decide)
      have o4 := own_grown o3 g4 (fun k hk e => by have := (o3.lt _ hk).1; have := Option.some.inj e; omega)
      have q4 := grown2 q3 g4
      have h3 := c4.lo
      clear o3 q3 c3 g4
      rcases (by omega : sw = 0 ∨ sw = 1 ∨ sw = 2 ∨ sw = 3) with rfl | rfl | rfl | rfl
      · go_wp2_with fail
        refine (pickLit b w0 v xs _ c4 _ [⟨#[]⟩, ⟨#[98]⟩, ⟨#[97, 97, 97, 97, 97, 97, 97, 97, 97, 97, 97]⟩] 3 _ rfl rfl (by decide) (by decide) rfl).mono ?_
        rintro e w5 ⟨t, ht, rfl, c5, g5⟩
        have o5 := own_grown o4 g5 (fun k hk e => by have := (o4.lt _ hk).1; have := Option.some.inj e; omega)
        have q5 := grown2 q4 g5
        obtain ⟨⟨z, p1, _⟩, p2, p3⟩ := own_put (enc := EntR.cells) (size := 4) (fun _ => rfl) o5 k hkl 0 (by decide) (.string t) ⟨t, l[k].seq, l[k].del, l[k].val⟩ rfl
        clear o4 q4 c4 g5 o5
        rw [Nat.add_zero] at p1 p2 p3
        have hn : (l.set k ⟨t, l[k].seq, l[k].del, l[k].val⟩).length = l.length := by simp
        rw [hn] at p3
        go_wp2
        go_ret
        refine ⟨_, _, l.set k ⟨t, l[k].seq, l[k].del, l[k].val⟩, by rw [hn]; rfl, ?_, by rw [hn]; omega, c5.far _ _ hbg (by show w0.heap.size ≤ g; omega), grown_far q5 _ _ hg⟩
        rw [hn]; exact p3
      · go_wp2_with fail
        refine (pickIntLit b w0 v xs _ c4 _ [-1, 5, 1000000, 1000001] 4 _ rfl rfl (by decide) (by decide) rfl).mono ?_
        rintro e w5 ⟨t, ht, rfl, c5, g5⟩
        have o5 := own_grown o4 g5 (fun k hk e => by have := (o4.lt _ hk).1; have := Option.some.inj e; omega)
        have q5 := grown2 q4 g5
        obtain ⟨⟨z, p1, _⟩, p2, p3⟩ := own_put (enc := EntR.cells) (size := 4) (fun _ => rfl) o5 k hkl 1 (by decide) (.int .i64 t) ⟨l[k].key, t, l[k].del, l[k].val⟩ rfl
        clear o4 q4 c4 g5 o5
        have hn : (l.set k ⟨l[k].key, t, l[k].del, l[k].val⟩).length = l.length := by simp
        rw [hn] at p3
        go_wp2
        go_ret
        refine ⟨_, _, l.set k ⟨l[k].key, t, l[k].del, l[k].val⟩, by rw [hn]; rfl, ?_, by rw [hn]; omega, c5.far _ _ hbg (by show w0.heap.size ≤ g; omega), grown_far q5 _ _ hg⟩
        rw [hn]; exact p3
      · obtain ⟨⟨z, p1, hz⟩, p2, p3⟩ := own_put (enc := EntR.cells) (size := 4) (fun _ => rfl) o4 k hkl 2 (by decide) (.bool (!l[k].del)) ⟨l[k].key, l[k].seq, !l[k].del, l[k].val⟩ rfl
        obtain rfl : z = .bool l[k].del := (Option.some.inj hz).symm
        have hn : (l.set k ⟨l[k].key, l[k].seq, !l[k].del, l[k].val⟩).length = l.length := by simp
        rw [hn] at p3
        go_wp2
        go_ret
        refine ⟨_, _, l.set k ⟨l[k].key, l[k].seq, !l[k].del, l[k].val⟩, by rw [hn]; rfl, ?_, by rw [hn]; omega, c4.far _ _ hbg (by show w0.heap.size ≤ g; omega), grown_far q4 _ _ hg⟩
        rw [hn]; exact p3
      · go_wp2_with fail
        go_loopw [5, 7] (fun o i wr => ∃ (q : Nat) (ao : Option Addr) (cp : Nat) (l : List EntR), i = .int .i64 q ∧ (q : Int) ≤ l.length ∧ o = .slice ao l.length cp ∧ wr.ownsRow w.heap.size 30 4 (.slice ao l.length cp) l.length (l.map EntR.cells).flatten ∧ (l.length : Int) ≤ 62 ∧ Cu wr b w0 v xs ∧ w.grownBy wr (some b)) (fun o _ _ => 70 - (match o with | .slice _ n _ => n | _ => 0))
        case atStart => exact ⟨0, _, _, l, rfl, by omega, rfl, o4, by omega, c4, q4⟩
        case round =>
          clear o4 c4 q4 hl hl0 hl0' hk hkl hg hbg
          obtain ⟨q, ao, cp, l', rfl, hq, rfl, ho, hl, c5, q5⟩ := hrel
          go_wp2_with fail
          refine (l1Below_any b w0 v xs 3 (by decide) _ c5).mono ?_
          rintro e w6 ⟨n6, rfl, hn6, _, c6, g6⟩
          have hn6 := hn6 (by decide)
          have o6 := own_grown ho g6 (fun k hk e => by have := (ho.lt _ hk).1; have := Option.some.inj e; omega)
          have q6 := grown2 q5 g6
          have N6 : IntKind.i64.wrap (59 + (n6 : Int)) = ((59 + n6 : Nat) : Int) := by rw [IntKind.wrap_i64]; omega
          have N7 : IntKind.i64.wrap (500 - (q : Int)) = 500 - (q : Int) := by rw [IntKind.wrap_i64]; omega
          have N8 : IntKind.i64.wrap ((q : Int) + 1) = ((q + 1 : Nat) : Int) := by rw [IntKind.wrap_i64]; omega
          clear ho q5 c5 g6
          by_cases hk : (l'.length : Int) < ((59 + n6 : Nat) : Int)
          · go_wp2_with (at_builtin; go_loud (refine app_new rfl rfl Try.underlying33 info_Ent rfl (by decide) o6 rfl 1 (by simp [Act.eval]) rfl (by simp [Value.oneCell']) (by omega) (Below.refl w.heap.size w6) (Nat.le_refl _) q6.size ?_; intro v8 w8 r8 x8 g8))
            have c8 := c6.grown g8 (fun e => by have := (o6.lt _ e).1; omega) (fun k e => by have := (o6.lt _ e).1; omega)
            have q8 := grown_own q6 g8 (fun k e => (o6.lt _ e).1)
            obtain ⟨gg, cap, rfl⟩ := own_slD r8 (by omega)
            go_roundw
            case rel => exact ⟨q + 1, some ⟨gg, 0, none⟩, cap, l' ++ [⟨⟨#[122, 122, 122]⟩, 500 - (q : Int), false, ⟨#[]⟩⟩], rfl, by simp; omega, by simp, by simpa [EntR.cells] using r8, by simp; omega, c8, q8⟩
            case measure => simp; omega
          · go_wp2
            go_ret
            exact ⟨_, _, l', rfl, o6, hl, c6, q6⟩
  · have hl0' : ¬ (0 : Int) < l.length := by omega
    go_wp2
    go_ret
    exact ⟨_, _, l, rfl, o1, by omega, c1, q1⟩
end Go.Proofs.Ytmbmflhcimkjpaa
/- Walks: the draws' spoilt text. -/
set_option linter.unusedVariables false
set_option linter.unusedSimpArgs false
namespace Go.Proofs.Ytmbmflhcimkjpaa
open Go.RowKit Sp Go.Sort

theorem hal3 (W : World) (o : Obj) : RowKit.Below W.heap.size W (W.alloc o) := (Below.refl _ _).alloc (Nat.le_refl _) _
theorem drew_grown {W W' : World} {r : Option Nat} (h : W.drew.grownBy W' r) : W.grownBy W' r := ⟨h.os, h.tape, h.output, h.size, h.block⟩
theorem below_drewS (W : World) : Below W.heap.size W W.drew := (Below.refl _ _).drew
set_option maxRecDepth 100000 in
set_option maxHeartbeats 1600000 in
theorem l1Spoil_any (b : Nat) (w0 : World) (v : Value) (xs : List UInt8) (s : ByteArray) (hs : (s.size : Int) ≤ 1000000) (w : World) (h : Cu w b w0 v xs) :
    Calls Try.prog 100 #[.pointer (some ⟨b, 0, none⟩), .string s] w fun e w' => ∃ t : ByteArray, e = .returned (.string t) ∧ (t.size : Int) ≤ 1048576 ∧ Cu w' b w0 v xs ∧ w.grownBy w' (some b) := by
  by_cases hz : s.size = 0
  · have hz' : (s.size : Int) = 0 := by omega
    go_enter Try.func100, Try.ntmps100
    go_wp2_with fail
    refine (l1Text_any b w0 v xs 3 (by decide) _ h).mono ?_
    rintro e w1 ⟨t, rfl, ht, c1, g1⟩
    go_wp2
    go_ret
    exact ⟨t, rfl, by omega, c1, g1⟩
  · have hz' : ¬ (s.size : Int) = 0 := by omega
    go_enter Try.func100, Try.ntmps100
    go_wp2_with fail
    refine (l1Below_any b w0 v xs (s.size : Int) (by omega) _ h).mono ?_
    rintro e w1 ⟨k, rfl, hk, _, c1, g1⟩
    have hk := hk (by omega)
    go_wp2_with fail
    refine (l1Below_any b w0 v xs 4 (by decide) _ c1).mono ?_
    rintro e w2 ⟨sw, rfl, hsw, _, c2, g2⟩
    have hsw := hsw (by decide)
    have q2 := grown2 g1 g2
    clear c1 g1 g2
    have K1 : IntKind.i64.wrap ((k : Int) + 1) = (k : Int) + 1 := by rw [IntKind.wrap_i64]; omega
    have K2 : ((k : Int) + 1).toNat = k + 1 := by omega
    have z1 : (s.extract 0 k).size = k := by rw [ByteArray.size_extract]; omega
    have z2 : (s.extract (k + 1) s.size).size = s.size - (k + 1) := by rw [ByteArray.size_extract]; omega
    have z3 : (s.extract k s.size).size = s.size - k := by rw [ByteArray.size_extract]; omega
    rcases (by omega : sw = 0 ∨ sw = 1 ∨ sw = 2 ∨ sw = 3) with rfl | rfl | rfl | rfl
    · have f1 : ¬ 9223372036854775807 < k + (s.size - (k + 1)) := by omega
      have f2 : (k : Int) ≤ s.size := by omega
      have f3 : (k : Int) + 1 ≤ s.size := by omega
      have f4 : (0 : Int) ≤ (k : Int) + 1 := by omega
      have c3 := c2.below (below_drewS w2)
      go_wp2_with fail
      go_region
      go_wp2
      go_ret
      exact ⟨_, rfl, by rw [ByteArray.size_append, z1, z2]; omega, c3, grown_drewN q2 1⟩
    · have f1 : ¬ 9223372036854775807 < k + 1 := by omega
      have f5 : ¬ 9223372036854775807 < k + 1 + (s.size - k) := by omega
      have f2 : (k : Int) ≤ s.size := by omega
      have c3 := c2.below (below_drewS w2)
      have hs1 : ∀ c : UInt8, (str [c]).size = 1 := fun _ => rfl
      have cv := fun W x => conv_one (P := Try.prog) (src := 22) (dst := 9) Try.underlying22 Try.underlying5 Try.underlying9 W x
      go_wp2_with fail
      go_region_with (go_at_call 162; refine (l1Byte_any b w0 v xs _ c3).mono ?_; rintro e w3 ⟨y, rfl, hy, c4, g4⟩)
      all_goals
        go_wp2
        go_ret
        exact ⟨_, rfl, by rw [ByteArray.size_append, ByteArray.size_append, z1, z3, hs1]; omega, c4.below (hal3 _ _), grown_below (grown2 q2 (drew_grown g4)) (hal3 _ _)⟩
    · have f2 : (k : Int) ≤ s.size := by omega
      go_wp2
      go_ret
      exact ⟨_, rfl, by rw [z1]; omega, c2, q2⟩
    · have f1 : ¬ 9223372036854775807 < k + 1 := by omega
      have f5 : ¬ 9223372036854775807 < k + 1 + (s.size - (k + 1)) := by omega
      have f2 : (k : Int) ≤ s.size := by omega
      have f3 : (k : Int) + 1 ≤ s.size := by omega
      have f4 : (0 : Int) ≤ (k : Int) + 1 := by omega
      have c3 := c2.below (below_drewS w2)
      have hs1 : ∀ c : UInt8, (str [c]).size = 1 := fun _ => rfl
      have cv := fun W x => conv_one (P := Try.prog) (src := 22) (dst := 9) Try.underlying22 Try.underlying5 Try.underlying9 W x
      go_wp2_with fail
      go_region_with (go_at_call 81; refine (l1Below_any b w0 v xs 255 (by decide) _ c3).mono ?_; rintro e w3 ⟨y, rfl, hy, _, c4, g4⟩)
      all_goals
        go_wp2
        go_ret
        exact ⟨_, rfl, by rw [ByteArray.size_append, ByteArray.size_append, z1, z2, hs1]; omega, c4.below (hal3 _ _), grown_below (grown2 q2 (drew_grown g4)) (hal3 _ _)⟩
end Go.Proofs.Ytmbmflhcimkjpaa
/- Plain: reading a block of entries back. No program in sight. -/
set_option linter.unusedVariables false
set_option linter.unusedSimpArgs false
namespace Go.Proofs.Ytmbmflhcimkjpaa
open Sp
namespace Sp
/-- L is what the string is the text of, if b; else it is the text of none. -/
structure BlkC (s : ByteArray) (L : List EntR) (b : Bool) : Prop where
  yes : b = true → blockB L = true ∧ showBlkL L = s.data.toList
  no : b = false → L = [] ∧ ∀ l, blockB l = true → showBlkL l ≠ s.data.toList
theorem BlkC.exists (s : ByteArray) : ∃ L b, BlkC s L b := by
  by_cases h : ∃ L, blockB L = true ∧ showBlkL L = s.data.toList
  · obtain ⟨L, h⟩ := h
    exact ⟨L, true, ⟨fun _ => h, fun h => by cases h⟩⟩
  · exact ⟨[], false, ⟨(fun h => by cases h), fun _ => ⟨rfl, fun l h1 h2 => h ⟨l, h1, h2⟩⟩⟩⟩
theorem BlkC.text {s : ByteArray} {L : List EntR} {b : Bool} (h : BlkC s L b) (hb : b = true) : L.length ≤ 16 ∧ 1 ≤ L.length ∧ entsB L = true ∧ s.data.toList = showKL L := by
  obtain ⟨h1, h2⟩ := h.yes hb
  rw [showBlkL_yes h1] at h2
  unfold blockB at h1
  rw [Bool.and_eq_true, inB_iff] at h1
  exact ⟨by omega, by omega, h1.2, h2.symm⟩
theorem BlkC.len {s : ByteArray} {L : List EntR} {b : Bool} (h : BlkC s L b) : (L.length : Int) ≤ 16 := by
  cases b
  · rw [(h.no rfl).1]; simp
  · have := (h.text rfl).1; omega
theorem comm_take : ∀ s t : List UInt8, s.take (comm s t) = t.take (comm s t)
  | [], [] => rfl
  | [], _ :: _ => by simp [comm]
  | _ :: _, [] => by simp [comm]
  | a :: s, b :: t => by
    unfold comm
    by_cases h : a = b
    · rw [if_pos h, List.take_succ_cons, List.take_succ_cons, comm_take s t, h]
    · rw [if_neg h]; rfl
theorem entL_pos (n : Nat) (e : EntR) : 1 ≤ (entL n e).length := by
  have h5 : ((if e.del then [1] else [0] : List UInt8)).length = 1 := by split <;> rfl
  unfold entL
  simp only [List.length_append, h5]
  omega
theorem blkTo_pre {L : List EntR} (i d : Nat) (h : i + d ≤ L.length) : (∃ t, blkTo L (i + d) = blkTo L i ++ t) ∧ (blkTo L i).length + d ≤ (blkTo L (i + d)).length := by
  induction d with
  | zero => exact ⟨⟨[], by simp⟩, by simp⟩
  | succ d ih =>
    obtain ⟨⟨t, ht⟩, hl⟩ := ih (by omega)
    have hs := blkTo_step (l := L) (k := i + d) (by omega)
    rw [← Nat.add_assoc, hs]
    have := entL_pos (shr L (i + d)) (L[i + d]'(by omega))
    exact ⟨⟨t ++ entL (shr L (i + d)) (L[i + d]'(by omega)), by rw [ht, List.append_assoc]⟩, by rw [List.length_append]; omega⟩
/-- The key of the last entry. -/
def lastK (l : List EntR) : ByteArray := match l.getLast? with | some e => e.key | none => str []
theorem lastK_snoc (l : List EntR) (e : EntR) : lastK (l ++ [e]) = e.key := by simp [lastK]
theorem lastK_take {L : List EntR} {i : Nat} (h : i < L.length) (h0 : ¬ i = 0) : lastK (L.take i) = (L[i - 1]'(by omega)).key := by
  have : L.take i = L.take (i - 1) ++ [L[i - 1]'(by omega)] := by
    have := List.take_succ_eq_append_getElem (l := L) (i := i - 1) (by omega)
    rwa [Nat.sub_add_cancel (by omega)] at this
  rw [this, lastK_snoc]
/-- Where the entries end. -/
def endOf (s : ByteArray) : Nat := (readFixedL (s.extract (s.size - 2) s.size).data.toList 2).1
theorem endOf_le (s : ByteArray) : (endOf s : Int) ≤ 562949953421311 := by
  unfold endOf readFixedL
  split
  · have := beVal_le6 (l := (s.extract (s.size - 2) s.size).data.toList.take (2 : Int).toNat) (by rw [List.length_take]; simp; omega)
    simp only
    omega
  · simp
theorem beVal_two (n : Nat) (h : n < 65536) : beVal (beB 2 n) = n := by
  have e : beB 2 n = [UInt8.ofNat (n / 256), UInt8.ofNat n] := rfl
  have e1 : (UInt8.ofNat (n / 256)).toNat = n / 256 := by simp; omega
  have e2 : (UInt8.ofNat n).toNat = n % 256 := by simp
  rw [e]
  simp only [beVal, List.foldl_cons, List.foldl_nil, e1, e2]
  omega
theorem BlkC.end_eq {s : ByteArray} {L : List EntR} {b : Bool} (h : BlkC s L b) (hb : b = true) : endOf s = (blkTo L L.length).length ∧ endOf s + 2 ≤ s.size := by
  obtain ⟨h16, _, he, ht⟩ := h.text hb
  have hl := blkTo_len he L.length (Nat.le_refl _)
  have hf : fixedL ((blkTo L L.length).length : Int) 2 = beB 2 (blkTo L L.length).length := by
    unfold fixedL
    rw [if_pos (by decide)]
    exact fixedN_zero (by show (blkTo L L.length).length / 256 ^ 2 = 0; omega)
  have hsz : s.data.toList.length = s.size := by simp
  have hA : s.data.toList = (blkTo L L.length ++ (varL (plcTo L L.length).length ++ plcL (plcTo L L.length))) ++ beB 2 (blkTo L L.length).length := by
    rw [ht]; unfold showKL; rw [hf]; simp
  have hlen := congrArg List.length hA
  rw [List.length_append, List.length_append, beB_length, hsz] at hlen
  have hex : (s.extract (s.size - 2) s.size).data.toList = beB 2 (blkTo L L.length).length := by
    rw [ext_from, hA]
    rw [List.drop_append_of_le_length (by rw [List.length_append]; omega), List.drop_of_length_le (by rw [List.length_append]; omega), List.nil_append]
  have hee : endOf s = (blkTo L L.length).length := by
    unfold endOf readFixedL
    rw [hex, if_pos ⟨by decide, by rw [beB_length]; decide⟩]
    simp only
    rw [List.take_of_length_le (by rw [beB_length]; decide)]
    exact beVal_two _ (by omega)
  exact ⟨hee, by omega⟩
/-- What stands at the beginning of entry i. -/
theorem BlkC.ent {s : ByteArray} {L : List EntR} {b : Bool} (h : BlkC s L b) (hb : b = true) {i : Nat} (hi : i < L.length) :
    ∃ p1 p2 p3 p5, takeV s (blkTo L i).length = some (shr L i, p1) ∧ takeP s p1 = some (str (L[i].key.data.toList.drop (shr L i)), p2) ∧ takeV s p2 = some (L[i].seq.toNat, p3) ∧
      rem s p3 = flagL L[i].del ++ rem s (p3 + 1) ∧ p3 < s.size ∧ takeP s (p3 + 1) = some (L[i].val, p5) ∧ p5 = (blkTo L (i + 1)).length ∧ shr L i ≤ (lastK (L.take i)).size ∧
      (lastK (L.take i)).extract 0 (shr L i) ++ str (L[i].key.data.toList.drop (shr L i)) = L[i].key ∧ ((L[i].seq.toNat : Nat) : Int) = L[i].seq := by
  obtain ⟨h16, _, he, ht⟩ := h.text hb
  obtain ⟨hk, hv⟩ := entsB_sizes he i hi
  have hsq : 0 ≤ L[i].seq ∧ L[i].seq ≤ 1000000 := by
    have h1 := allIx_spec he i hi
    have : entB L[i] = true := by
      by_cases h0 : i = 0
      · rwa [entAt_first hi h0] at h1
      · rw [entAt_next hi h0 (by omega)] at h1
        simp only [Bool.and_eq_true] at h1
        exact h1.1
    simp only [entB, Bool.and_eq_true, inB_iff] at this
    exact this.2
  have hshr := shr_le hi
  obtain ⟨⟨t, hpre⟩, _⟩ := blkTo_pre (L := L) (i + 1) (L.length - (i + 1)) (by omega)
  rw [show i + 1 + (L.length - (i + 1)) = L.length from by omega, blkTo_step hi] at hpre
  obtain ⟨u, hu⟩ : ∃ u, s.data.toList = blkTo L i ++ (entL (shr L i) L[i] ++ u) := ⟨t ++ (varL (plcTo L L.length).length ++ (plcL (plcTo L L.length) ++ fixedL ((blkTo L L.length).length : Int) 2)), by rw [ht]; unfold showKL; rw [hpre]; simp⟩
  have hsz : s.data.toList.length = s.size := by simp
  have r0 : rem s (blkTo L i).length = entL (shr L i) L[i] ++ u := by unfold rem; rw [hu]; simp
  have r1 : rem s (blkTo L (i + 1)).length = u := by rw [blkTo_step hi, List.length_append, ← rem_drop, r0]; simp
  have hn : (L[i].seq.toNat : Int) = L[i].seq := by omega
  have hf : (if L[i].del then [1] else [0] : List UInt8) = flagL L[i].del := rfl
  have hE : entL (shr L i) L[i] ++ u = varB (shr L i) ++ (pieL (str (L[i].key.data.toList.drop (shr L i))).data.toList ++ (varB L[i].seq.toNat ++ (flagL L[i].del ++ (pieL L[i].val.data.toList ++ u)))) := by
    unfold entL
    rw [str_data, varL_nat (by omega), ← hn, varL_nat (by omega), Int.toNat_natCast, hf]
    simp
  rw [hE] at r0
  obtain ⟨a1, a2⟩ := takeV_of (by omega) r0
  obtain ⟨b1, b2⟩ := takeP_of (by rw [str_size, List.length_drop]; simp; omega) a2
  obtain ⟨c1, c2⟩ := takeV_of (by omega) b2
  obtain ⟨d1, d2⟩ := rdFlag_of c2
  obtain ⟨f1, f2⟩ := takeP_of (by omega) d2
  refine ⟨_, _, _, _, a1, b1, c1, by rw [c2, d2], ?_, f1, ?_, ?_, ?_, hn⟩
  · have hl := congrArg List.length c2
    rw [rem_length, List.length_append] at hl
    have : (flagL L[i].del).length = 1 := by unfold flagL; split <;> rfl
    omega
  · have g1 := (takeP_some f1).2.2.2.1
    have g2 := congrArg List.length (f2.trans r1.symm)
    rw [rem_length, rem_length] at g2
    have g3 : (blkTo L (i + 1)).length ≤ s.size := by
      have := congrArg List.length hu
      rw [hsz, List.length_append, List.length_append] at this
      rw [blkTo_step hi, List.length_append]
      omega
    have g4 := congrArg List.length r1
    rw [rem_length] at g4
    omega
  · by_cases h0 : i % 4 = 0
    · rw [shr_zero h0]; omega
    · rw [lastK_take hi (by omega), shr_next h0 hi (by omega), comm_symm]
      have := comm_le (L[i - 1]'(by omega)).key.data.toList L[i].key.data.toList
      simpa using this
  · by_cases h0 : i % 4 = 0
    · rw [shr_zero h0, ext_str, List.drop_zero, List.drop_zero]
      rw [str_append]
      simp [str_of]
    · rw [lastK_take hi (by omega), shr_next h0 hi (by omega), ext_str, List.drop_zero, Nat.sub_zero]
      rw [comm_symm, comm_take (L[i - 1]'(by omega)).key.data.toList L[i].key.data.toList, str_append, List.take_append_drop, str_of]
/-- The loops of both. -/
structure KI (s : ByteArray) (L : List EntR) (b : Bool) (i : Nat) (l : List EntR) (p : Nat) (bad : Bool) (last : ByteArray) : Prop where
  len : l.length = i
  six : i ≤ 16
  ps : (p : Int) ≤ s.size
  ls : (last.size : Int) ≤ i * 1048576
  cmp : b = true → bad = false ∧ l = L.take i ∧ i ≤ L.length ∧ p = (blkTo L i).length ∧ last = lastK (L.take i)
theorem KI.start (s : ByteArray) (L : List EntR) (b : Bool) : KI s L b 0 [] 0 false ByteArray.empty :=
  ⟨rfl, by omega, by omega, by simp, fun _ => ⟨rfl, by simp, by omega, rfl, rfl⟩⟩
theorem KI.lt {s : ByteArray} {L : List EntR} {b : Bool} {i : Nat} {l : List EntR} {p : Nat} {bad : Bool} {last : ByteArray} (hC : BlkC s L b) (h : KI s L b i l p bad last) (hb : b = true) (hi : p < endOf s) : i < L.length := by
  obtain ⟨_, _, h3, h4, _⟩ := h.cmp hb
  rw [(hC.end_eq hb).1, h4] at hi
  rcases Nat.lt_or_ge i L.length with h | h
  · exact h
  · have : i = L.length := by omega
    rw [this] at hi; omega
theorem KI.over {s : ByteArray} {L : List EntR} {b : Bool} {i : Nat} {l : List EntR} {p : Nat} {last : ByteArray} (hC : BlkC s L b) (h : KI s L b i l p false last) (hi : p < endOf s) {n p1 : Nat} {b1 : Bool} (e1 : rdNum s p false = (n, p1, b1)) (hn : last.size < n) : b = false := by
  cases b
  · rfl
  · have hlt := h.lt hC rfl hi
    obtain ⟨_, _, _, h4, h5⟩ := h.cmp rfl
    obtain ⟨q1, q2, q3, q5, t1, _, _, _, _, _, _, t8, _⟩ := hC.ent rfl hlt
    rw [← h4] at t1
    rw [rdNum_some t1] at e1
    simp only [Prod.mk.injEq] at e1
    rw [← h5] at t8
    omega
theorem KI.ls_next {last k : ByteArray} {s : ByteArray} {i n : Nat} (hs : (s.size : Int) ≤ 1048576) (h : (last.size : Int) ≤ i * 1048576) (hk : (k.size : Int) ≤ s.size) : ((last.extract 0 n ++ k).size : Int) ≤ ((i + 1 : Nat) : Int) * 1048576 := by
  rw [ByteArray.size_append, ByteArray.size_extract]
  omega
theorem KI.step {s : ByteArray} {L : List EntR} {b : Bool} {i : Nat} {l : List EntR} {p : Nat} {last : ByteArray} (hC : BlkC s L b) (h : KI s L b i l p false last) (hs : (s.size : Int) ≤ 1048576) (hi : p < endOf s) (h16 : i < 16)
    {n p1 : Nat} {b1 : Bool} {k : ByteArray} {p2 : Nat} {b2 : Bool} {q p3 : Nat} {b3 : Bool} {d : Bool} {p4 : Nat} {b4 : Bool} {v : ByteArray} {p5 : Nat} {b5 : Bool}
    (e1 : rdNum s p false = (n, p1, b1)) (e2 : rdShort s p1 b1 = (k, p2, b2)) (e3 : rdNum s p2 b2 = (q, p3, b3)) (e4 : rdFlag s p3 b3 = (d, p4, b4)) (e5 : rdShort s p4 b4 = (v, p5, b5)) :
    KI s L b (i + 1) (l ++ [⟨last.extract 0 n ++ k, (q : Int), d, v⟩]) p5 b5 (last.extract 0 n ++ k) := by
  have m1 := rdNum_bdI s p false h.ps
  rw [e1] at m1
  have m2 := rdShort_bd s p1 b1 m1.1
  rw [e2] at m2
  have m3 := rdNum_bdI s p2 b2 m2.1
  rw [e3] at m3
  have m4 := rdFlag_bd s p3 b3 m3.1
  rw [e4] at m4
  have m5 := rdShort_bd s p4 b4 m4
  rw [e5] at m5
  refine ⟨by simp [h.len], by omega, m5.1, KI.ls_next hs h.ls m2.2, fun hb => ?_⟩
  have hlt := h.lt hC hb hi
  obtain ⟨_, h2, h3, h4, h5⟩ := h.cmp hb
  obtain ⟨q1, q2, q3, q5, t1, t2, t3, t4, t5, t6, t7, t8, t9, t10⟩ := hC.ent hb hlt
  rw [← h4] at t1
  rw [rdNum_some t1] at e1
  simp only [Prod.mk.injEq] at e1
  obtain ⟨rfl, rfl, rfl⟩ := e1
  rw [rdShort_some t2] at e2
  simp only [Prod.mk.injEq] at e2
  obtain ⟨rfl, rfl, rfl⟩ := e2
  rw [rdNum_some t3] at e3
  simp only [Prod.mk.injEq] at e3
  obtain ⟨rfl, rfl, rfl⟩ := e3
  rw [(rdFlag_of t4).1] at e4
  simp only [Prod.mk.injEq] at e4
  obtain ⟨rfl, rfl, rfl⟩ := e4
  rw [rdShort_some t6] at e5
  simp only [Prod.mk.injEq] at e5
  obtain ⟨rfl, rfl, rfl⟩ := e5
  rw [← h5] at t9
  rw [t9, t10]
  have hL : L.take (i + 1) = L.take i ++ [L[i]] := List.take_succ_eq_append_getElem hlt
  exact ⟨rfl, by rw [h2, hL], by omega, t7, by rw [hL, lastK_snoc]⟩
theorem KI.fin {s : ByteArray} {L : List EntR} {b : Bool} {i : Nat} {l : List EntR} {p : Nat} {bad : Bool} {last : ByteArray} (hC : BlkC s L b) (h : KI s L b i l p bad last) (h2 : 2 ≤ s.size) (hd : b = true → (bad = true ∨ ¬ p < endOf s ∨ ¬ i < 16)) :
    b = (!bad && (decide (l.length ≠ 0) && showBlkL l == s.data.toList)) ∧ (b = true → L = l) := by
  cases b
  · refine ⟨?_, fun h => by cases h⟩
    rcases hx : (!bad && (decide (l.length ≠ 0) && showBlkL l == s.data.toList)) with _ | _
    · rfl
    · exfalso
      simp only [Bool.and_eq_true, decide_eq_true_eq, beq_iff_eq] at hx
      have hsz : s.data.toList.length = s.size := by simp
      rcases hb : blockB l with _ | _
      · have h3 := hx.2.2
        rw [showBlkL_not hb] at h3
        have h4 := congrArg List.length h3
        rw [hsz] at h4
        simp at h4
        omega
      · exact (hC.no rfl).2 l hb hx.2.2
  · obtain ⟨e1, e2, e3, e4, e5⟩ := h.cmp rfl
    obtain ⟨t1, t2, t3, t4⟩ := hC.text rfl
    have hil : i = L.length := by
      rcases hd rfl with h | h | h
      · rw [e1] at h; cases h
      · rw [(hC.end_eq rfl).1, e4] at h
        have := (blkTo_pre (L := L) i (L.length - i) (by omega)).2
        rw [show i + (L.length - i) = L.length from by omega] at this
        omega
      · omega
    have hl : l = L := by rw [e2, hil, List.take_length]
    refine ⟨?_, fun _ => hl.symm⟩
    have hne : L.length ≠ 0 := by omega
    rw [hl, e1, (hC.yes rfl).2]
    simp only [hne, ne_eq, not_false_eq_true, decide_true, Bool.true_and, Bool.not_false]
    exact (beq_self_eq_true _).symm
/-- The reference's steps. -/
theorem KI.s1 {s : ByteArray} {L : List EntR} {b : Bool} {i : Nat} {l : List EntR} {p : Nat} {last : ByteArray} (hC : BlkC s L b) (h : KI s L b i l p false last) (hi : p < endOf s) (e : takeV s p = none) : b = false := by
  cases b
  · rfl
  · obtain ⟨q1, q2, q3, q5, t1, _⟩ := hC.ent rfl (h.lt hC rfl hi)
    rw [← (h.cmp rfl).2.2.2.1, e] at t1; cases t1
theorem KI.sv {s : ByteArray} {L : List EntR} {b : Bool} {i : Nat} {l : List EntR} {p : Nat} {last : ByteArray} (hC : BlkC s L b) (h : KI s L b i l p false last) (hi : p < endOf s) {n p1 : Nat} (e1 : takeV s p = some (n, p1)) (hb : b = true) :
    ∃ hlt : i < L.length, ∃ p2 p3 p5 : Nat, n = shr L i ∧ tkP s p1 = (str (L[i].key.data.toList.drop (shr L i)), (p2 : Int)) ∧ takeV s p2 = some (L[i].seq.toNat, p3) ∧ ∃ h3 : p3 < s.size, (s[p3] == 1) = L[i].del ∧ tkP s ((p3 : Int) + 1) = (L[i].val, (p5 : Int)) ∧ p5 = (blkTo L (i + 1)).length ∧ last.extract 0 n ++ str (L[i].key.data.toList.drop (shr L i)) = L[i].key ∧ ((L[i].seq.toNat : Nat) : Int) = L[i].seq ∧ p1 ≤ s.size := by
  have hlt := h.lt hC hb hi
  obtain ⟨_, h2, h3, h4, h5⟩ := h.cmp hb
  obtain ⟨q1, q2, q3, q5, t1, t2, t3, t4, t5, t6, t7, t8, t9, t10⟩ := hC.ent hb hlt
  rw [← h4, e1] at t1
  simp only [Option.some.injEq, Prod.mk.injEq] at t1
  obtain ⟨rfl, rfl⟩ := t1
  rw [← h5] at t9
  refine ⟨hlt, q2, q3, q5, rfl, tkP_some t2, t3, t5, ?_, ?_, t7, t9, t10, (takeV_some e1).2.2.2⟩
  · have hh : rem s q3 = s[q3] :: rem s (q3 + 1) := by
      unfold rem; rw [List.drop_eq_getElem_cons (by simpa using t5)]; rfl
    rw [hh] at t4
    have := (List.cons.inj (t4.trans (show flagL L[i].del ++ rem s (q3 + 1) = (if L[i].del then 1 else 0) :: rem s (q3 + 1) by unfold flagL; split <;> rfl))).1
    rw [this]
    cases L[i].del <;> rfl
  · have := tkP_some t6
    rwa [show (((q3 + 1 : Nat)) : Int) = (q3 : Int) + 1 from by omega] at this
theorem KI.s2 {s : ByteArray} {L : List EntR} {b : Bool} {i : Nat} {l : List EntR} {p : Nat} {last : ByteArray} (hC : BlkC s L b) (h : KI s L b i l p false last) (hi : p < endOf s) {n p1 : Nat} (e1 : takeV s p = some (n, p1)) {k : ByteArray} {e2 : Int} (h2 : tkP s p1 = (k, e2)) (h3 : tkV s e2 = none) : b = false := by
  cases b
  · rfl
  · obtain ⟨hlt, p2, p3, p5, _, t2, t3, _⟩ := h.sv hC hi e1 rfl
    rw [t2] at h2
    simp only [Prod.mk.injEq] at h2
    rw [← h2.2, tkV_nat, t3] at h3; cases h3
theorem KI.s3 {s : ByteArray} {L : List EntR} {b : Bool} {i : Nat} {l : List EntR} {p : Nat} {last : ByteArray} (hC : BlkC s L b) (h : KI s L b i l p false last) (hi : p < endOf s) {n p1 : Nat} (e1 : takeV s p = some (n, p1)) {k : ByteArray} {e2 : Int} (h2 : tkP s p1 = (k, e2)) {q p3 : Nat} (h3 : tkV s e2 = some (q, p3)) (h4 : ¬ p3 < s.size) : b = false := by
  cases b
  · rfl
  · obtain ⟨hlt, q2, q3, q5, _, t2, t3, t4, _⟩ := h.sv hC hi e1 rfl
    rw [t2] at h2
    simp only [Prod.mk.injEq] at h2
    rw [← h2.2, tkV_nat, t3] at h3
    simp only [Option.some.injEq, Prod.mk.injEq] at h3
    omega
theorem KI.s5 {s : ByteArray} {L : List EntR} {b : Bool} {i : Nat} {l : List EntR} {p : Nat} {last : ByteArray} (hC : BlkC s L b) (h : KI s L b i l p false last) (hi : p < endOf s) {n p1 : Nat} (e1 : takeV s p = some (n, p1)) {k : ByteArray} {e2 : Int} (h2 : tkP s p1 = (k, e2)) {q p3 : Nat} (h3 : tkV s e2 = some (q, p3)) {v : ByteArray} {e5 : Int} (h5 : tkP s ((p3 : Int) + 1) = (v, e5)) (hn : e5 < 0) : b = false := by
  cases b
  · rfl
  · obtain ⟨hlt, q2, q3, q5, _, t2, t3, t4, t5, t6, _⟩ := h.sv hC hi e1 rfl
    rw [t2] at h2
    simp only [Prod.mk.injEq] at h2
    rw [← h2.2, tkV_nat, t3] at h3
    simp only [Option.some.injEq, Prod.mk.injEq] at h3
    rw [h3.2, h5] at t6
    simp only [Prod.mk.injEq] at t6
    omega
theorem KI.sstep {s : ByteArray} {L : List EntR} {b : Bool} {i : Nat} {l : List EntR} {p : Nat} {last : ByteArray} (hC : BlkC s L b) (h : KI s L b i l p false last) (hs : (s.size : Int) ≤ 1048576) (hi : p < endOf s) (h16 : i < 16) {n p1 : Nat} (e1 : takeV s p = some (n, p1)) {k : ByteArray} {e2 : Int} (h2 : tkP s p1 = (k, e2)) {q p3 : Nat} (h3 : tkV s e2 = some (q, p3)) (h4 : p3 < s.size) {v : ByteArray} {p5 : Nat} (h5 : tkP s ((p3 : Int) + 1) = (v, (p5 : Int))) :
    KI s L b (i + 1) (l ++ [⟨last.extract 0 n ++ k, (q : Int), s[p3] == 1, v⟩]) p5 false (last.extract 0 n ++ k) := by
  have m2 := tkP_bd s p1
  rw [h2] at m2
  have m5 := tkP_bd s ((p3 : Int) + 1)
  rw [h5] at m5
  refine ⟨by simp [h.len], by omega, m5.1, KI.ls_next hs h.ls m2.2.2, fun hb => ?_⟩
  obtain ⟨_, g2, g3, g4, g5⟩ := h.cmp hb
  obtain ⟨hlt, q2, q3, q5, rfl, t2, t3, t4, t5, t6, t7, t8, t9, _⟩ := h.sv hC hi e1 hb
  rw [t2] at h2
  simp only [Prod.mk.injEq] at h2
  obtain ⟨rfl, rfl⟩ := h2
  rw [tkV_nat, t3] at h3
  simp only [Option.some.injEq, Prod.mk.injEq] at h3
  obtain ⟨rfl, rfl⟩ := h3
  rw [h5] at t6
  simp only [Prod.mk.injEq] at t6
  obtain ⟨rfl, hp⟩ := t6
  obtain rfl : p5 = q5 := by omega
  rw [t8, t9, t5]
  have hL : L.take (i + 1) = L.take i ++ [L[i]] := List.take_succ_eq_append_getElem hlt
  exact ⟨rfl, by rw [g2, hL], by omega, t7, by rw [hL, lastK_snoc]⟩
end Sp
end Go.Proofs.Ytmbmflhcimkjpaa
/- Walks: DrawShowBlock, DrawReadBlock. -/
set_option linter.unusedVariables false
set_option linter.unusedSimpArgs false
namespace Go.Proofs.Ytmbmflhcimkjpaa
open Go.RowKit Sp Go.Sort
theorem showBlk_size (l : List EntR) : ((str (showBlkL l)).size : Int) ≤ 1000000 := by
  rw [str_size]
  rcases h : blockB l with _ | _
  · rw [showBlkL_not h]; decide
  · rw [showBlkL_yes h]
    unfold blockB at h
    rw [Bool.and_eq_true, inB_iff] at h
    have h1 := blkTo_len h.2 l.length (Nat.le_refl _)
    have h2 := varL_length ((plcTo l l.length).length : Int)
    have h3 := fixedL_length_le ((blkTo l l.length).length : Int) 2
    have h4 : ∀ k, (plcTo l k).length ≤ k := by
      intro k
      induction k with
      | zero => simp [plcTo]
      | succ k ih =>
        unfold plcTo
        split
        · rw [List.length_append, List.length_singleton]; omega
        · omega
    have h5 : ∀ ps : List Int, (plcL ps).length ≤ 7 * ps.length := by
      intro ps
      induction ps with
      | nil => simp [plcL]
      | cons a ps ih =>
        have := varL_length a
        simp only [plcL, List.flatMap_cons, List.length_append, List.length_cons] at ih ⊢
        omega
    have h6 := h4 l.length
    have h7 := h5 (plcTo l l.length)
    unfold showKL
    simp only [List.length_append]
    omega

set_option maxRecDepth 100000 in
set_option maxHeartbeats 1600000 in
theorem drawShowBlock_any (v : Value) (xs : List UInt8) (w : World) (h : SlT bytC 1 w v xs) (hs : (xs.length : Int) ≤ 1048576) :
    Calls Try.prog 47 #[v] w fun e w' => ∃ (ao : Option Addr) (cp : Nat) (l : List EntR), e = .returned (.slice ao l.length cp) ∧ SlT EntR.cells 4 w' (.slice ao l.length cp) l ∧ (l.length : Int) ≤ 62 ∧ Below w.heap.size w w' := by
  go_enter Try.func47, Try.ntmps47
  go_wp2_with fail
  refine (l1New_any v xs _ h hs).mono ?_
  rintro e w1 ⟨b, rfl, c1, b1⟩
  go_wp2_with fail
  refine (l9Any_any b w v xs 14 (by decide) _ c1).mono ?_
  rintro e w2 ⟨ao, cp, l, rfl, o2, hl, c2, q2⟩
  go_wp2
  go_ret
  exact ⟨ao, cp, l, rfl, SlT.of_own o2 (fun _ => rfl) (by decide), hl, c2.bel⟩

set_option maxRecDepth 100000 in
set_option maxHeartbeats 1600000 in
theorem drawReadBlock_any (v : Value) (xs : List UInt8) (w : World) (h : SlT bytC 1 w v xs) (hs : (xs.length : Int) ≤ 1048576) :
    Calls Try.prog 51 #[v] w fun e w' => ∃ t : ByteArray, e = .returned (.string t) ∧ (t.size : Int) ≤ 1048576 ∧ Below w.heap.size w w' := by
  go_enter Try.func51, Try.ntmps51
  go_wp2_with fail
  refine (l1New_any v xs _ h hs).mono ?_
  rintro e w1 ⟨b, rfl, c1, b1⟩
  go_wp2_with fail
  refine (l9Any_any b w v xs 14 (by decide) _ c1).mono ?_
  rintro e w2 ⟨ao, cp, l, rfl, o2, hl, c2, q2⟩
  go_wp2_with fail
  refine (specShowBlock _ l _ (SlT.of_own o2 (fun _ => rfl) (by decide)) (by omega)).mono ?_
  rintro e w3 ⟨rfl, b3⟩
  have c3 := c2.below b3
  have hz := showBlk_size l
  generalize str (showBlkL l) = s at *
  go_wp2_with fail
  refine (l1Once_any b w v xs 3 (by decide) _ c3).mono ?_
  rintro e w4 ⟨on, rfl, c4, g4⟩
  cases on
  · go_wp2
    go_ret
    exact ⟨s, rfl, by omega, c4.bel⟩
  · go_wp2_with fail
    refine (l1Spoil_any b w v xs s hz _ c4).mono ?_
    rintro e w5 ⟨t, rfl, ht, c5, g5⟩
    go_wp2
    go_ret
    exact ⟨t, rfl, ht, c5.bel⟩
end Go.Proofs.Ytmbmflhcimkjpaa
/- Walk: the laws' test of a code that is too long. -/
set_option linter.unusedVariables false
set_option linter.unusedSimpArgs false
namespace Go.Proofs.Ytmbmflhcimkjpaa
open Go.RowKit Sp Go.Sort
set_option maxRecDepth 100000 in
theorem big_any (v : Value) (xs : List UInt8) (w : World) (h : SlT bytC 1 w v xs) :
    Calls Try.prog 10 #[v] w fun e w' => e = .returned (.bool (decide (1048576 < (xs.length : Int)))) ∧ w = w' := by
  obtain ⟨ao, cap, rfl, hlc, hcm, hsh⟩ := h.shape
  go_enter Try.func10, Try.ntmps10
  go_wp2
  go_ret
  exact ⟨rfl, rfl⟩
end Go.Proofs.Ytmbmflhcimkjpaa
/- Walks: sameEnts at equal lists. -/
set_option linter.unusedVariables false
set_option linter.unusedSimpArgs false
namespace Go.Proofs.Ytmbmflhcimkjpaa
open Go.RowKit Sp Go.Sort

set_option maxRecDepth 100000 in
set_option maxHeartbeats 1600000 in
theorem sameEnts_eq (u v : Value) (l : List EntR) (w : World) (hu : SlT EntR.cells 4 w u l) (hv : SlT EntR.cells 4 w v l) (hl : (l.length : Int) ≤ 1048576) :
    Calls Try.prog 39 #[u, v] w fun e w' => e = .returned (.bool true) ∧ Below w.heap.size w w' := by
  obtain ⟨ao, cap, rfl, hlc, hcm, hsh⟩ := hu.shape
  obtain ⟨bo, cbp, rfl, hlc1, hcm1, hsh1⟩ := hv.shape
  go_enter Try.func39, Try.ntmps39
  go_wp2
  go_loopw [5] (fun i wr => ∃ k : Nat, i = .int .i64 k ∧ k ≤ l.length ∧ Below w.heap.size w wr) (fun i _ => l.length - (intOf i).toNat)
  case atStart => exact ⟨0, rfl, Nat.zero_le _, Below.refl _ _⟩
  case round =>
    obtain ⟨k, rfl, hk, xr⟩ := hrel
    by_cases hlt : k < l.length
    · obtain ⟨b, off, rfl, hb, hc⟩ := hsh (by omega)
      obtain ⟨b', off', rfl, hb', hc'⟩ := hsh1 (by omega)
      have k0 : wr.cell? ⟨b, off + k * 4, none⟩ = some (.string l[k].key) := (xr.cell (p := ⟨b, off + k * 4, none⟩) hb).trans (hc k hlt 0 _ rfl)
      have k1 : wr.cell? ⟨b, off + k * 4 + 1, none⟩ = some (.int .i64 l[k].seq) := (xr.cell (p := ⟨b, off + k * 4 + 1, none⟩) hb).trans (hc k hlt 1 _ rfl)
      have k2 : wr.cell? ⟨b, off + k * 4 + 2, none⟩ = some (.bool l[k].del) := (xr.cell (p := ⟨b, off + k * 4 + 2, none⟩) hb).trans (hc k hlt 2 _ rfl)
      have k3 : wr.cell? ⟨b, off + k * 4 + 3, none⟩ = some (.string l[k].val) := (xr.cell (p := ⟨b, off + k * 4 + 3, none⟩) hb).trans (hc k hlt 3 _ rfl)
      have m0 : wr.cell? ⟨b', off' + k * 4, none⟩ = some (.string l[k].key) := (xr.cell (p := ⟨b', off' + k * 4, none⟩) hb').trans (hc' k hlt 0 _ rfl)
      have m1 : wr.cell? ⟨b', off' + k * 4 + 1, none⟩ = some (.int .i64 l[k].seq) := (xr.cell (p := ⟨b', off' + k * 4 + 1, none⟩) hb').trans (hc' k hlt 1 _ rfl)
      have m2 : wr.cell? ⟨b', off' + k * 4 + 2, none⟩ = some (.bool l[k].del) := (xr.cell (p := ⟨b', off' + k * 4 + 2, none⟩) hb').trans (hc' k hlt 2 _ rfl)
      have m3 : wr.cell? ⟨b', off' + k * 4 + 3, none⟩ = some (.string l[k].val) := (xr.cell (p := ⟨b', off' + k * 4 + 3, none⟩) hb').trans (hc' k hlt 3 _ rfl)
      clear hc hc' hsh hsh1
      generalize l[k].key = f0 at *
      generalize l[k].seq = f1 at *
      generalize l[k].del = f2 at *
      generalize l[k].val = f3 at *
      go_wp2_with fail
      go_quiet (fail)
      go_wp2
      go_roundw
      case rel => exact ⟨k + 1, by go_num, hlt, below_drewN xr _⟩
      case measure => simp [intOf]; omega
    · go_wp2
      go_ret
      exact ⟨rfl, xr⟩
end Go.Proofs.Ytmbmflhcimkjpaa
/- Walks: ReadBlock of the program. -/
set_option linter.unusedVariables false
set_option linter.unusedSimpArgs false
namespace Go.Proofs.Ytmbmflhcimkjpaa
open Go.RowKit Sp Go.Sort

set_option maxRecDepth 100000 in
set_option maxHeartbeats 1600000 in
theorem implReadBlock (s : ByteArray) (L : List EntR) (b : Bool) (hC : BlkC s L b) (w : World) (hs : (s.size : Int) ≤ 1048576) :
    Calls Try.prog 49 #[.string s] w fun e w' => ∃ v', e = .returned (.tuple #[v', .bool b]) ∧ Row EntR.cells 30 4 w.heap.size w'.heap.size w' v' L ∧ Below w.heap.size w w' := by
  by_cases h2 : s.size < 2
  · obtain rfl : b = false := by
      cases b
      · rfl
      · have := (hC.end_eq rfl).2; omega
    obtain rfl : L = [] := (hC.no rfl).1
    go_enter Try.func49, Try.ntmps49
    go_wp2
    refine bodyPost_ret (v := .tuple #[.slice none 0 0, .bool false]) (by simp [results, Try.results49, go_sem]) rfl ⟨_, rfl, Row.nil _ _ _, Below.refl _ _⟩
  · have r0 : Rd (w.alloc (.cells #[.string s, .int .i64 0, .bool false] 131)) w.heap.size s 0 false := ⟨131, heap_alloc_new w _⟩
    have b0 : Below w.heap.size w (w.alloc (.cells #[.string s, .int .i64 0, .bool false] 131)) := (Below.refl _ _).alloc (Nat.le_refl _) _
    have HST := Lib.hid (KI.start s L b)
    have W1 : IntKind.i64.wrap ((s.size : Int) - 2) = (s.size : Int) - 2 := by rw [IntKind.wrap_i64]; omega
    have hee := endOf_le s
    obtain ⟨en, hen⟩ : ∃ en, en = endOf s := ⟨_, rfl⟩
    rw [← hen] at hee
    have HE := Lib.hid hen
    have hen2 : (readFixedL (s.extract (s.size - 2) s.size).data.toList 2).1 = en := hen.symm
    clear hen
    go_enter Try.func49, Try.ntmps49
    go_wp2_with fail
    refine (implReadFixed (s.extract (s.size - 2) s.size) 2 _).mono ?_
    rintro e wq ⟨rfl, rfl⟩
    rw [hen2]
    clear hen2
    generalize (readFixedL (s.extract (s.size - 2) s.size).data.toList 2).2 = okx at *
    go_wp2_with fail
    go_loopw [7, 8] (fun o lv wr => ∃ (k p : Nat) (l : List EntR) (bad : Bool) (last : ByteArray) (ao : Option Addr) (cp : Nat), o = .slice ao k cp ∧ lv = .string last ∧ RowKit.Hid (KI s L b k l p bad last) ∧ Rd wr w.heap.size s p bad ∧ wr.ownsRow (w.heap.size + 1) 30 4 o k (l.map EntR.cells).flatten ∧ Below w.heap.size w wr) (fun o _ _ => 16 - (match o with | .slice _ n _ => n | _ => 0))
    case atStart => exact ⟨0, 0, [], false, _, none, 0, rfl, rfl, HST, r0, World.ownsRow_nil _ _ _ _, b0⟩
    case round =>
      clear HST r0 b0
      obtain ⟨k, p, l, bad, last, ao, cp, rfl, rfl, HB, hr, ho, xb⟩ := hrel
      obtain ⟨c0, c1, c2, zf⟩ := hr.facts
      have hp := HB.out.ps
      have h16' := HB.out.six
      have zr := hr.lt
      by_cases hgo : p < en ∧ bad = false ∧ k < 16
      · obtain ⟨hpe, rfl, h16⟩ := hgo
        have hls := HB.out.ls
        go_wp2_with fail
        refine (number_any w.heap.size p s false _ hr hp hs).mono ?_
        rintro e w1 ⟨rfl, r1, t1⟩
        have x1 := below_touch xb t1 (Nat.le_refl _) xb.size
        have o1 := own_grown ho t1 (fun k hk e => by have := (ho.lt _ hk).1; have := Option.some.inj e; omega)
        have d1 := rdNum_bdI s p false hp
        clear hr t1 ho c0 c1 c2 zf
        rcases h1 : rdNum s p false with ⟨n, p1, b1⟩
        rw [h1] at r1 d1
        have H1 := Lib.hid h1
        clear h1
        simp only at r1 d1 ⊢
        by_cases hn : last.size < n
        · obtain rfl : b = false := HB.out.over hC (HE.out ▸ hpe) H1.out hn
          obtain rfl : L = [] := (hC.no rfl).1
          clear HB
          go_wp2
          refine bodyPost_ret (v := .tuple #[.slice none 0 0, .bool false]) (by simp [results, Try.results49, go_sem]) rfl ⟨_, rfl, Row.nil _ _ _, x1⟩
        · have i1 : (n : Int) ≤ last.size := by omega
          have d2 := rdShort_bd s p1 b1 d1.1
          rcases h2 : rdShort s p1 b1 with ⟨ky, p2, b2⟩
          have R2 := short_rd w.heap.size p1 s b1
          rw [h2] at d2 R2
          have H2 := Lib.hid h2
          clear h2
          simp only at d2 R2
          have i2 : ¬ 9223372036854775807 < min n last.size + ky.size := by omega
          have hR2 := Lib.hid R2
          clear R2
          go_upto_region 11 with fail
          go_cut [10] (fun s10 wx => ∃ bo, s10 = .pointer (some ⟨bo, 0, none⟩) ∧ w1.heap.size ≤ bo ∧ Bx wx bo #[.string (last.extract 0 n ++ ky), .int .i64 0, .bool false, .string ByteArray.empty] ∧ Rd wx w.heap.size s p2 b2 ∧ wx.ownsRow (w.heap.size + 1) 30 4 (.slice ao k cp) k (l.map EntR.cells).flatten ∧ Below w.heap.size w wx)
          case first =>
            have rA : Rd w1.drew w.heap.size s p1 b1 := r1
            have rZ0 : Rd (w1.alloc (.cells #[.string ⟨#[]⟩, .int .i64 0, .bool false, .string ⟨#[]⟩] 30)) w.heap.size s p1 b1 := r1.below ((Below.refl w1.heap.size w1).alloc (Nat.le_refl _) _)
            have rZ : Rd (w1.alloc (.cells #[.string ⟨#[]⟩, .int .i64 0, .bool false, .string ⟨#[]⟩] 30)).drew w.heap.size s p1 b1 := rZ0
            have BZ : Bx (w1.alloc (.cells #[.string ⟨#[]⟩, .int .i64 0, .bool false, .string ⟨#[]⟩] 30)).drew w1.heap.size #[.string ⟨#[]⟩, .int .i64 0, .bool false, .string ⟨#[]⟩] := Bx.new w1 _ _
            have oZ : (w1.alloc (.cells #[.string ⟨#[]⟩, .int .i64 0, .bool false, .string ⟨#[]⟩] 30)).drew.ownsRow (w.heap.size + 1) 30 4 (.slice ao k cp) k (l.map EntR.cells).flatten := (o1.alloc _).drew
            have xZ : Below w.heap.size w (w1.alloc (.cells #[.string ⟨#[]⟩, .int .i64 0, .bool false, .string ⟨#[]⟩] 30)).drew := (x1.alloc x1.size _).drew
            have xA : Below w.heap.size w w1.drew := x1.drew
            have oA : w1.drew.ownsRow (w.heap.size + 1) 30 4 (.slice ao k cp) k (l.map EntR.cells).flatten := o1.drew
            have z1 := r1.lt
            have hb9 : (Value.slice ao k cp).ownBlock ≠ some w1.heap.size := fun e => by have := (o1.lt _ e).2; omega
            go_region_law (go_simp; go_at_call 93; first | (refine (hR2.out _ rA d1.1 hs).mono ?_; rintro e w2 ⟨rfl, r2, t2⟩; have o2 := own_grown oA t2 (fun k hk e => by have := (oA.lt _ hk).1; have := Option.some.inj e; omega); have x2 := below_touch xA t2 (Nat.le_refl _) xA.size; have zz2 : w1.heap.size ≤ w2.heap.size := t2.size) | (refine (hR2.out _ rZ d1.1 hs).mono ?_; rintro e w2 ⟨rfl, r2, t2⟩; have B2 := BZ.grown t2 (by intro e; have := Option.some.inj e; omega); have y0 := B2.cell 0 _ rfl; have y1 := B2.cell 1 _ rfl; have y2 := B2.cell 2 _ rfl; have y3 := B2.cell 3 _ rfl; have yf := B2.frozen; have o2 := own_grown oZ t2 (fun k hk e => by have := (oZ.lt _ hk).1; have := Option.some.inj e; omega); have x2 := below_touch xZ t2 (Nat.le_refl _) xZ.size))
            all_goals
              go_wp2_with fail
              go_meet
              first
                | exact ⟨w2.heap.size, rfl, zz2, Bx.new w2 _ _, r2.below ((Below.refl w2.heap.size w2).alloc (Nat.le_refl _) _), o2.alloc _, x2.alloc x2.size _⟩
                | exact ⟨w1.heap.size, rfl, Nat.le_refl _, ((((B2.set 0 _).set 1 _).set 2 _).set 3 _), Rd.of ((((r2.bx.far _ _ (by simp; omega)).far _ _ (by simp; omega)).far _ _ (by simp; omega)).far _ _ (by simp; omega)), own_far (own_far (own_far (own_far o2 _ _ hb9) _ _ hb9) _ _ hb9) _ _ hb9, below_set (below_set (below_set (below_set x2 _ _ (by simp; omega)) _ _ (by simp; omega)) _ _ (by simp; omega)) _ _ (by simp; omega)⟩
          case rest =>
            obtain ⟨bo, rfl, hbo, B3, r3, o3, x3⟩ := hcut
            have z1 := r1.lt
            have hne : ∀ k', (Value.slice ao k cp).ownBlock = some k' → k' ≠ bo := fun k' hk' => by
              have := (o1.lt _ hk').2; omega
            clear r1 o1 x1 hR2
            go_wp2_with fail
            refine (number_any w.heap.size _ s _ _ r3 d2.1 hs).mono ?_
            rintro e w4 ⟨rfl, r4, t4⟩
            have x4 := below_touch x3 t4 (Nat.le_refl _) x3.size
            have B4 := B3.grown t4 (by intro e; have := Option.some.inj e; omega)
            have o4 := own_grown o3 t4 (fun k hk e => by have := (o3.lt _ hk).1; have := Option.some.inj e; omega)
            clear B3 r3 o3 x3 t4
            rcases h4 : rdNum s p2 b2 with ⟨q, p4, b4⟩
            have d4 := rdNum_bdI s p2 b2 d2.1
            rw [h4] at r4 d4
            have H4 := Lib.hid h4
            clear h4
            simp only at r4 d4 ⊢
            have rr4 : Rd (w4.setCell ⟨bo, 1, none⟩ (.int .i64 q)) w.heap.size s p4 b4 := Rd.of (r4.bx.far ⟨bo, 1, none⟩ _ (by simp; omega))
            have BB4 : Bx (w4.setCell ⟨bo, 1, none⟩ (.int .i64 q)) bo #[.string (last.extract 0 n ++ ky), .int .i64 q, .bool false, .string ByteArray.empty] := B4.set 1 _
            have xx4 := below_set x4 ⟨bo, 1, none⟩ (.int .i64 q) (by simp; omega)
            have oo4 := own_far o4 ⟨bo, 1, none⟩ (.int .i64 q) (fun e => hne _ e rfl)
            have y4 := B4.cell 1 _ rfl
            have yf4 := B4.frozen
            go_wp2_with fail
            refine (flag_rd w.heap.size _ s _ _ rr4 d4.1 hs).mono ?_
            rintro e w5 ⟨rfl, r5, t5⟩
            have x5 := below_touch xx4 t5 (Nat.le_refl _) xx4.size
            have B5 := BB4.grown t5 (by intro e; have := Option.some.inj e; omega)
            have o5 := own_grown oo4 t5 (fun k hk e => by have := (oo4.lt _ hk).1; have := Option.some.inj e; omega)
            clear BB4 rr4 oo4 xx4 t5
            rcases h5 : rdFlag s p4 b4 with ⟨dl, p5, b5⟩
            have d5 := rdFlag_bd s p4 b4 d4.1
            rw [h5] at r5 d5
            have H5 := Lib.hid h5
            clear h5
            simp only at r5 d5 ⊢
            have rr5 : Rd (w5.setCell ⟨bo, 2, none⟩ (.bool dl)) w.heap.size s p5 b5 := Rd.of (r5.bx.far ⟨bo, 2, none⟩ _ (by simp; omega))
            have BB5 : Bx (w5.setCell ⟨bo, 2, none⟩ (.bool dl)) bo #[.string (last.extract 0 n ++ ky), .int .i64 q, .bool dl, .string ByteArray.empty] := B5.set 2 _
            have xx5 := below_set x5 ⟨bo, 2, none⟩ (.bool dl) (by simp; omega)
            have oo5 := own_far o5 ⟨bo, 2, none⟩ (.bool dl) (fun e => hne _ e rfl)
            have y5 := B5.cell 2 _ rfl
            have yf5 := B5.frozen
            go_wp2_with fail
            refine (short_rd w.heap.size _ s _ _ rr5 d5 hs).mono ?_
            rintro e w6 ⟨rfl, r6, t6⟩
            have x6 := below_touch xx5 t6 (Nat.le_refl _) xx5.size
            have B6 := BB5.grown t6 (by intro e; have := Option.some.inj e; omega)
            have o6 := own_grown oo5 t6 (fun k hk e => by have := (oo5.lt _ hk).1; have := Option.some.inj e; omega)
            clear BB5 rr5 oo5 xx5 t6
            rcases h6 : rdShort s p5 b5 with ⟨vl, p6, b6⟩
            have d6 := rdShort_bd s p5 b5 d5
            rw [h6] at r6 d6
            have H6 := Lib.hid h6
            clear h6
            simp only at r6 d6 ⊢
            have rr6 : Rd (w6.setCell ⟨bo, 3, none⟩ (.string vl)) w.heap.size s p6 b6 := Rd.of (r6.bx.far ⟨bo, 3, none⟩ _ (by simp; omega))
            have BB6 : Bx (w6.setCell ⟨bo, 3, none⟩ (.string vl)) bo #[.string (last.extract 0 n ++ ky), .int .i64 q, .bool dl, .string vl] := B6.set 3 _
            have xx6 := below_set x6 ⟨bo, 3, none⟩ (.string vl) (by simp; omega)
            have oo6 := own_far o6 ⟨bo, 3, none⟩ (.string vl) (fun e => hne _ e rfl)
            have y6 := B6.cell 3 _ rfl
            have yf6 := B6.frozen
            have HN := Lib.hid (HB.out.step hC hs (HE.out ▸ hpe) h16 H1.out H2.out H4.out H5.out H6.out)
            have q0 := BB6.cell 0 _ rfl
            have q1 := BB6.cell 1 _ rfl
            have q2 := BB6.cell 2 _ rfl
            have q3 := BB6.cell 3 _ rfl
            clear HB
            go_wp2_with (at_builtin; go_loud (refine app_new rfl rfl Try.underlying33 info_Ent rfl (by decide) oo6 rfl 1 (by simp [Act.eval]) rfl (by simp [Value.oneCell']) (by omega) xx6 (Nat.le_succ _) (by have := rr6.lt; omega) ?_; intro v8 w8 r8 x8 g8))
            have R8 := Rd.of (rr6.bx.grown g8 (by intro e; have := (oo6.lt _ e).1; omega))
            obtain ⟨gg, cap, rfl⟩ := own_sl r8 (by omega)
            go_roundw
            case rel => exact ⟨k + 1, _, _, _, _, _, _, rfl, rfl, HN, R8, by simpa [EntR.cells] using r8, x8⟩
            case measure => simp [intOf]; omega
      · have HF := Lib.hid (HB.out.fin hC (by omega) (fun _ => by
          have := HE.out
          cases bad
          · right
            by_cases h1 : p < en
            · right; exact fun h => hgo ⟨h1, rfl, h⟩
            · left; omega
          · exact .inl rfl))
        have HL := Lib.hid HB.out.len
        obtain rfl : k = l.length := HL.out.symm
        clear HB
        have hs2 : SlT EntR.cells 4 wr (.slice ao l.length cp) l := SlT.of_own ho (fun _ => rfl) (by decide)
        have hl6 : (l.length : Int) ≤ 1048576 := by omega
        cases bad
        · have hx : ¬ p < en ∨ (p < en ∧ ¬ l.length < 16) := by
            by_cases h1 : p < en
            · exact .inr ⟨h1, fun h => hgo ⟨h1, rfl, h⟩⟩
            · exact .inl h1
          clear hgo
          rcases hx with hx | ⟨hx, hx2⟩
          · by_cases h0 : l.length = 0
            · obtain rfl : l = [] := List.eq_nil_of_length_eq_zero h0
              obtain rfl : b = false := by rw [HF.out.1]; rfl
              obtain rfl : L = [] := (hC.no rfl).1
              clear h0
              go_wp2
              refine bodyPost_ret (v := .tuple #[.slice none 0 0, .bool false]) (by simp [results, Try.results49, go_sem]) rfl ⟨_, rfl, Row.nil _ _ _, xb⟩
            · have hlen0 : decide (l.length ≠ 0) = true := by simpa using h0
              have HF2 := Lib.hid (show b = (showBlkL l == s.data.toList) ∧ (b = true → L = l) from ⟨by rw [HF.out.1, hlen0, Bool.not_false, Bool.true_and, Bool.true_and], HF.out.2⟩)
              have hcmp : ((str (showBlkL l)).toList == s.toList) = (showBlkL l == s.data.toList) := by rw [str_toList, toList_data]
              clear HF hlen0
              go_wp2_with fail
              refine (implShowBlock _ l _ hs2 hl6).mono ?_
              rintro e w2 ⟨rfl, b2⟩
              have x2 := xb.trans (b2.mono xb.size)
              have o2 := own_below ho b2
              clear hs2 b2 ho hr
              rcases hq : (showBlkL l == s.data.toList) with _ | _
              · obtain rfl : b = false := by rw [HF2.out.1, hq]
                obtain rfl : L = [] := (hC.no rfl).1
                rw [hq] at hcmp
                clear hq
                go_wp2
                refine bodyPost_ret (v := .tuple #[.slice none 0 0, .bool false]) (by simp [results, Try.results49, go_sem]) rfl ⟨_, rfl, Row.nil _ _ _, x2⟩
              · obtain rfl : b = true := by rw [HF2.out.1, hq]
                have HLL := Lib.hid (HF2.out.2 rfl)
                rw [hq] at hcmp
                clear hq
                go_wp2
                refine bodyPost_ret (v := .tuple #[.slice ao l.length cp, .bool true]) (by simp [results, Try.results49, go_sem]) rfl ⟨_, rfl, ?_, x2⟩
                rw [HLL.out]
                exact Row.up o2 rfl (Nat.le_succ _)
          · have h0 : ¬ l.length = 0 := by omega
            have hlen0 : decide (l.length ≠ 0) = true := by simpa using h0
            have HF2 := Lib.hid (show b = (showBlkL l == s.data.toList) ∧ (b = true → L = l) from ⟨by rw [HF.out.1, hlen0, Bool.not_false, Bool.true_and, Bool.true_and], HF.out.2⟩)
            have hcmp : ((str (showBlkL l)).toList == s.toList) = (showBlkL l == s.data.toList) := by rw [str_toList, toList_data]
            clear HF hlen0
            go_wp2_with fail
            refine (implShowBlock _ l _ hs2 hl6).mono ?_
            rintro e w2 ⟨rfl, b2⟩
            have x2 := xb.trans (b2.mono xb.size)
            have o2 := own_below ho b2
            clear hs2 b2 ho hr
            rcases hq : (showBlkL l == s.data.toList) with _ | _
            · obtain rfl : b = false := by rw [HF2.out.1, hq]
              obtain rfl : L = [] := (hC.no rfl).1
              rw [hq] at hcmp
              clear hq
              go_wp2
              refine bodyPost_ret (v := .tuple #[.slice none 0 0, .bool false]) (by simp [results, Try.results49, go_sem]) rfl ⟨_, rfl, Row.nil _ _ _, x2⟩
            · obtain rfl : b = true := by rw [HF2.out.1, hq]
              have HLL := Lib.hid (HF2.out.2 rfl)
              rw [hq] at hcmp
              clear hq
              go_wp2
              refine bodyPost_ret (v := .tuple #[.slice ao l.length cp, .bool true]) (by simp [results, Try.results49, go_sem]) rfl ⟨_, rfl, ?_, x2⟩
              rw [HLL.out]
              exact Row.up o2 rfl (Nat.le_succ _)
        · obtain rfl : b = false := by rw [HF.out.1]; rfl
          obtain rfl : L = [] := (hC.no rfl).1
          clear hgo
          by_cases hx : p < en
          all_goals
            go_wp2
            refine bodyPost_ret (v := .tuple #[.slice none 0 0, .bool false]) (by simp [results, Try.results49, go_sem]) rfl ⟨_, rfl, Row.nil _ _ _, xb⟩
end Go.Proofs.Ytmbmflhcimkjpaa
/- Walks: ReadBlock of the reference. -/
set_option linter.unusedVariables false
set_option linter.unusedSimpArgs false
namespace Go.Proofs.Ytmbmflhcimkjpaa
open Go.RowKit Sp Go.Sort
theorem u8_one (x : UInt8) : ((x.toNat : Int) == 1) = (x == 1) := by
  rw [Bool.eq_iff_iff, beq_iff_eq, beq_iff_eq]
  constructor
  · intro h; exact UInt8.toNat_inj.1 (by show x.toNat = 1; omega)
  · rintro rfl; rfl

set_option maxRecDepth 100000 in
set_option maxHeartbeats 1600000 in
theorem specReadBlock (s : ByteArray) (L : List EntR) (b : Bool) (hC : BlkC s L b) (w : World) (hs : (s.size : Int) ≤ 1048576) :
    Calls Try.prog 52 #[.string s] w fun e w' => ∃ v', e = .returned (.tuple #[v', .bool b]) ∧ SlT EntR.cells 4 w' v' L ∧ Below w.heap.size w w' := by
  have h0 : (w.alloc (.cells #[] 30)).ownsRow w.heap.size 30 4 (.slice (some ⟨w.heap.size, 0, none⟩) 0 0) 0 [] := World.ownsRow_lit w #[] 0 (Nat.le_refl _) (by simp [maxLen]) rfl
  have x0 : Below w.heap.size w (w.alloc (.cells #[] 30)) := (Below.refl _ _).alloc (Nat.le_refl _) _
  have hnil : ∀ (W : World) (a : Addr), SlT EntR.cells 4 W (.slice (some a) 0 0) ([] : List EntR) := fun W a => ⟨some a, 0, rfl, Nat.le_refl _, by decide, fun h => absurd h (by simp)⟩
  by_cases h2 : s.size < 2
  · obtain rfl : b = false := by
      cases b
      · rfl
      · have := (hC.end_eq rfl).2; omega
    obtain rfl : L = [] := (hC.no rfl).1
    go_enter Try.func52, Try.ntmps52
    go_wp2
    refine bodyPost_ret (v := .tuple #[.slice (some ⟨w.heap.size, 0, none⟩) 0 0, .bool false]) (by simp [results, Try.results52, go_sem]) rfl ⟨_, rfl, hnil _ _, x0⟩
  · have HST := Lib.hid (KI.start s L b)
    have W1 : IntKind.i64.wrap ((s.size : Int) - 2) = (s.size : Int) - 2 := by rw [IntKind.wrap_i64]; omega
    have hee := endOf_le s
    obtain ⟨en, hen⟩ : ∃ en, en = endOf s := ⟨_, rfl⟩
    rw [← hen] at hee
    have HE := Lib.hid hen
    have hen2 : (readFixedL (s.extract (s.size - 2) s.size).data.toList 2).1 = en := hen.symm
    clear hen
    go_enter Try.func52, Try.ntmps52
    go_wp2_with fail
    refine (specReadFixed (s.extract (s.size - 2) s.size) 2 _).mono ?_
    rintro e wq ⟨rfl, rfl⟩
    rw [hen2]
    clear hen2
    generalize (readFixedL (s.extract (s.size - 2) s.size).data.toList 2).2 = okx at *
    go_wp2
    go_loopw [4, 7, 8] (fun o a lv wr => ∃ (k p : Nat) (l : List EntR) (last : ByteArray) (ao : Option Addr) (cp : Nat), o = .slice ao k cp ∧ a = .int .i64 p ∧ lv = .string last ∧ RowKit.Hid (KI s L b k l p false last) ∧ wr.ownsRow w.heap.size 30 4 o k (l.map EntR.cells).flatten ∧ Below w.heap.size w wr) (fun o _ _ _ => 16 - (match o with | .slice _ n _ => n | _ => 0))
    case atStart => exact ⟨0, 0, [], _, _, _, rfl, rfl, rfl, HST, h0, x0⟩
    case round =>
      clear HST h0 x0
      obtain ⟨k, p, l, last, ao, cp, rfl, rfl, rfl, HB, ho, xb⟩ := hrel
      have hp := HB.out.ps
      have hk6 := HB.out.six
      by_cases hgo : p < en
      · by_cases hen : (en : Int) ≤ (s.size : Int) - 2
        · by_cases hk16 : k < 16
          · rcases h1 : takeV s p with _ | ⟨n, p1⟩
            · obtain rfl : b = false := HB.out.s1 hC (HE.out ▸ hgo) h1
              obtain rfl : L = [] := (hC.no rfl).1
              have hv' : tkV s (p : Int) = none := by rw [tkV_nat]; exact h1
              clear h1 HB
              go_wp2_with fail
              refine (vars1_none s p _ hs hv').mono ?_
              rintro e w1 ⟨g, c, rfl, b1⟩
              have x1 := xb.trans (b1.mono xb.size)
              clear hv'
              go_wp2
              refine bodyPost_ret (v := .tuple #[.slice (some ⟨w1.heap.size, 0, none⟩) 0 0, .bool false]) (by simp [results, Try.results52, go_sem]) rfl ⟨_, rfl, hnil _ _, x1.alloc x1.size _⟩
            · have H1 := Lib.hid h1
              have hv' : tkV s (p : Int) = some (n, p1) := by rw [tkV_nat]; exact h1
              have hq1 := (takeV_some h1).2.2.2
              clear h1
              go_wp2_with fail
              refine (vars1_some s p n p1 _ hs hv').mono ?_
              rintro e w1 ⟨g, c, rfl, c1, g0, g1, b1⟩
              have x1 := xb.trans (b1.mono xb.size)
              have o1 := own_below ho b1
              have hp1 : ¬ (p1 : Int) < 0 := by omega
              clear hv' b1 ho g0
              by_cases hn : last.size < n
              · obtain rfl : b = false := HB.out.over hC (HE.out ▸ hgo) (rdNum_some H1.out) hn
                obtain rfl : L = [] := (hC.no rfl).1
                clear HB
                go_wp2
                refine bodyPost_ret (v := .tuple #[.slice (some ⟨w1.heap.size, 0, none⟩) 0 0, .bool false]) (by simp [results, Try.results52, go_sem]) rfl ⟨_, rfl, hnil _ _, x1.alloc x1.size _⟩
              · go_wp2_with fail
                refine (take_any s (p1 : Int) _ hs).mono ?_
                rintro e w2 ⟨rfl, b2⟩
                have x2 := x1.trans (b2.mono x1.size)
                have o2 := own_below o1 b2
                have c2 := (b2.cell (p := ⟨g, 0, none⟩) g1).trans c1
                have g2 := Nat.lt_of_lt_of_le g1 b2.size
                have T2 := tkP_bd s (p1 : Int)
                clear c1 o1 b2 g1
                rcases h2 : tkP s (p1 : Int) with ⟨ky, e2⟩
                rw [h2] at T2
                have H2 := Lib.hid h2
                clear h2
                simp only at T2 ⊢
                rcases h3 : tkV s e2 with _ | ⟨q, p3⟩
                · obtain rfl : b = false := HB.out.s2 hC (HE.out ▸ hgo) H1.out H2.out h3
                  obtain rfl : L = [] := (hC.no rfl).1
                  clear HB
                  go_wp2_with fail
                  refine (vars1_none s e2 _ hs h3).mono ?_
                  rintro e w3 ⟨g', c', rfl, b3⟩
                  have x3 := x2.trans (b3.mono x2.size)
                  clear h3
                  go_wp2
                  refine bodyPost_ret (v := .tuple #[.slice (some ⟨w3.heap.size, 0, none⟩) 0 0, .bool false]) (by simp [results, Try.results52, go_sem]) rfl ⟨_, rfl, hnil _ _, x3.alloc x3.size _⟩
                · have H3 := Lib.hid h3
                  have hp3 : p3 ≤ s.size ∧ q ≤ 562949953421311 := by
                    obtain ⟨pp, _, hh⟩ := tkV_some h3
                    have := takeV_some hh
                    exact ⟨this.2.2.2, this.2.1⟩
                  go_wp2_with fail
                  refine (vars1_some s e2 q p3 _ hs h3).mono ?_
                  rintro e w3 ⟨g', c', rfl, d4, _, gd, b3⟩
                  have x4 := x2.trans (b3.mono x2.size)
                  have o4 := own_below o2 b3
                  have c4 := (b3.cell (p := ⟨g, 0, none⟩) g2).trans c2
                  have g4 := Nat.lt_of_lt_of_le g2 b3.size
                  have hp30 : ¬ (p3 : Int) < 0 := by omega
                  clear h3 c2 o2 b3 g2
                  by_cases h4 : p3 < s.size
                  · have W3 : IntKind.i64.wrap ((p3 : Int) + 1) = (p3 : Int) + 1 := by rw [IntKind.wrap_i64]; omega
                    have hu := u8_one s[p3]
                    rcases hd : (s[p3] == 1) with _ | _
                    · have HD := Lib.hid hd
                      rw [hd] at hu
                      clear hd
                      go_wp2_with fail
                      refine (take_any s ((p3 : Int) + 1) _ hs).mono ?_
                      rintro e w5 ⟨rfl, b5⟩
                      have x5 := x4.trans (b5.mono x4.size)
                      have o5 := own_below o4 b5
                      have c5 := (b5.cell (p := ⟨g, 0, none⟩) g4).trans c4
                      have d5 := (b5.cell (p := ⟨g', 0, none⟩) gd).trans d4
                      have T5 := tkP_bd s ((p3 : Int) + 1)
                      clear c4 d4 o4 b5
                      rcases h5 : tkP s ((p3 : Int) + 1) with ⟨vl, e5⟩
                      rw [h5] at T5
                      have H5 := Lib.hid h5
                      clear h5
                      simp only at T5 ⊢
                      by_cases he5 : e5 < 0
                      · obtain rfl : b = false := HB.out.s5 hC (HE.out ▸ hgo) H1.out H2.out H3.out H5.out he5
                        obtain rfl : L = [] := (hC.no rfl).1
                        clear HB
                        go_wp2
                        refine bodyPost_ret (v := .tuple #[.slice (some ⟨w5.heap.size, 0, none⟩) 0 0, .bool false]) (by simp [results, Try.results52, go_sem]) rfl ⟨_, rfl, hnil _ _, x5.alloc x5.size _⟩
                      · obtain ⟨p5, rfl⟩ : ∃ p5 : Nat, e5 = (p5 : Int) := ⟨e5.toNat, by omega⟩
                        have HN := Lib.hid (HB.out.sstep hC hs (HE.out ▸ hgo) hk16 H1.out H2.out H3.out h4 H5.out)
                        rw [HD.out] at HN
                        have hls := HB.out.ls
                        clear HB
                        have i1 : (n : Int) ≤ last.size := by omega
                        have i2 : ¬ 9223372036854775807 < ((last.extract 0 n).size : Int) + (ky.size : Int) := by rw [ByteArray.size_extract]; omega
                        have i3 : ¬ 9223372036854775807 < (last.extract 0 n).size + ky.size := by rw [ByteArray.size_extract]; omega
                        go_wp2_with (at_builtin; go_loud (refine app_new rfl rfl Try.underlying33 info_Ent rfl (by decide) o5 rfl 1 (by simp [Act.eval]) rfl (by simp [Value.oneCell']) (by omega) x5 (Nat.le_refl _) x5.size ?_; intro v8 w8 r8 x8 g8))
                        obtain ⟨gg, cap, rfl⟩ := own_sl r8 (by omega)
                        go_roundw
                        case rel => exact ⟨k + 1, p5, _, _, _, _, rfl, rfl, rfl, HN, by simpa [EntR.cells] using r8, x8⟩
                        case measure => simp [intOf]; omega
                    · have HD := Lib.hid hd
                      rw [hd] at hu
                      clear hd
                      go_wp2_with fail
                      refine (take_any s ((p3 : Int) + 1) _ hs).mono ?_
                      rintro e w5 ⟨rfl, b5⟩
                      have x5 := x4.trans (b5.mono x4.size)
                      have o5 := own_below o4 b5
                      have c5 := (b5.cell (p := ⟨g, 0, none⟩) g4).trans c4
                      have d5 := (b5.cell (p := ⟨g', 0, none⟩) gd).trans d4
                      have T5 := tkP_bd s ((p3 : Int) + 1)
                      clear c4 d4 o4 b5
                      rcases h5 : tkP s ((p3 : Int) + 1) with ⟨vl, e5⟩
                      rw [h5] at T5
                      have H5 := Lib.hid h5
                      clear h5
                      simp only at T5 ⊢
                      by_cases he5 : e5 < 0
                      · obtain rfl : b = false := HB.out.s5 hC (HE.out ▸ hgo) H1.out H2.out H3.out H5.out he5
                        obtain rfl : L = [] := (hC.no rfl).1
                        clear HB
                        go_wp2
                        refine bodyPost_ret (v := .tuple #[.slice (some ⟨w5.heap.size, 0, none⟩) 0 0, .bool false]) (by simp [results, Try.results52, go_sem]) rfl ⟨_, rfl, hnil _ _, x5.alloc x5.size _⟩
                      · obtain ⟨p5, rfl⟩ : ∃ p5 : Nat, e5 = (p5 : Int) := ⟨e5.toNat, by omega⟩
                        have HN := Lib.hid (HB.out.sstep hC hs (HE.out ▸ hgo) hk16 H1.out H2.out H3.out h4 H5.out)
                        rw [HD.out] at HN
                        have hls := HB.out.ls
                        clear HB
                        have i1 : (n : Int) ≤ last.size := by omega
                        have i2 : ¬ 9223372036854775807 < ((last.extract 0 n).size : Int) + (ky.size : Int) := by rw [ByteArray.size_extract]; omega
                        have i3 : ¬ 9223372036854775807 < (last.extract 0 n).size + ky.size := by rw [ByteArray.size_extract]; omega
                        go_wp2_with (at_builtin; go_loud (refine app_new rfl rfl Try.underlying33 info_Ent rfl (by decide) o5 rfl 1 (by simp [Act.eval]) rfl (by simp [Value.oneCell']) (by omega) x5 (Nat.le_refl _) x5.size ?_; intro v8 w8 r8 x8 g8))
                        obtain ⟨gg, cap, rfl⟩ := own_sl r8 (by omega)
                        go_roundw
                        case rel => exact ⟨k + 1, p5, _, _, _, _, rfl, rfl, rfl, HN, by simpa [EntR.cells] using r8, x8⟩
                        case measure => simp [intOf]; omega
                  · obtain rfl : b = false := HB.out.s3 hC (HE.out ▸ hgo) H1.out H2.out H3.out h4
                    obtain rfl : L = [] := (hC.no rfl).1
                    clear HB
                    go_wp2
                    refine bodyPost_ret (v := .tuple #[.slice (some ⟨w3.heap.size, 0, none⟩) 0 0, .bool false]) (by simp [results, Try.results52, go_sem]) rfl ⟨_, rfl, hnil _ _, x4.alloc x4.size _⟩
          · have HF := Lib.hid (HB.out.fin hC (by omega) (fun _ => .inr (.inr hk16)))
            have HL := Lib.hid HB.out.len
            obtain rfl : k = l.length := HL.out.symm
            clear HB
            have hs2 : SlT EntR.cells 4 wr (.slice ao l.length cp) l := SlT.of_own ho (fun _ => rfl) (by decide)
            have hl6 : (l.length : Int) ≤ 1048576 := by omega
            by_cases h0 : l.length = 0
            · exact absurd h0 (by omega)
            · have hlen0 : decide (l.length ≠ 0) = true := by simpa using h0
              have HF2 := Lib.hid (show b = (showBlkL l == s.data.toList) ∧ (b = true → L = l) from ⟨by rw [HF.out.1, hlen0, Bool.not_false, Bool.true_and, Bool.true_and], HF.out.2⟩)
              have hcmp : ((str (showBlkL l)).toList == s.toList) = (showBlkL l == s.data.toList) := by rw [str_toList, toList_data]
              clear HF hlen0
              go_wp2_with fail
              refine (specShowBlock _ l _ hs2 hl6).mono ?_
              rintro e w2 ⟨rfl, b2⟩
              have x2 := xb.trans (b2.mono xb.size)
              have hs3 := hs2.below b2
              clear hs2 b2
              rcases hq : (showBlkL l == s.data.toList) with _ | _
              · obtain rfl : b = false := by rw [HF2.out.1, hq]
                obtain rfl : L = [] := (hC.no rfl).1
                rw [hq] at hcmp
                clear hq
                go_wp2
                refine bodyPost_ret (v := .tuple #[.slice (some ⟨w2.heap.size, 0, none⟩) 0 0, .bool false]) (by simp [results, Try.results52, go_sem]) rfl ⟨_, rfl, hnil _ _, x2.alloc x2.size _⟩
              · obtain rfl : b = true := by rw [HF2.out.1, hq]
                have HLL := Lib.hid (HF2.out.2 rfl)
                rw [hq] at hcmp
                clear hq
                go_wp2
                refine bodyPost_ret (v := .tuple #[.slice ao l.length cp, .bool true]) (by simp [results, Try.results52, go_sem]) rfl ⟨_, rfl, ?_, x2⟩
                rw [HLL.out]
                exact hs3
        · have HF := Lib.hid (HB.out.fin hC (by omega) (fun hb => by exfalso; have := (hC.end_eq hb).2; have := HE.out; omega))
          have HL := Lib.hid HB.out.len
          obtain rfl : k = l.length := HL.out.symm
          clear HB
          have hs2 : SlT EntR.cells 4 wr (.slice ao l.length cp) l := SlT.of_own ho (fun _ => rfl) (by decide)
          have hl6 : (l.length : Int) ≤ 1048576 := by omega
          by_cases h0 : l.length = 0
          · obtain rfl : l = [] := List.eq_nil_of_length_eq_zero h0
            obtain rfl : b = false := by rw [HF.out.1]; rfl
            obtain rfl : L = [] := (hC.no rfl).1
            clear h0
            go_wp2
            refine bodyPost_ret (v := .tuple #[.slice (some ⟨wr.heap.size, 0, none⟩) 0 0, .bool false]) (by simp [results, Try.results52, go_sem]) rfl ⟨_, rfl, hnil _ _, xb.alloc xb.size _⟩
          · have hlen0 : decide (l.length ≠ 0) = true := by simpa using h0
            have HF2 := Lib.hid (show b = (showBlkL l == s.data.toList) ∧ (b = true → L = l) from ⟨by rw [HF.out.1, hlen0, Bool.not_false, Bool.true_and, Bool.true_and], HF.out.2⟩)
            have hcmp : ((str (showBlkL l)).toList == s.toList) = (showBlkL l == s.data.toList) := by rw [str_toList, toList_data]
            clear HF hlen0
            go_wp2_with fail
            refine (specShowBlock _ l _ hs2 hl6).mono ?_
            rintro e w2 ⟨rfl, b2⟩
            have x2 := xb.trans (b2.mono xb.size)
            have hs3 := hs2.below b2
            clear hs2 b2
            rcases hq : (showBlkL l == s.data.toList) with _ | _
            · obtain rfl : b = false := by rw [HF2.out.1, hq]
              obtain rfl : L = [] := (hC.no rfl).1
              rw [hq] at hcmp
              clear hq
              go_wp2
              refine bodyPost_ret (v := .tuple #[.slice (some ⟨w2.heap.size, 0, none⟩) 0 0, .bool false]) (by simp [results, Try.results52, go_sem]) rfl ⟨_, rfl, hnil _ _, x2.alloc x2.size _⟩
            · obtain rfl : b = true := by rw [HF2.out.1, hq]
              have HLL := Lib.hid (HF2.out.2 rfl)
              rw [hq] at hcmp
              clear hq
              go_wp2
              refine bodyPost_ret (v := .tuple #[.slice ao l.length cp, .bool true]) (by simp [results, Try.results52, go_sem]) rfl ⟨_, rfl, ?_, x2⟩
              rw [HLL.out]
              exact hs3
      · have HF := Lib.hid (HB.out.fin hC (by omega) (fun _ => .inr (.inl (HE.out ▸ hgo))))
        have HL := Lib.hid HB.out.len
        obtain rfl : k = l.length := HL.out.symm
        clear HB
        have hs2 : SlT EntR.cells 4 wr (.slice ao l.length cp) l := SlT.of_own ho (fun _ => rfl) (by decide)
        have hl6 : (l.length : Int) ≤ 1048576 := by omega
        by_cases h0 : l.length = 0
        · obtain rfl : l = [] := List.eq_nil_of_length_eq_zero h0
          obtain rfl : b = false := by rw [HF.out.1]; rfl
          obtain rfl : L = [] := (hC.no rfl).1
          clear h0
          go_wp2
          refine bodyPost_ret (v := .tuple #[.slice (some ⟨wr.heap.size, 0, none⟩) 0 0, .bool false]) (by simp [results, Try.results52, go_sem]) rfl ⟨_, rfl, hnil _ _, xb.alloc xb.size _⟩
        · have hlen0 : decide (l.length ≠ 0) = true := by simpa using h0
          have HF2 := Lib.hid (show b = (showBlkL l == s.data.toList) ∧ (b = true → L = l) from ⟨by rw [HF.out.1, hlen0, Bool.not_false, Bool.true_and, Bool.true_and], HF.out.2⟩)
          have hcmp : ((str (showBlkL l)).toList == s.toList) = (showBlkL l == s.data.toList) := by rw [str_toList, toList_data]
          clear HF hlen0
          go_wp2_with fail
          refine (specShowBlock _ l _ hs2 hl6).mono ?_
          rintro e w2 ⟨rfl, b2⟩
          have x2 := xb.trans (b2.mono xb.size)
          have hs3 := hs2.below b2
          clear hs2 b2
          rcases hq : (showBlkL l == s.data.toList) with _ | _
          · obtain rfl : b = false := by rw [HF2.out.1, hq]
            obtain rfl : L = [] := (hC.no rfl).1
            rw [hq] at hcmp
            clear hq
            go_wp2
            refine bodyPost_ret (v := .tuple #[.slice (some ⟨w2.heap.size, 0, none⟩) 0 0, .bool false]) (by simp [results, Try.results52, go_sem]) rfl ⟨_, rfl, hnil _ _, x2.alloc x2.size _⟩
          · obtain rfl : b = true := by rw [HF2.out.1, hq]
            have HLL := Lib.hid (HF2.out.2 rfl)
            rw [hq] at hcmp
            clear hq
            go_wp2
            refine bodyPost_ret (v := .tuple #[.slice ao l.length cp, .bool true]) (by simp [results, Try.results52, go_sem]) rfl ⟨_, rfl, ?_, x2⟩
            rw [HLL.out]
            exact hs3
end Go.Proofs.Ytmbmflhcimkjpaa
set_option linter.unusedVariables false
set_option linter.unusedSimpArgs false
namespace Go.Proofs.Ytmbmflhcimkjpaa
open Go.RowKit Sp Go.Sort
theorem BlkC.back (l : List EntR) : BlkC (str (showBlkL l)) (if blockB l then l else []) (blockB l) := by
  rcases h : blockB l with _ | _
  · refine ⟨(fun h => by cases h), fun _ => ⟨rfl, fun m hm he => ?_⟩⟩
    rw [str_data, showBlkL_not h, showBlkL_yes hm] at he
    have := congrArg List.length he
    unfold showKL at this
    have hf : fixedL ((blkTo m m.length).length : Int) 2 = beB 2 (blkTo m m.length).length := by
      have hb := hm
      unfold blockB at hb
      rw [Bool.and_eq_true, inB_iff] at hb
      have hl := blkTo_len hb.2 m.length (Nat.le_refl _)
      unfold fixedL
      rw [if_pos (by decide)]
      exact fixedN_zero (by show (blkTo m m.length).length / 256 ^ 2 = 0; omega)
    rw [hf] at this
    simp only [List.length_append, beB_length, List.length_nil] at this
    omega
  · exact ⟨fun _ => ⟨h, (str_data _).symm⟩, fun h => by cases h⟩

set_option maxRecDepth 100000 in
set_option maxHeartbeats 1600000 in
theorem walkFnBlocks (w : World) (v : Value) (xs : List UInt8) (h : SlT bytC 1 w v xs) :
    Calls Try.prog 7 #[v] w fun e w' => e = .returned (.bool true) ∧ Below w.heap.size w w' := by
  by_cases hbig : 1048576 < (xs.length : Int)
  · go_enter Try.func7, Try.ntmps7
    go_wp2_with fail
    refine (big_any v xs _ h).mono ?_
    rintro e w1 ⟨rfl, rfl⟩
    rw [decide_eq_true hbig]
    go_wp2
    go_ret
    exact ⟨rfl, Below.refl _ _⟩
  · go_enter Try.func7, Try.ntmps7
    go_wp2_with fail
    refine (big_any v xs _ h).mono ?_
    rintro e w1 ⟨rfl, rfl⟩
    rw [decide_eq_false (show ¬ 1048576 < (xs.length : Int) from by omega)]
    go_wp2_with fail
    refine (drawShowBlock_any v xs _ h (by omega)).mono ?_
    rintro e w1 ⟨ao, cp, l, rfl, s1, hl, b1⟩
    go_wp2_with fail
    refine (implShowBlock _ l _ s1 (by omega)).mono ?_
    rintro e w2 ⟨rfl, b2⟩
    have x2 := b1.trans (b2.mono b1.size)
    have s2 := s1.below b2
    have hz := showBlk_size l
    go_wp2_with fail
    refine (implReadBlock _ _ _ (BlkC.back l) _ (by omega)).mono ?_
    rintro e w3 ⟨vx, rfl, R3, b3⟩
    have x3 := x2.trans (b3.mono x2.size)
    have s3 := s2.below b3
    have sx := R3.slT (fun _ => rfl) (by decide)
    clear b1 s1 b2 s2 x2 b3 R3
    go_wp2_with fail
    refine (specShowBlock _ l _ s3 (by omega)).mono ?_
    rintro e w4 ⟨rfl, b4⟩
    have x4 := x3.trans (b4.mono x3.size)
    have s4 := s3.below b4
    have sx4 := sx.below b4
    clear s3 sx x3 b4
    have hem : (str (showBlkL l)).toList.isEmpty = !blockB l := by
      have hC := BlkC.back l
      rw [str_toList]
      rcases hb : blockB l with _ | _
      · rw [showBlkL_not hb]; rfl
      · have h1 := (BlkC.back ([] : List EntR)).no (by decide)
        have h2 := h1.2 l hb
        rw [showBlkL_not (l := []) (by decide), str_data] at h2
        simpa using h2
    rcases hb : blockB l with _ | _
    · rw [hb] at hem
      simp only [Bool.not_false] at hem
      generalize str (showBlkL l) = s at *
      go_wp2_with fail
      refine (drawReadBlock_any v xs _ (h.below x4) (by omega)).mono ?_
      rintro e w6 ⟨t, rfl, ht, b6⟩
      have x6 := x4.trans (b6.mono x4.size)
      obtain ⟨L, bt, hC⟩ := BlkC.exists t
      have hLn := hC.len
      go_wp2_with fail
      refine (implReadBlock t L bt hC _ ht).mono ?_
      rintro e w7 ⟨vy, rfl, R7, b7⟩
      have x7 := x6.trans (b7.mono x6.size)
      have s7 := R7.slT (fun _ => rfl) (by decide)
      go_wp2_with fail
      refine (specReadBlock t L bt hC _ ht).mono ?_
      rintro e w8 ⟨vz, rfl, _, b8⟩
      have x8 := x7.trans (b8.mono x7.size)
      have s8 := s7.below b8
      cases bt
      · go_wp2
        go_ret
        exact ⟨rfl, x8⟩
      · have hy := (hC.yes rfl).2
        go_wp2_with fail
        refine (implShowBlock _ L _ s8 (by omega)).mono ?_
        rintro e w9 ⟨rfl, b9⟩
        rw [hy, str_of]
        go_wp2
        go_ret
        exact ⟨rfl, x8.trans (b9.mono x8.size)⟩
    · rw [hb] at hem sx4
      simp only [Bool.not_true, if_true] at hem sx4
      generalize str (showBlkL l) = s at *
      go_wp2_with fail
      refine (sameEnts_eq _ _ l _ sx4 s4 (by omega)).mono ?_
      rintro e w5 ⟨rfl, b5⟩
      have x5 := x4.trans (b5.mono x4.size)
      go_wp2_with fail
      refine (drawReadBlock_any v xs _ (h.below x5) (by omega)).mono ?_
      rintro e w6 ⟨t, rfl, ht, b6⟩
      have x6 := x5.trans (b6.mono x5.size)
      obtain ⟨L, bt, hC⟩ := BlkC.exists t
      have hLn := hC.len
      go_wp2_with fail
      refine (implReadBlock t L bt hC _ ht).mono ?_
      rintro e w7 ⟨vy, rfl, R7, b7⟩
      have x7 := x6.trans (b7.mono x6.size)
      have s7 := R7.slT (fun _ => rfl) (by decide)
      go_wp2_with fail
      refine (specReadBlock t L bt hC _ ht).mono ?_
      rintro e w8 ⟨vz, rfl, _, b8⟩
      have x8 := x7.trans (b8.mono x7.size)
      have s8 := s7.below b8
      cases bt
      · go_wp2
        go_ret
        exact ⟨rfl, x8⟩
      · have hy := (hC.yes rfl).2
        go_wp2_with fail
        refine (implShowBlock _ L _ s8 (by omega)).mono ?_
        rintro e w9 ⟨rfl, b9⟩
        rw [hy, str_of]
        go_wp2
        go_ret
        exact ⟨rfl, x8.trans (b9.mono x8.size)⟩
end Go.Proofs.Ytmbmflhcimkjpaa

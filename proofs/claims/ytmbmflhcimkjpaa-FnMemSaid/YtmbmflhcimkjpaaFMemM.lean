
/- Walk: the law FnMem. -/
import Derived.Test.YtmbmflhcimkjpaaDrawT
import Derived.Test.YtmbmflhcimkjpaaMemPS
import Derived.Test.YtmbmflhcimkjpaaMemPP
import Derived.Test.YtmbmflhcimkjpaaMemR
import Derived.Test.YtmbmflhcimkjpaaRngW
import Derived.BigQuiet
import Derived.Test.YtmbmflhcimkjpaaKKVA
import Derived.Test.YtmbmflhcimkjpaaMapS
import Derived.Test.YtmbmflhcimkjpaaMemPI
import Derived.Test.YtmbmflhcimkjpaaMemG
import Derived.Deep.DeepCutAuto
import Derived.Deep.RegionHeld
/- Walks: the draws of a key and of entries. -/
set_option linter.unusedVariables false
set_option linter.unusedSimpArgs false
namespace Go.Proofs.Ytmbmflhcimkjpaa
open Go.RowKit Sp Go.Sort
theorem below_drew (W : World) : Below W.heap.size W W.drew := (Below.refl _ _).drew
theorem hal2 (W : World) (o : Obj) : RowKit.Below W.heap.size W (W.alloc o) := (Below.refl _ _).alloc (Nat.le_refl _) _
theorem grown_far {w W : World} {r : Option Nat} (h : w.grownBy W r) (p : Addr) (u : Value) (hp : w.heap.size ≤ p.block) : w.grownBy (W.setCell p u) r :=
  ⟨h.os, h.tape, h.output, by simp [World.setCell]; exact h.size, fun k hk hne => (Below.heap_setCell _ _ _ _ (by omega)).trans (h.block k hk hne)⟩
theorem memPut_60 (l : List EntR) (e : EntR) (h : putB l e = true) : ((memPut l e).length : Int) ≤ 60 := by
  simp only [putB, Bool.and_eq_true] at h
  rw [show memPut l e = putE l e from by simp [memPut, h.1, putB, h.2]]
  have := memB_len h.2
  omega
/-- One of a literal list of texts. -/
theorem pickLit (b : Nat) (w0 : World) (v : Value) (xs : List UInt8) (w : World) (h : Cu w b w0 v xs) (cs : Array Value) (l : List ByteArray) (n : Nat) (T : TypeId) (hl : (l.map strCells).flatten = cs.toList) (hc : cs.size = n * 1) (hn : n ≤ 1000) (h0 : 0 < l.length) (hl2 : l.length = n) :
    Calls Try.prog 120 #[.pointer (some ⟨b, 0, none⟩), .slice (some ⟨w.heap.size, 0, none⟩) n n] (w.alloc (.cells cs T)) fun e w' => ∃ x, x ∈ l ∧ e = .returned (.string x) ∧ Cu w' b w0 v xs ∧ w.grownBy w' (some b) := by
  have hb := h.lt
  refine (l1Pick_any b w0 v xs _ (h.below (hal2 w _)) _ l (lit_slT strCells cs l n w T hl (fun _ => rfl) hc hn) (fun a n c e _ => by simp only [Value.slice.injEq, Option.some.injEq] at e; rw [← e.1]; show w.heap.size ≠ b; omega) h0 (by omega)).mono ?_
  rintro e w' ⟨x, hx, rfl, hc, hg⟩
  exact ⟨x, hx, rfl, hc, grown2 (grown_below (World.grownBy.refl _ _) (hal2 w _)) hg⟩
theorem pickIntLit (b : Nat) (w0 : World) (v : Value) (xs : List UInt8) (w : World) (h : Cu w b w0 v xs) (cs : Array Value) (l : List Int) (n : Nat) (T : TypeId) (hl : (l.map intC).flatten = cs.toList) (hc : cs.size = n * 1) (hn : n ≤ 1000) (h0 : 0 < l.length) (hl2 : l.length = n) :
    Calls Try.prog 104 #[.pointer (some ⟨b, 0, none⟩), .slice (some ⟨w.heap.size, 0, none⟩) n n] (w.alloc (.cells cs T)) fun e w' => ∃ x, x ∈ l ∧ e = .returned (.int .i64 x) ∧ Cu w' b w0 v xs ∧ w.grownBy w' (some b) := by
  have hb := h.lt
  refine (l1PickInt_any b w0 v xs _ (h.below (hal2 w _)) _ l (lit_slT intC cs l n w T hl (fun _ => rfl) hc hn) (fun a n c e _ => by simp only [Value.slice.injEq, Option.some.injEq] at e; rw [← e.1]; show w.heap.size ≠ b; omega) h0 (by omega)).mono ?_
  rintro e w' ⟨x, hx, rfl, hc, hg⟩
  exact ⟨x, hx, rfl, hc, grown2 (grown_below (World.grownBy.refl _ _) (hal2 w _)) hg⟩

set_option maxRecDepth 100000 in
set_option maxHeartbeats 800000 in
theorem l7Key_any (b : Nat) (w0 : World) (v : Value) (xs : List UInt8) (w : World) (h : Cu w b w0 v xs) :
    Calls Try.prog 80 #[.pointer (some ⟨b, 0, none⟩)] w fun e w' => ∃ x : ByteArray, e = .returned (.string x) ∧ (x.size : Int) ≤ 3 ∧ Cu w' b w0 v xs ∧ w.grownBy w' (some b) := by
  go_enter Try.func80, Try.ntmps80
  go_wp2_with fail
  refine (pickLit b w0 v xs w h _ [⟨#[97]⟩, ⟨#[98]⟩, ⟨#[97, 98]⟩, ⟨#[97, 98, 99]⟩, ⟨#[98, 48]⟩, ⟨#[99]⟩, ⟨#[0]⟩, ⟨#[122, 122]⟩] 8 _ rfl rfl (by decide) (by decide) rfl).mono ?_
  rintro e w' ⟨x, hx, rfl, hc, hg⟩
  go_wp2
  go_ret
  refine ⟨x, rfl, ?_, hc, hg⟩
  simp only [List.mem_cons, List.not_mem_nil, or_false] at hx
  rcases hx with rfl | rfl | rfl | rfl | rfl | rfl | rfl | rfl <;> decide

set_option maxRecDepth 100000 in
set_option maxHeartbeats 1600000 in
theorem l9Some_any (b : Nat) (w0 : World) (v : Value) (xs : List UInt8) (most : Nat) (hm : (most : Int) ≤ 1000) (w : World) (h : Cu w b w0 v xs) :
    Calls Try.prog 161 #[.pointer (some ⟨b, 0, none⟩), .int .i64 most] w fun e w' => ∃ (ao : Option Addr) (cp : Nat) (l : List EntR), e = .returned (.slice ao l.length cp) ∧ w'.ownsRow w.heap.size 30 4 (.slice ao l.length cp) l.length (l.map EntR.cells).flatten ∧ (l.length : Int) ≤ 60 ∧ Cu w' b w0 v xs ∧ w.grownBy w' (some b) := by
  have hlt := h.lt
  have h0 : (w.alloc (.cells #[] 30)).ownsRow w.heap.size 30 4 (.slice (some ⟨w.heap.size, 0, none⟩) 0 0) 0 (([] : List EntR).map EntR.cells).flatten := World.ownsRow_lit w #[] 0 (Nat.le_refl _) (by simp [maxLen]) rfl
  have c0 := h.below (hal2 w (.cells #[] 30))
  have g0 := grown_below (World.grownBy.refl w (some b)) (hal2 w (.cells #[] 30))
  go_enter Try.func161, Try.ntmps161
  go_wp2_with fail
  refine (l1Below_any b w0 v xs most (by omega) _ c0).mono ?_
  rintro e w1 ⟨n0, rfl, hn0, hn1, c1, g1⟩
  have o1 := own_grown h0 g1 (fun k hk e => by have := (h0.lt _ hk).1; have := Option.some.inj e; omega)
  have q1 := grown2 g0 g1
  clear h0 c0 g0 g1
  go_wp2_with fail
  go_loopw [5, 6] (fun o n wr => ∃ (r : Nat) (ao : Option Addr) (cp : Nat) (l : List EntR), n = .int .i64 r ∧ (r : Int) ≤ 1000 ∧ o = .slice ao l.length cp ∧ wr.ownsRow w.heap.size 30 4 (.slice ao l.length cp) l.length (l.map EntR.cells).flatten ∧ (l.length : Int) ≤ 60 ∧ Cu wr b w0 v xs ∧ w.grownBy wr (some b)) (fun _ n _ => (intOf n).toNat)
  case atStart => exact ⟨n0, _, _, [], rfl, by omega, rfl, o1, by simp, c1, q1⟩
  case round =>
    clear o1 c1 q1
    obtain ⟨r, ao, cp, l, rfl, hr, rfl, ho, hl, c3, q3⟩ := hrel
    by_cases hr0 : 0 < r
    · have R1 : IntKind.i64.wrap ((r : Int) - 1) = ((r - 1 : Nat) : Int) := by rw [IntKind.wrap_i64]; omega
      go_wp2_with fail
      refine (l7Key_any b w0 v xs _ c3).mono ?_
      rintro e w4 ⟨ky, rfl, hky, c4, g4⟩
      have o4 := own_grown ho g4 (fun k hk e => by have := (ho.lt _ hk).1; have := Option.some.inj e; omega)
      have q4 := grown2 q3 g4
      clear c3 q3 ho g4
      go_wp2_with fail
      refine (l1Below_any b w0 v xs 20 (by decide) _ c4).mono ?_
      rintro e w5 ⟨sq, rfl, hsq, _, c5, g5⟩
      have o5 := own_grown o4 g5 (fun k hk e => by have := (o4.lt _ hk).1; have := Option.some.inj e; omega)
      have q5 := grown2 q4 g5
      clear c4 q4 o4 g5
      go_upto_region 6 with fail
      have B6 := Bx.new w5 #[.string ky, .int .i64 sq, .bool false, .string ⟨#[]⟩] 30
      have c6 := c5.below (hal2 w5 (.cells #[.string ky, .int .i64 sq, .bool false, .string ⟨#[]⟩] 30))
      have q6 := grown_below q5 (hal2 w5 (.cells #[.string ky, .int .i64 sq, .bool false, .string ⟨#[]⟩] 30))
      have o6 := o5.alloc (.cells #[.string ky, .int .i64 sq, .bool false, .string ⟨#[]⟩] 30)
      have z5 := q5.size
      have hne : ∀ k, (Value.slice ao l.length cp).ownBlock = some k → k ≠ w5.heap.size := fun k e => by have := (o5.lt k e).2; omega
      generalize w5.alloc (.cells #[.string ky, .int .i64 sq, .bool false, .string ⟨#[]⟩] 30) = W6 at *
      generalize w5.heap.size = g6 at *
      clear c5 o5 q5
      go_wp2_with fail
      refine (l1Once_any b w0 v xs 4 (by decide) _ c6).mono ?_
      rintro e w7 ⟨on, rfl, c7, g7⟩
      have o7 := own_grown o6 g7 (fun k hk e => by have := (o6.lt _ hk).1; have := Option.some.inj e; omega)
      have q7 := grown2 q6 g7
      have B7 := B6.grown g7 (by simp; omega)
      have h3 := c7.lo
      clear c6 o6 q6 B6 g7
      cases on
      · go_wp2_with fail
        refine (l1Text_any b w0 v xs 4 (by decide) _ c7).mono ?_
        rintro e w8 ⟨t, rfl, ht, c8, g8⟩
        have o8 := own_grown o7 g8 (fun k hk e => by have := (o7.lt _ hk).1; have := Option.some.inj e; omega)
        have q8 := grown2 q7 g8
        have B8 := B7.grown g8 (by simp; omega)
        have zf := B8.frozen
        have y3 := B8.cell 3 _ rfl
        have c8 := c8.far ⟨g6, 3, none⟩ (.string t) (by show b ≠ g6; omega) (by show w0.heap.size ≤ g6; omega)
        have o8 := own_far o8 ⟨g6, 3, none⟩ (.string t) (fun e => hne _ e rfl)
        have q8 := grown_far q8 ⟨g6, 3, none⟩ (.string t) (by show w.heap.size ≤ g6; omega)
        have B8 := B8.set 3 (.string t)
        clear c7 o7 q7 B7 g8
        go_upto_region 9 with fail
        clear y3 zf
        generalize w8.setCell ⟨g6, 3, none⟩ (.string t) = W8 at *
        have y0 := B8.cell 0 _ rfl
        have y1 := B8.cell 1 _ rfl
        have y2 := B8.cell 2 _ rfl
        have y3 := B8.cell 3 _ rfl
        go_wp2_with fail
        refine (specMemPut_row ao cp l ⟨ky, sq, false, t⟩ _ (SlT.of_own o8 (fun _ => rfl) (by decide)) (by omega)).mono ?_
        rintro e w9 ⟨v9, rfl, r9, b9⟩
        have o9 := own_below o8 b9
        have c9 := c8.below b9
        have q9 := grown_below q8 b9
        have z8 := q8.size
        have hlen := memPut_60 l ⟨ky, sq, false, t⟩
        clear y0 y1 y2 y3 B8 c8 o8 q8 b9
        rcases hp : putB l ⟨ky, sq, false, t⟩ with _ | _
        · go_wp2
          go_roundw
          case rel => exact ⟨r - 1, ao, cp, l, rfl, by omega, rfl, o9, hl, c9, q9⟩
          case measure => simp [intOf]; omega
        · have hlen := hlen hp
          obtain ⟨ao', cp', rfl⟩ := own_form r9
          have o9' := own_mono r9 z8
          generalize memPut l ⟨ky, sq, false, t⟩ = l' at *
          go_wp2
          go_roundw
          case rel => exact ⟨r - 1, ao', cp', l', rfl, by omega, rfl, o9', hlen, c9, q9⟩
          case measure => simp [intOf]; omega
      · have zf := B7.frozen
        have y2 := B7.cell 2 _ rfl
        have c8 := c7.far ⟨g6, 2, none⟩ (.bool true) (by show b ≠ g6; omega) (by show w0.heap.size ≤ g6; omega)
        have o8 := own_far o7 ⟨g6, 2, none⟩ (.bool true) (fun e => hne _ e rfl)
        have q8 := grown_far q7 ⟨g6, 2, none⟩ (.bool true) (by show w.heap.size ≤ g6; omega)
        have B8 := B7.set 2 (.bool true)
        clear c7 o7 q7 B7
        go_upto_region 9 with fail
        clear y2 zf
        generalize w7.setCell ⟨g6, 2, none⟩ (.bool true) = W8 at *
        have y0 := B8.cell 0 _ rfl
        have y1 := B8.cell 1 _ rfl
        have y2 := B8.cell 2 _ rfl
        have y3 := B8.cell 3 _ rfl
        go_wp2_with fail
        refine (specMemPut_row ao cp l ⟨ky, sq, true, ⟨#[]⟩⟩ _ (SlT.of_own o8 (fun _ => rfl) (by decide)) (by omega)).mono ?_
        rintro e w9 ⟨v9, rfl, r9, b9⟩
        have o9 := own_below o8 b9
        have c9 := c8.below b9
        have q9 := grown_below q8 b9
        have z8 := q8.size
        have hlen := memPut_60 l ⟨ky, sq, true, ⟨#[]⟩⟩
        clear y0 y1 y2 y3 B8 c8 o8 q8 b9
        rcases hp : putB l ⟨ky, sq, true, ⟨#[]⟩⟩ with _ | _
        · go_wp2
          go_roundw
          case rel => exact ⟨r - 1, ao, cp, l, rfl, by omega, rfl, o9, hl, c9, q9⟩
          case measure => simp [intOf]; omega
        · have hlen := hlen hp
          obtain ⟨ao', cp', rfl⟩ := own_form r9
          have o9' := own_mono r9 z8
          generalize memPut l ⟨ky, sq, true, ⟨#[]⟩⟩ = l' at *
          go_wp2
          go_roundw
          case rel => exact ⟨r - 1, ao', cp', l', rfl, by omega, rfl, o9', hlen, c9, q9⟩
          case measure => simp [intOf]; omega
    · obtain rfl : r = 0 := by omega
      go_wp2
      go_ret
      exact ⟨_, _, l, rfl, ho, hl, c3, q3⟩

theorem rec_set {α : Type} {enc : α → List Value} {size : Nat} (hs : ∀ x, (enc x).length = size) (l : List α) (k : Nat) (hk : k < l.length) (j : Nat) (hj : j < size) (u : Value) (e : α) (h : (enc l[k]).set j u = enc e) :
    (l.map enc).flatten.set (k * size + j) u = ((l.set k e).map enc).flatten := by
  rw [flat_set (l.map enc) (fun c hc => by obtain ⟨x, _, rfl⟩ := List.mem_map.1 hc; exact hs x) k (by simpa using hk) j hj u, List.map_set]
  congr 2
  simpa using h
/-- A cell of one element of a row of one's own is there, may be written, and the row is then the list with that element. -/
theorem own_put {α : Type} {enc : α → List Value} {size : Nat} (hs : ∀ x, (enc x).length = size) {W : World} {base T g cap : Nat} {l : List α} (h : W.ownsRow base T size (.slice (some ⟨g, 0, none⟩) l.length cap) l.length (l.map enc).flatten) (k : Nat) (hk : k < l.length) (j : Nat) (hj : j < size) (u : Value) (e : α) (he : (enc l[k]).set j u = enc e) :
    (∃ z, W.cell? ⟨g, k * size + j, none⟩ = some z ∧ (enc l[k])[j]? = some z) ∧ W.frozen? ⟨g, k * size + j, none⟩ = false ∧ (W.setCell ⟨g, k * size + j, none⟩ u).ownsRow base T size (.slice (some ⟨g, 0, none⟩) (l.set k e).length cap) (l.set k e).length ((l.set k e).map enc).flatten := by
  refine ⟨?_, h.frozenAt _, ?_⟩
  · have hl : j < (enc l[k]).length := by rw [hs]; exact hj
    refine ⟨(enc l[k])[j], ?_, List.getElem?_eq_getElem hl⟩
    have hb : k * size + j < l.length * size := by
      have := Nat.mul_le_mul_right size (Nat.succ_le_of_lt hk)
      rw [Nat.succ_mul] at this
      omega
    rw [h.cellAt _ hb]
    exact flat_at (l.map enc) (fun c hc => by obtain ⟨x, _, rfl⟩ := List.mem_map.1 hc; exact hs x) k (enc l[k]) (by simp [hk]) j _ (List.getElem?_eq_getElem hl)
  · have := (h.stored (k * size + j) u).1
    rw [rec_set hs l k hk j hj u e he] at this
    rw [List.length_set]
    exact this

set_option maxRecDepth 100000 in
set_option maxHeartbeats 1600000 in
theorem l9Any_any (b : Nat) (w0 : World) (v : Value) (xs : List UInt8) (most : Nat) (hm : (most : Int) ≤ 1000) (w : World) (h : Cu w b w0 v xs) :
    Calls Try.prog 114 #[.pointer (some ⟨b, 0, none⟩), .int .i64 most] w fun e w' => ∃ (ao : Option Addr) (cp : Nat) (l : List EntR), e = .returned (.slice ao l.length cp) ∧ w'.ownsRow w.heap.size 30 4 (.slice ao l.length cp) l.length (l.map EntR.cells).flatten ∧ (l.length : Int) ≤ 62 ∧ Cu w' b w0 v xs ∧ w.grownBy w' (some b) := by
  have hlt := h.lt
  go_enter Try.func114, Try.ntmps114
  go_wp2_with fail
  refine (l9Some_any b w0 v xs most hm _ h).mono ?_
  rintro e w1 ⟨ao, cp, l, rfl, o1, hl, c1, q1⟩
  by_cases hl0 : 0 < l.length
  · have hl0' : (0 : Int) < l.length := by omega
    obtain ⟨g, cp', hv⟩ := own_slD o1 hl0
    obtain ⟨rfl, rfl⟩ : ao = some ⟨g, 0, none⟩ ∧ cp = cp' := by simpa using hv
    have hg := (o1.lt g rfl).1
    have hbg : b ≠ g := by omega
    clear hv
    go_wp2_with fail
    refine (l1Once_any b w0 v xs 10 (by decide) _ c1).mono ?_
    rintro e w2 ⟨on, rfl, c2, g2⟩
    have o2 := own_grown o1 g2 (fun k hk e => by have := (o1.lt _ hk).1; have := Option.some.inj e; omega)
    have q2 := grown2 q1 g2
    clear o1 q1 c1 g2
    cases on
    · go_wp2
      go_ret
      exact ⟨_, _, l, rfl, o2, by omega, c2, q2⟩
    · go_wp2_with fail
      refine (l1Below_any b w0 v xs (l.length : Int) (by omega) _ c2).mono ?_
      rintro e w3 ⟨k, rfl, hk, _, c3, g3⟩
      have hk := hk (by omega)
      have hkl : k < l.length := by omega
      have o3 := own_grown o2 g3 (fun k hk e => by have := (o2.lt _ hk).1; have := Option.some.inj e; omega)
      have q3 := grown2 q2 g3
      clear o2 q2 c2 g3
      go_wp2_with fail
      refine (l1Below_any b w0 v xs 4 (by decide) _ c3).mono ?_
      rintro e w4 ⟨sw, rfl, hsw, _, c4, g4⟩
      have hsw := hsw (by decide)
      have o4 := own_grown o3 g4 (fun k hk e => by have := (o3.lt _ hk).1; have := Option.some.inj e; omega)
      have q4 := grown2 q3 g4
      have h3 := c4.lo
      clear o3 q3 c3 g4
      rcases (by omega : sw = 0 ∨ sw = 1 ∨ sw = 2 ∨ sw = 3) with rfl | rfl | rfl | rfl
      · go_wp2_with fail
        refine (pickLit b w0 v xs _ c4 _ [⟨#[]⟩, ⟨#[98]⟩, ⟨#[97, 97, 97, 97, 97, 97, 97, 97, 97, 97, 97]⟩] 3 _ rfl rfl (by decide) (by decide) rfl).mono ?_
        rintro e w5 ⟨t, ht, rfl, c5, g5⟩
        have o5 := own_grown o4 g5 (fun k hk e => by have := (o4.lt _ hk).1; have := Option.some.inj e; omega)
        have q5 := grown2 q4 g5
        obtain ⟨⟨z, p1, _⟩, p2, p3⟩ := own_put (enc := EntR.cells) (size := 4) (fun _ => rfl) o5 k hkl 0 (by decide) (.string t) ⟨t, l[k].seq, l[k].del, l[k].val⟩ rfl
        clear o4 q4 c4 g5 o5
        rw [Nat.add_zero] at p1 p2 p3
        have hn : (l.set k ⟨t, l[k].seq, l[k].del, l[k].val⟩).length = l.length := by simp
        rw [hn] at p3
        go_wp2
        go_ret
        refine ⟨_, _, l.set k ⟨t, l[k].seq, l[k].del, l[k].val⟩, by rw [hn]; rfl, ?_, by rw [hn]; omega, c5.far _ _ hbg (by show w0.heap.size ≤ g; omega), grown_far q5 _ _ hg⟩
        rw [hn]; exact p3
      · go_wp2_with fail
        refine (pickIntLit b w0 v xs _ c4 _ [-1, 5, 1000000, 1000001] 4 _ rfl rfl (by decide) (by decide) rfl).mono ?_
        rintro e w5 ⟨t, ht, rfl, c5, g5⟩
        have o5 := own_grown o4 g5 (fun k hk e => by have := (o4.lt _ hk).1; have := Option.some.inj e; omega)
        have q5 := grown2 q4 g5
        obtain ⟨⟨z, p1, _⟩, p2, p3⟩ := own_put (enc := EntR.cells) (size := 4) (fun _ => rfl) o5 k hkl 1 (by decide) (.int .i64 t) ⟨l[k].key, t, l[k].del, l[k].val⟩ rfl
        clear o4 q4 c4 g5 o5
        have hn : (l.set k ⟨l[k].key, t, l[k].del, l[k].val⟩).length = l.length := by simp
        rw [hn] at p3
        go_wp2
        go_ret
        refine ⟨_, _, l.set k ⟨l[k].key, t, l[k].del, l[k].val⟩, by rw [hn]; rfl, ?_, by rw [hn]; omega, c5.far _ _ hbg (by show w0.heap.size ≤ g; omega), grown_far q5 _ _ hg⟩
        rw [hn]; exact p3
      · obtain ⟨⟨z, p1, hz⟩, p2, p3⟩ := own_put (enc := EntR.cells) (size := 4) (fun _ => rfl) o4 k hkl 2 (by decide) (.bool (!l[k].del)) ⟨l[k].key, l[k].seq, !l[k].del, l[k].val⟩ rfl
        obtain rfl : z = .bool l[k].del := (Option.some.inj hz).symm
        have hn : (l.set k ⟨l[k].key, l[k].seq, !l[k].del, l[k].val⟩).length = l.length := by simp
        rw [hn] at p3
        go_wp2
        go_ret
        refine ⟨_, _, l.set k ⟨l[k].key, l[k].seq, !l[k].del, l[k].val⟩, by rw [hn]; rfl, ?_, by rw [hn]; omega, c4.far _ _ hbg (by show w0.heap.size ≤ g; omega), grown_far q4 _ _ hg⟩
        rw [hn]; exact p3
      · go_wp2_with fail
        go_loopw [5, 7] (fun o i wr => ∃ (q : Nat) (ao : Option Addr) (cp : Nat) (l : List EntR), i = .int .i64 q ∧ (q : Int) ≤ l.length ∧ o = .slice ao l.length cp ∧ wr.ownsRow w.heap.size 30 4 (.slice ao l.length cp) l.length (l.map EntR.cells).flatten ∧ (l.length : Int) ≤ 62 ∧ Cu wr b w0 v xs ∧ w.grownBy wr (some b)) (fun o _ _ => 70 - (match o with | .slice _ n _ => n | _ => 0))
        case atStart => exact ⟨0, _, _, l, rfl, by omega, rfl, o4, by omega, c4, q4⟩
        case round =>
          clear o4 c4 q4 hl hl0 hl0' hk hkl hg hbg
          obtain ⟨q, ao, cp, l', rfl, hq, rfl, ho, hl, c5, q5⟩ := hrel
          go_wp2_with fail
          refine (l1Below_any b w0 v xs 3 (by decide) _ c5).mono ?_
          rintro e w6 ⟨n6, rfl, hn6, _, c6, g6⟩
          have hn6 := hn6 (by decide)
          have o6 := own_grown ho g6 (fun k hk e => by have := (ho.lt _ hk).1; have := Option.some.inj e; omega)
          have q6 := grown2 q5 g6
          have N6 : IntKind.i64.wrap (59 + (n6 : Int)) = ((59 + n6 : Nat) : Int) := by rw [IntKind.wrap_i64]; omega
          have N7 : IntKind.i64.wrap (500 - (q : Int)) = 500 - (q : Int) := by rw [IntKind.wrap_i64]; omega
          have N8 : IntKind.i64.wrap ((q : Int) + 1) = ((q + 1 : Nat) : Int) := by rw [IntKind.wrap_i64]; omega
          clear ho q5 c5 g6
          by_cases hk : (l'.length : Int) < ((59 + n6 : Nat) : Int)
          · go_wp2_with (at_builtin; go_loud (refine app_new rfl rfl Try.underlying33 info_Ent rfl (by decide) o6 rfl 1 (by simp [Act.eval]) rfl (by simp [Value.oneCell']) (by omega) (Below.refl w.heap.size w6) (Nat.le_refl _) q6.size ?_; intro v8 w8 r8 x8 g8))
            have c8 := c6.grown g8 (fun e => by have := (o6.lt _ e).1; omega) (fun k e => by have := (o6.lt _ e).1; omega)
            have q8 := grown_own q6 g8 (fun k e => (o6.lt _ e).1)
            obtain ⟨gg, cap, rfl⟩ := own_slD r8 (by omega)
            go_roundw
            case rel => exact ⟨q + 1, some ⟨gg, 0, none⟩, cap, l' ++ [⟨⟨#[122, 122, 122]⟩, 500 - (q : Int), false, ⟨#[]⟩⟩], rfl, by simp; omega, by simp, by simpa [EntR.cells] using r8, by simp; omega, c8, q8⟩
            case measure => simp; omega
          · go_wp2
            go_ret
            exact ⟨_, _, l', rfl, o6, hl, c6, q6⟩
  · have hl0' : ¬ (0 : Int) < l.length := by omega
    go_wp2
    go_ret
    exact ⟨_, _, l, rfl, o1, by omega, c1, q1⟩
end Go.Proofs.Ytmbmflhcimkjpaa
/- Walks: DrawMemPut, DrawMemRange. -/
set_option linter.unusedVariables false
set_option linter.unusedSimpArgs false
namespace Go.Proofs.Ytmbmflhcimkjpaa
open Go.RowKit Sp Go.Sort

set_option maxRecDepth 100000 in
set_option maxHeartbeats 1600000 in
theorem drawMemRange_any (v : Value) (xs : List UInt8) (w : World) (h : SlT bytC 1 w v xs) (hs : (xs.length : Int) ≤ 1048576) :
    Calls Try.prog 41 #[v] w fun e w' => ∃ (ao : Option Addr) (cp : Nat) (l : List EntR) (x y : ByteArray) (n : Int), e = .returned (.tuple #[.slice ao l.length cp, .string x, .string y, .int .i64 n]) ∧ SlT EntR.cells 4 w' (.slice ao l.length cp) l ∧ (l.length : Int) ≤ 62 ∧ Below w.heap.size w w' := by
  go_enter Try.func41, Try.ntmps41
  go_wp2_with fail
  refine (l1New_any v xs _ h hs).mono ?_
  rintro e w1 ⟨b, rfl, c1, b1⟩
  have z1 := b1.size
  go_wp2_with fail
  refine (l9Any_any b w v xs 14 (by decide) _ c1).mono ?_
  rintro e w2 ⟨ao, cp, l, rfl, o2, hl, c2, q2⟩
  have hb1 := c1.lt
  clear c1 b1
  go_wp2_with fail
  refine (l7Key_any b w v xs _ c2).mono ?_
  rintro e w3 ⟨x, rfl, hx, c3, g3⟩
  have o3 := own_grown o2 g3 (fun k hk e => by have := (o2.lt _ hk).1; have := Option.some.inj e; omega)
  clear o2 c2 g3
  go_wp2_with fail
  refine (pickLit b w v xs _ c3 _ [⟨#[]⟩, ⟨#[98]⟩, ⟨#[99]⟩, ⟨#[97, 98, 99]⟩, ⟨#[97]⟩] 5 _ rfl rfl (by decide) (by decide) rfl).mono ?_
  rintro e w4 ⟨y, hy, rfl, c4, g4⟩
  have o4 := own_grown o3 g4 (fun k hk e => by have := (o3.lt _ hk).1; have := Option.some.inj e; omega)
  clear o3 c3 g4
  go_wp2_with fail
  refine (l1Below_any b w v xs 22 (by decide) _ c4).mono ?_
  rintro e w5 ⟨n, rfl, _, _, c5, g5⟩
  have o5 := own_grown o4 g5 (fun k hk e => by have := (o4.lt _ hk).1; have := Option.some.inj e; omega)
  go_wp2
  refine bodyPost_ret (v := .tuple #[.slice ao l.length cp, .string x, .string y, .int .i64 n]) (by simp [results, Try.results41, go_sem]) rfl ⟨ao, cp, l, x, y, n, rfl, SlT.of_own o5 (fun _ => rfl) (by decide), hl, c5.bel⟩

set_option maxRecDepth 100000 in
set_option maxHeartbeats 1600000 in
theorem drawMemPut_any (v : Value) (xs : List UInt8) (w : World) (h : SlT bytC 1 w v xs) (hs : (xs.length : Int) ≤ 1048576) :
    Calls Try.prog 35 #[v] w fun e w' => ∃ (ao : Option Addr) (cp : Nat) (l : List EntR) (x : EntR), e = .returned (.tuple #[.slice ao l.length cp, .agg #[.string x.key, .int .i64 x.seq, .bool x.del, .string x.val]]) ∧ SlT EntR.cells 4 w' (.slice ao l.length cp) l ∧ (l.length : Int) ≤ 62 ∧ Below w.heap.size w w' := by
  have hA := hal2 w (.cells #[.string ⟨#[]⟩, .int .i64 0, .bool false, .string ⟨#[]⟩] 30)
  have B0 := Bx.new w #[.string ⟨#[]⟩, .int .i64 0, .bool false, .string ⟨#[]⟩] 30
  have h' := h.below hA
  have zA : (w.alloc (.cells #[.string ⟨#[]⟩, .int .i64 0, .bool false, .string ⟨#[]⟩] 30)).heap.size = w.heap.size + 1 := by simp
  go_enter Try.func35, Try.ntmps35
  go_upto_region 1 with fail
  generalize w.alloc (.cells #[.string ⟨#[]⟩, .int .i64 0, .bool false, .string ⟨#[]⟩] 30) = wA at *
  go_wp2_with fail
  refine (l1New_any v xs _ h' hs).mono ?_
  rintro e w1 ⟨b, rfl, c1, b1⟩
  have x1 : RowKit.Below w.heap.size w w1 := hA.trans (b1.mono hA.size)
  have z1 := b1.size
  have hb1 := c1.lt
  have hlo := c1.lo
  have B1 := B0.below b1
  clear B0 b1
  go_wp2_with fail
  refine (l9Any_any b wA v xs 14 (by decide) _ c1).mono ?_
  rintro e w2 ⟨ao, cp, l, rfl, o2, hl, c2, g2⟩
  have B2 := B1.grown g2 (by simp; omega)
  have x2 : RowKit.Below w.heap.size w w2 := x1.grown g2 x1.size (fun k e => by have := Option.some.inj e; omega)
  clear c1 B1 x1 g2
  go_wp2_with fail
  refine (l7Key_any b wA v xs _ c2).mono ?_
  rintro e w3 ⟨x, rfl, hx, c3, g3⟩
  have o3 := own_grown o2 g3 (fun k hk e => by have := (o2.lt _ hk).1; have := Option.some.inj e; omega)
  have B3 := B2.grown g3 (by simp; omega)
  have x3 : RowKit.Below w.heap.size w w3 := x2.grown g3 x2.size (fun k e => by have := Option.some.inj e; omega)
  clear c2 B2 x2 g3 o2
  go_wp2_with fail
  refine (l1Below_any b wA v xs 20 (by decide) _ c3).mono ?_
  rintro e w4 ⟨sq, rfl, _, _, c4, g4⟩
  have o4 := own_grown o3 g4 (fun k hk e => by have := (o3.lt _ hk).1; have := Option.some.inj e; omega)
  have B4 := B3.grown g4 (by simp; omega)
  have x4 : RowKit.Below w.heap.size w w4 := x3.grown g4 x3.size (fun k e => by have := Option.some.inj e; omega)
  clear c3 B3 x3 g4 o3
  go_wp2_with fail
  refine (l1Text_any b wA v xs 3 (by decide) _ c4).mono ?_
  rintro e w5 ⟨t, rfl, ht, c5, g5⟩
  have o5 := own_grown o4 g5 (fun k hk e => by have := (o4.lt _ hk).1; have := Option.some.inj e; omega)
  have B5 := B4.grown g5 (by simp; omega)
  have x5 : RowKit.Below w.heap.size w w5 := x4.grown g5 x4.size (fun k e => by have := Option.some.inj e; omega)
  have ol5 := fun k e => (o5.lt k e).2
  have ol5' := fun k e => (o5.lt k e).1
  clear c4 B4 x4 g5 o4
  go_upto_region 4 with fail
  have o6 := own_below o5 (hal2 w5 (.cells #[.string x, .int .i64 sq, .bool false, .string t] 30))
  have c6 := c5.below (hal2 w5 (.cells #[.string x, .int .i64 sq, .bool false, .string t] 30))
  have B6 := B5.below (hal2 w5 (.cells #[.string x, .int .i64 sq, .bool false, .string t] 30))
  have x6 := x5.alloc x5.size (.cells #[.string x, .int .i64 sq, .bool false, .string t] 30)
  have E6 := Bx.new w5 #[.string x, .int .i64 sq, .bool false, .string t] 30
  have hb5 := c5.lt
  have zB := B5.lt
  generalize w5.alloc (.cells #[.string x, .int .i64 sq, .bool false, .string t] 30) = W6 at *
  generalize w5.heap.size = q at *
  clear o5 c5 B5 x5
  go_wp2_with fail
  refine (l1Once_any b wA v xs 4 (by decide) _ c6).mono ?_
  rintro e w7 ⟨on, rfl, c7, g7⟩
  have o7 := own_grown o6 g7 (fun k hk e => by have := ol5' _ hk; have := Option.some.inj e; omega)
  have B7 := B6.grown g7 (by simp; omega)
  have E7 := E6.grown g7 (by simp; omega)
  have x7 : RowKit.Below w.heap.size w w7 := x6.grown g7 x6.size (fun k e => by have := Option.some.inj e; omega)
  clear o6 c6 B6 x6 g7 E6
  obtain ⟨dl, W8, hW8, o8, B8, E8, x8⟩ : ∃ (dl : Bool) (W8 : World), W8 = (if on then w7.setCell ⟨q, 2, none⟩ (.bool true) else w7) ∧ W8.ownsRow w1.heap.size 30 4 (.slice ao l.length cp) l.length (l.map EntR.cells).flatten ∧ Bx W8 w.heap.size #[.string ⟨#[]⟩, .int .i64 0, .bool false, .string ⟨#[]⟩] ∧ Bx W8 q #[.string x, .int .i64 sq, .bool dl, .string t] ∧ Below w.heap.size w W8 := by
    cases on
    · exact ⟨false, _, rfl, o7, B7, E7, x7⟩
    · exact ⟨true, _, rfl, own_far o7 _ _ (fun e => by have := ol5 _ e; simp at this), B7.far _ _ (by show w.heap.size ≠ q; omega), E7.set 2 _, below_set x7 _ _ (by show w.heap.size ≤ q; omega)⟩
  have qf := E7.frozen
  have q2 := E7.cell 2 _ rfl
  have fin : ∀ Wf : World, Wf = (((W8.setCell ⟨w.heap.size, 0, none⟩ (.string x)).setCell ⟨w.heap.size, 1, none⟩ (.int .i64 sq)).setCell ⟨w.heap.size, 2, none⟩ (.bool dl)).setCell ⟨w.heap.size, 3, none⟩ (.string t) → SlT EntR.cells 4 Wf (.slice ao l.length cp) l ∧ Below w.heap.size w Wf := by
    rintro Wf rfl
    have hn : (Value.slice ao l.length cp).ownBlock ≠ some w.heap.size := fun e => by have := ol5' _ e; omega
    exact ⟨SlT.of_own (own_far (own_far (own_far (own_far o8 _ _ hn) _ _ hn) _ _ hn) _ _ hn) (fun _ => rfl) (by decide), below_set (below_set (below_set (below_set x8 _ _ (Nat.le_refl _)) _ _ (Nat.le_refl _)) _ _ (Nat.le_refl _)) _ _ (Nat.le_refl _)⟩
  have rf := B8.frozen
  have ra := B8.cell 0 _ rfl
  have rb := B8.cell 1 _ rfl
  have rc := B8.cell 2 _ rfl
  have rd := B8.cell 3 _ rfl
  have ea := E8.cell 0 _ rfl
  have eb := E8.cell 1 _ rfl
  have ec := E8.cell 2 _ rfl
  have ed := E8.cell 3 _ rfl
  cases on
  · simp only [Bool.false_eq_true, if_false] at hW8
    subst hW8
    clear c7 o7 B7 E7 x7 qf q2
    go_upto_region 6 with fail
    go_region
    go_wp2
    refine bodyPost_ret (v := .tuple #[.slice ao l.length cp, .agg #[.string x, .int .i64 sq, .bool dl, .string t]]) (by simp [results, Try.results35, go_sem, ra, rb, rc, rd]) rfl ?_
    obtain ⟨p1, p2⟩ := fin _ rfl
    exact ⟨ao, cp, l, ⟨x, sq, dl, t⟩, rfl, p1, hl, p2.drew⟩
  · simp only [if_true] at hW8
    go_upto_region 6 with fail
    rw [← hW8]
    clear hW8 c7 o7 B7 E7 x7 qf q2
    go_region
    go_wp2
    refine bodyPost_ret (v := .tuple #[.slice ao l.length cp, .agg #[.string x, .int .i64 sq, .bool dl, .string t]]) (by simp [results, Try.results35, go_sem, ra, rb, rc, rd]) rfl ?_
    obtain ⟨p1, p2⟩ := fin _ rfl
    exact ⟨ao, cp, l, ⟨x, sq, dl, t⟩, rfl, p1, hl, p2.drew⟩
end Go.Proofs.Ytmbmflhcimkjpaa
/- Plain: what entries tell behind a put; the map that is visible is right; its part within bounds. No program in sight. -/
set_option linter.unusedVariables false
set_option linter.unusedSimpArgs false
namespace Go.Proofs.Ytmbmflhcimkjpaa
open Sp
namespace Sp
theorem get_self {x : List EntR} (h : memB x = true) (i : Nat) (hi : i < x.length) : memGetE x x[i].key x[i].seq = (x[i], true) := by
  unfold memGetE
  rw [if_pos h]
  rcases getE_cases x[i].key x[i].seq x with ⟨j, hj, h1, h2, h3, h4⟩ | ⟨h1, _⟩
  · rcases Nat.lt_trichotomy j i with hlt | rfl | hgt
    · have := ents_seq h hlt hi h1
      omega
    · exact h4
    · exact absurd ⟨rfl, by omega⟩ (h3 i hgt)
  · exact absurd ⟨rfl, by omega⟩ (h1 i hi)
theorem put_ok {l : List EntR} {e : EntR} (h : putB l e = true) : memPut l e = putE l e ∧ memB (putE l e) = true := by
  simp only [putB, Bool.and_eq_true] at h
  exact ⟨by simp [memPut, h.1, putB, h.2], h.2⟩
theorem put_len {l : List EntR} {e : EntR} (h : putB l e = true) : (memPut l e).length = l.length + 1 := by
  rw [(put_ok h).1, putE_length]
theorem put_get {l : List EntR} {e : EntR} (h : putB l e = true) : memGetE (memPut l e) e.key e.seq = (e, true) := by
  obtain ⟨h1, h2⟩ := put_ok h
  rw [h1]
  have hp := posE_le l e
  have hl := putE_length l e
  have hk : posE l e < (putE l e).length := by omega
  have he : (putE l e)[posE l e] = e := insAt_at l (posE l e) e hp hk
  have := get_self h2 (posE l e) hk
  rwa [he] at this
theorem put_get_old {l : List EntR} {e : EntR} (h : putB l e = true) (i : Nat) (hi : i < l.length) : memGetE (memPut l e) l[i].key l[i].seq = (l[i], true) := by
  obtain ⟨h1, h2⟩ := put_ok h
  rw [h1]
  have hp := posE_le l e
  have hl := putE_length l e
  by_cases hlt : i < posE l e
  · have hk : i < (putE l e).length := by omega
    have he : (putE l e)[i] = l[i] := insAt_lo l (posE l e) e hp i hlt hk
    have := get_self h2 i hk
    rwa [he] at this
  · have hk : i + 1 < (putE l e).length := by omega
    have he : (putE l e)[i + 1] = l[i] := insAt_hi l (posE l e) e hp i (by omega) hk hi
    have := get_self h2 (i + 1) hk
    rwa [he] at this
theorem put_same {l : List EntR} {e : EntR} (h : putB l e = false) (hm : memB l = true) : memPut l e = l := by simp [memPut, hm, h]
theorem mapB_snoc {m : List KV} {x : KV} (h : mapB m = true) (hx : kvB x = true) (hl : ∀ y, m.getLast? = some y → less y.key x.key = true) : mapB (m ++ [x]) = true := by
  refine mapB_true fun i hi => ?_
  rw [List.length_append, List.length_singleton] at hi
  have hs := allIx_spec h
  by_cases hlt : i < m.length
  · have := hs i hlt
    cases i with
    | zero =>
      rw [kvAt_zero (by omega)] at this
      rw [kvAt_zero (by simp)]
      simpa [hlt] using this
    | succ j =>
      rw [kvAt_succ hlt] at this
      rw [kvAt_succ (by simp; omega)]
      have hj : j < m.length := by omega
      simpa [hlt, hj] using this
  · obtain rfl : i = m.length := by omega
    cases hm : m.length with
    | zero =>
      have : m = [] := List.eq_nil_of_length_eq_zero hm
      subst this
      rw [kvAt_zero (by simp)]
      simpa using hx
    | succ j =>
      rw [kvAt_succ (by simp; omega)]
      have hj : j < m.length := by omega
      have hlast : m.getLast? = some m[j] := by rw [List.getLast?_eq_getElem?, hm]; simp [hj]
      have := hl _ hlast
      have e1 : (m ++ [x])[j + 1]'(by simp; omega) = x := by
        have : j + 1 = m.length := hm.symm
        simp [this]
      have e2 : (m ++ [x])[j]'(by simp; omega) = m[j] := by simp [hj]
      rw [e1, e2, hx, this]; rfl
theorem mapTo_ok {l : List EntR} (hm : memB l = true) (seq : Int) : ∀ k, k ≤ l.length → mapB (mapTo l seq k) = true ∧ ∀ y ∈ mapTo l seq k, ∃ (j : Nat) (hj : j < k) (hl : j < l.length), y.key = l[j].key ∧ l[j].seq ≤ seq
  | 0, _ => ⟨rfl, fun y hy => by simp [mapTo] at hy⟩
  | k + 1, hk => by
    have hkl : k < l.length := by omega
    obtain ⟨h1, h2⟩ := mapTo_ok hm seq k (by omega)
    rcases hv : (visB l seq k l[k] && !l[k].del) with _ | _
    · rw [mapTo_miss hkl hv]
      exact ⟨h1, fun y hy => by obtain ⟨j, hj, hl, h⟩ := h2 y hy; exact ⟨j, by omega, hl, h⟩⟩
    · rw [mapTo_hit hkl hv]
      have hvis : visB l seq k l[k] = true := by simp only [Bool.and_eq_true] at hv; exact hv.1
      have hseq : l[k].seq ≤ seq := by simp only [visB, Bool.and_eq_true, decide_eq_true_eq] at hvis; exact hvis.1
      have hno : ∀ j (hj : j < k), ¬ ((l[j]'(by omega)).key.toList = l[k].key.toList ∧ (l[j]'(by omega)).seq ≤ seq) := by
        intro j hj hc
        have : ((l.take k).any fun x => x.key.toList == l[k].key.toList && decide (x.seq ≤ seq)) = true := (any_take (by omega)).2 ⟨j, by omega, hj, by simp only [Bool.and_eq_true, beq_iff_eq, decide_eq_true_eq]; exact hc⟩
        simp [visB, this] at hvis
      have hent : entB l[k] = true := by
        have := memB_ents hm k hkl
        by_cases h0 : k = 0
        · rwa [entAt_first hkl h0] at this
        · rw [entAt_next hkl h0 (by omega), Bool.and_eq_true] at this
          exact this.1
      have hkv : kvB ⟨l[k].key, l[k].val⟩ = true := by
        simp only [entB, opB, Bool.and_eq_true] at hent
        simp only [kvB, Bool.and_eq_true]
        exact hent.1.1
      refine ⟨mapB_snoc h1 hkv fun y hy => ?_, fun y hy => ?_⟩
      · obtain ⟨j, hj, hl, hyk, hys⟩ := h2 y (List.mem_of_getLast? hy)
        rw [hyk]
        have ha := ents_mono hm hj hkl
        unfold aheadB at ha
        simp only [Bool.or_eq_true, Bool.and_eq_true, beq_iff_eq] at ha
        rcases ha with ha | ⟨ha, _⟩
        · exact ha
        · exact absurd ⟨ha, hys⟩ (hno j hj)
      · rcases List.mem_append.1 hy with hy | hy
        · obtain ⟨j, hj, hl, h⟩ := h2 y hy; exact ⟨j, by omega, hl, h⟩
        · obtain rfl := List.mem_singleton.1 hy
          exact ⟨k, by omega, hkl, rfl, hseq⟩
theorem memMap_mapB (l : List EntR) (seq : Int) : mapB (memMap l seq) = true := by
  rcases hm : memB l with _ | _
  · rw [memMap_not seq hm]; rfl
  · rw [memMap_ok seq hm]; exact (mapTo_ok hm seq l.length (Nat.le_refl _)).1
/-- The next one within the bounds stands next in what the range tells. -/
theorem betw_at {m : List KV} {a b : ByteArray} {k : Nat} (hk : k < m.length) (h : withinB m[k].key a b = true) : ∃ hn : (betw (m.take k) a b).length < (betw m a b).length, (betw m a b)[(betw (m.take k) a b).length] = m[k] := by
  have e : betw m a b = betw (m.take k) a b ++ m[k] :: betw (m.drop (k + 1)) a b := by
    conv => lhs; rw [← List.take_append_drop k m]
    unfold betw
    rw [List.filter_append, List.drop_eq_getElem_cons hk, List.filter_cons, if_pos h]
  refine ⟨by rw [e]; simp, ?_⟩
  simp [e]
end Sp
end Go.Proofs.Ytmbmflhcimkjpaa
/- Walk: the laws' test of a code that is too long. -/
set_option linter.unusedVariables false
set_option linter.unusedSimpArgs false
namespace Go.Proofs.Ytmbmflhcimkjpaa
open Go.RowKit Sp Go.Sort
set_option maxRecDepth 100000 in
theorem big_any (v : Value) (xs : List UInt8) (w : World) (h : SlT bytC 1 w v xs) :
    Calls Try.prog 10 #[v] w fun e w' => e = .returned (.bool (decide (1048576 < (xs.length : Int)))) ∧ w = w' := by
  obtain ⟨ao, cap, rfl, hlc, hcm, hsh⟩ := h.shape
  go_enter Try.func10, Try.ntmps10
  go_wp2
  go_ret
  exact ⟨rfl, rfl⟩
end Go.Proofs.Ytmbmflhcimkjpaa
/- Walks: sameEnts at equal lists. -/
set_option linter.unusedVariables false
set_option linter.unusedSimpArgs false
namespace Go.Proofs.Ytmbmflhcimkjpaa
open Go.RowKit Sp Go.Sort

set_option maxRecDepth 100000 in
set_option maxHeartbeats 1600000 in
theorem sameEnts_eq (u v : Value) (l : List EntR) (w : World) (hu : SlT EntR.cells 4 w u l) (hv : SlT EntR.cells 4 w v l) (hl : (l.length : Int) ≤ 1048576) :
    Calls Try.prog 39 #[u, v] w fun e w' => e = .returned (.bool true) ∧ Below w.heap.size w w' := by
  obtain ⟨ao, cap, rfl, hlc, hcm, hsh⟩ := hu.shape
  obtain ⟨bo, cbp, rfl, hlc1, hcm1, hsh1⟩ := hv.shape
  go_enter Try.func39, Try.ntmps39
  go_wp2
  go_loopw [5] (fun i wr => ∃ k : Nat, i = .int .i64 k ∧ k ≤ l.length ∧ Below w.heap.size w wr) (fun i _ => l.length - (intOf i).toNat)
  case atStart => exact ⟨0, rfl, Nat.zero_le _, Below.refl _ _⟩
  case round =>
    obtain ⟨k, rfl, hk, xr⟩ := hrel
    by_cases hlt : k < l.length
    · obtain ⟨b, off, rfl, hb, hc⟩ := hsh (by omega)
      obtain ⟨b', off', rfl, hb', hc'⟩ := hsh1 (by omega)
      have k0 : wr.cell? ⟨b, off + k * 4, none⟩ = some (.string l[k].key) := (xr.cell (p := ⟨b, off + k * 4, none⟩) hb).trans (hc k hlt 0 _ rfl)
      have k1 : wr.cell? ⟨b, off + k * 4 + 1, none⟩ = some (.int .i64 l[k].seq) := (xr.cell (p := ⟨b, off + k * 4 + 1, none⟩) hb).trans (hc k hlt 1 _ rfl)
      have k2 : wr.cell? ⟨b, off + k * 4 + 2, none⟩ = some (.bool l[k].del) := (xr.cell (p := ⟨b, off + k * 4 + 2, none⟩) hb).trans (hc k hlt 2 _ rfl)
      have k3 : wr.cell? ⟨b, off + k * 4 + 3, none⟩ = some (.string l[k].val) := (xr.cell (p := ⟨b, off + k * 4 + 3, none⟩) hb).trans (hc k hlt 3 _ rfl)
      have m0 : wr.cell? ⟨b', off' + k * 4, none⟩ = some (.string l[k].key) := (xr.cell (p := ⟨b', off' + k * 4, none⟩) hb').trans (hc' k hlt 0 _ rfl)
      have m1 : wr.cell? ⟨b', off' + k * 4 + 1, none⟩ = some (.int .i64 l[k].seq) := (xr.cell (p := ⟨b', off' + k * 4 + 1, none⟩) hb').trans (hc' k hlt 1 _ rfl)
      have m2 : wr.cell? ⟨b', off' + k * 4 + 2, none⟩ = some (.bool l[k].del) := (xr.cell (p := ⟨b', off' + k * 4 + 2, none⟩) hb').trans (hc' k hlt 2 _ rfl)
      have m3 : wr.cell? ⟨b', off' + k * 4 + 3, none⟩ = some (.string l[k].val) := (xr.cell (p := ⟨b', off' + k * 4 + 3, none⟩) hb').trans (hc' k hlt 3 _ rfl)
      clear hc hc' hsh hsh1
      generalize l[k].key = f0 at *
      generalize l[k].seq = f1 at *
      generalize l[k].del = f2 at *
      generalize l[k].val = f3 at *
      go_wp2_with fail
      go_quiet (fail)
      go_wp2
      go_roundw
      case rel => exact ⟨k + 1, by go_num, hlt, below_drewN xr _⟩
      case measure => simp [intOf]; omega
    · go_wp2
      go_ret
      exact ⟨rfl, xr⟩
end Go.Proofs.Ytmbmflhcimkjpaa
/- Walks: sameMap at equal lists. -/
set_option linter.unusedVariables false
set_option linter.unusedSimpArgs false
namespace Go.Proofs.Ytmbmflhcimkjpaa
open Go.RowKit Sp Go.Sort

set_option maxRecDepth 100000 in
set_option maxHeartbeats 1600000 in
theorem sameMap_eq (u v : Value) (l : List KV) (w : World) (hu : SlT KV.cells 2 w u l) (hv : SlT KV.cells 2 w v l) (hl : (l.length : Int) ≤ 1048576) :
    Calls Try.prog 44 #[u, v] w fun e w' => e = .returned (.bool true) ∧ Below w.heap.size w w' := by
  obtain ⟨ao, cap, rfl, hlc, hcm, hsh⟩ := hu.shape
  obtain ⟨bo, cbp, rfl, hlc1, hcm1, hsh1⟩ := hv.shape
  go_enter Try.func44, Try.ntmps44
  go_wp2
  go_loopw [5] (fun i wr => ∃ k : Nat, i = .int .i64 k ∧ k ≤ l.length ∧ Below w.heap.size w wr) (fun i _ => l.length - (intOf i).toNat)
  case atStart => exact ⟨0, rfl, Nat.zero_le _, Below.refl _ _⟩
  case round =>
    obtain ⟨k, rfl, hk, xr⟩ := hrel
    by_cases hlt : k < l.length
    · obtain ⟨b, off, rfl, hb, hc⟩ := hsh (by omega)
      obtain ⟨b', off', rfl, hb', hc'⟩ := hsh1 (by omega)
      have k0 : wr.cell? ⟨b, off + k * 2, none⟩ = some (.string l[k].key) := (xr.cell (p := ⟨b, off + k * 2, none⟩) hb).trans (hc k hlt 0 _ rfl)
      have k1 : wr.cell? ⟨b, off + k * 2 + 1, none⟩ = some (.string l[k].val) := (xr.cell (p := ⟨b, off + k * 2 + 1, none⟩) hb).trans (hc k hlt 1 _ rfl)
      have m0 : wr.cell? ⟨b', off' + k * 2, none⟩ = some (.string l[k].key) := (xr.cell (p := ⟨b', off' + k * 2, none⟩) hb').trans (hc' k hlt 0 _ rfl)
      have m1 : wr.cell? ⟨b', off' + k * 2 + 1, none⟩ = some (.string l[k].val) := (xr.cell (p := ⟨b', off' + k * 2 + 1, none⟩) hb').trans (hc' k hlt 1 _ rfl)
      clear hc hc' hsh hsh1
      generalize l[k].key = f0 at *
      generalize l[k].val = f1 at *
      go_wp2_with fail
      go_quiet (fail)
      go_wp2
      go_roundw
      case rel => exact ⟨k + 1, by go_num, hlt, below_drewN xr _⟩
      case measure => simp [intOf]; omega
    · go_wp2
      go_ret
      exact ⟨rfl, xr⟩
end Go.Proofs.Ytmbmflhcimkjpaa
set_option linter.unusedVariables false
set_option linter.unusedSimpArgs false
namespace Go.Proofs.Ytmbmflhcimkjpaa
open Go.RowKit Sp Go.Sort

set_option maxRecDepth 100000 in
set_option maxHeartbeats 6400000 in
theorem walkFnMem (w : World) (v : Value) (xs : List UInt8) (h : SlT bytC 1 w v xs) :
    Calls Try.prog 6 #[v] w fun e w' => e = .returned (.bool true) ∧ Below w.heap.size w w' := by
  by_cases hbig : 1048576 < (xs.length : Int)
  · go_enter Try.func6, Try.ntmps6
    go_wp2_with fail
    refine (big_any v xs _ h).mono ?_
    rintro e w1 ⟨rfl, rfl⟩
    rw [decide_eq_true hbig]
    go_wp2
    go_ret
    exact ⟨rfl, Below.refl _ _⟩
  · go_enter Try.func6, Try.ntmps6
    go_wp2_with fail
    refine (big_any v xs _ h).mono ?_
    rintro e w1 ⟨rfl, rfl⟩
    rw [decide_eq_false (show ¬ 1048576 < (xs.length : Int) from by omega)]
    go_wp2_with fail
    refine (drawMemPut_any v xs _ h (by omega)).mono ?_
    rintro e w1 ⟨ao, cp, l, ⟨ek, es, ed, ev⟩, rfl, sl, hl, b1⟩
    go_upto_region 4 with fail
    have E1 := Bx.new w1 #[.string ek, .int .i64 es, .bool ed, .string ev] 30
    have x1 := b1.alloc b1.size (.cells #[.string ek, .int .i64 es, .bool ed, .string ev] 30)
    have s1 := sl.below (hal2 w1 (.cells #[.string ek, .int .i64 es, .bool ed, .string ev] 30))
    generalize w1.alloc (.cells #[.string ek, .int .i64 es, .bool ed, .string ev] 30) = W1 at *
    generalize w1.heap.size = q4 at *
    clear sl b1
    have y0 := E1.cell 0 _ rfl
    have y1 := E1.cell 1 _ rfl
    have y2 := E1.cell 2 _ rfl
    have y3 := E1.cell 3 _ rfl
    go_wp2_with fail
    refine (implMemPut ao cp l ⟨ek, es, ed, ev⟩ _ s1 (by omega)).mono ?_
    rintro e w2 ⟨vx, rfl, Rx, b2⟩
    have x2 := x1.trans (b2.mono x1.size)
    have s2 := s1.below b2
    have E2 := E1.below b2
    have sx := Rx.slT (fun _ => rfl) (by decide)
    clear y0 y1 y2 y3 s1 E1 Rx b2 x1
    have y0 := E2.cell 0 _ rfl
    have y1 := E2.cell 1 _ rfl
    have y2 := E2.cell 2 _ rfl
    have y3 := E2.cell 3 _ rfl
    go_wp2_with fail
    refine (specMemPut ao cp l ⟨ek, es, ed, ev⟩ _ s2 (by omega)).mono ?_
    rintro e w3 ⟨vq, rfl, _, b3⟩
    have x3 := x2.trans (b3.mono x2.size)
    have s3 := s2.below b3
    have E3 := E2.below b3
    have sx := sx.below b3
    clear y0 y1 y2 y3 s2 E2 b3 x2
    have y0 := E3.cell 0 _ rfl
    have y1 := E3.cell 1 _ rfl
    have y2 := E3.cell 2 _ rfl
    have y3 := E3.cell 3 _ rfl
    rcases hp : putB l ⟨ek, es, ed, ev⟩ with _ | _
    · rcases hm : memB l with _ | _
      · go_wp2_with fail
        refine (specMemOk _ l _ s3 (by omega)).mono ?_
        rintro e w4 ⟨rfl, b4⟩
        rw [hm]
        have x4 := x3.trans (b4.mono x3.size)
        clear y0 y1 y2 y3 s3 E3 sx x3 b4
        go_wp2_with fail
        refine (drawMemRange_any v xs _ (h.below x4) (by omega)).mono ?_
        rintro e w20 ⟨ro, rp, m, fr, tt, sq, rfl, sm, hml, b20⟩
        have x20 := x4.trans (b20.mono x4.size)
        go_wp2_with fail
        refine (implMemRange ro rp m fr tt sq _ sm (by omega)).mono ?_
        rintro e w21 ⟨vr, rfl, Rr, b21⟩
        have x21 := x20.trans (b21.mono x20.size)
        have sm1 := sm.below b21
        go_wp2_with fail
        refine (implMemMap ro rp m sq _ sm1 (by omega)).mono ?_
        rintro e w22 ⟨va, rfl, Ra, b22⟩
        have x22 := x21.trans (b22.mono x21.size)
        have sm2 := sm1.below b22
        have sr := (Rr.slT (fun _ => rfl) (by decide)).below b22
        have sa := Ra.slT (fun _ => rfl) (by decide)
        have hal := memMap_len m sq
        have HB := Lib.hid (memMap_mapB m sq)
        have hrange : memRange m fr tt sq = betw (memMap m sq) fr tt := rfl
        rw [hrange] at sr
        have HS := Lib.hid (fun (W : World) (u : Value) (hW : SlT KV.cells 2 W u (memMap m sq)) => hW)
        clear sm b20 x20 b21 x21 b22 sm1 Rr Ra x4 hrange HS
        have HSP := Lib.hid (fun W (hW : SlT EntR.cells 4 W (.slice ro m.length rp) m) => specMemMap ro rp m sq W hW (by omega))
        generalize memMap m sq = all at *
        obtain ⟨ra, rc, rfl, _, _, hshr⟩ := sr.shape
        obtain ⟨aa, ac, rfl, _, _, hsha⟩ := sa.shape
        have hbl := betw_len all fr tt
        go_wp2_with fail
        go_loopw [20, 21] (fun n i wr => ∃ k : Nat, i = .int .i64 k ∧ k ≤ all.length ∧ n = .int .i64 ((betw (all.take k) fr tt).length : Nat) ∧ Below w22.heap.size w22 wr) (fun _ i _ => all.length - (intOf i).toNat)
        case atStart => exact ⟨0, rfl, Nat.zero_le _, rfl, Below.refl _ _⟩
        case round =>
          obtain ⟨k, rfl, hk, rfl, xr⟩ := hrel
          by_cases hlt : k < all.length
          · obtain ⟨b, off, rfl, hb, hc⟩ := hsha (by omega)
            have e0 : wr.cell? ⟨b, off + k * 2, none⟩ = some (.string all[k].key) := (xr.cell (p := ⟨b, off + k * 2, none⟩) hb).trans (hc k hlt 0 _ rfl)
            have e1 : wr.cell? ⟨b, off + k * 2 + 1, none⟩ = some (.string all[k].val) := (xr.cell (p := ⟨b, off + k * 2 + 1, none⟩) hb).trans (hc k hlt 1 _ rfl)
            clear hc hsha
            by_cases h1 : Op.bytesLess all[k].key.toList fr.toList = true
            · have hw : withinB all[k].key fr tt = false := by simp [withinB, less, h1]
              have HL := Lib.hid (show (betw (all.take (k + 1)) fr tt).length = (betw (all.take k) fr tt).length from by rw [betw_miss hlt hw])
              generalize (betw (all.take k) fr tt).length = n at *
              go_wp2
              go_roundw
              case rel => exact ⟨k + 1, by go_num, hlt, by rw [HL.out], xr⟩
              case measure => simp [intOf]; omega
            · by_cases h2 : tt.toList = []
              · have hw : withinB all[k].key fr tt = true := by simp [withinB, less, h1, h2]
                obtain ⟨hn, hat⟩ := betw_at hlt hw
                have HL := Lib.hid (show (betw (all.take (k + 1)) fr tt).length = (betw (all.take k) fr tt).length + 1 from by rw [betw_hit hlt hw]; simp)
                obtain ⟨b2, off2, rfl, hb2, hc2⟩ := hshr (by omega)
                generalize (betw (all.take k) fr tt).length = n at *
                have r0 : wr.cell? ⟨b2, off2 + n * 2, none⟩ = some (.string all[k].key) := by have := hc2 n hn 0 _ rfl; rw [hat] at this; exact (xr.cell (p := ⟨b2, off2 + n * 2, none⟩) hb2).trans this
                have r1 : wr.cell? ⟨b2, off2 + n * 2 + 1, none⟩ = some (.string all[k].val) := by have := hc2 n hn 1 _ rfl; rw [hat] at this; exact (xr.cell (p := ⟨b2, off2 + n * 2 + 1, none⟩) hb2).trans this
                have hd : decide (((betw all fr tt).length : Int) ≤ (n : Int)) = false := decide_eq_false (by omega)
                have hn1 : (n : Int) < ((betw all fr tt).length : Int) := by omega
                clear hat hc2 hshr
                generalize all[k].key = ky at *
                generalize all[k].val = vl at *
                go_wp2_with fail
                go_quiet (fail)
                go_wp2
                go_roundw
                case rel => exact ⟨k + 1, by go_num, hlt, by rw [HL.out]; go_num, below_drewN xr _⟩
                case measure => simp [intOf]; omega
              · have h2' : tt.toList.isEmpty = false := by simpa using h2
                by_cases h3 : Op.bytesLess all[k].key.toList tt.toList = true
                · have hw : withinB all[k].key fr tt = true := by simp [withinB, less, h1, h2, h3]
                  obtain ⟨hn, hat⟩ := betw_at hlt hw
                  have HL := Lib.hid (show (betw (all.take (k + 1)) fr tt).length = (betw (all.take k) fr tt).length + 1 from by rw [betw_hit hlt hw]; simp)
                  obtain ⟨b2, off2, rfl, hb2, hc2⟩ := hshr (by omega)
                  generalize (betw (all.take k) fr tt).length = n at *
                  have r0 : wr.cell? ⟨b2, off2 + n * 2, none⟩ = some (.string all[k].key) := by have := hc2 n hn 0 _ rfl; rw [hat] at this; exact (xr.cell (p := ⟨b2, off2 + n * 2, none⟩) hb2).trans this
                  have r1 : wr.cell? ⟨b2, off2 + n * 2 + 1, none⟩ = some (.string all[k].val) := by have := hc2 n hn 1 _ rfl; rw [hat] at this; exact (xr.cell (p := ⟨b2, off2 + n * 2 + 1, none⟩) hb2).trans this
                  have hd : decide (((betw all fr tt).length : Int) ≤ (n : Int)) = false := decide_eq_false (by omega)
                  have hn1 : (n : Int) < ((betw all fr tt).length : Int) := by omega
                  clear hat hc2 hshr
                  generalize all[k].key = ky at *
                  generalize all[k].val = vl at *
                  go_wp2_with fail
                  go_quiet (fail)
                  go_wp2
                  go_roundw
                  case rel => exact ⟨k + 1, by go_num, hlt, by rw [HL.out]; go_num, below_drewN xr _⟩
                  case measure => simp [intOf]; omega
                · have h3' : Op.bytesLess all[k].key.toList tt.toList = false := by simpa using h3
                  have hw : withinB all[k].key fr tt = false := by simp [withinB, less, h1, h2, h3]
                  have HL := Lib.hid (show (betw (all.take (k + 1)) fr tt).length = (betw (all.take k) fr tt).length from by rw [betw_miss hlt hw])
                  generalize (betw (all.take k) fr tt).length = n at *
                  go_wp2
                  go_roundw
                  case rel => exact ⟨k + 1, by go_num, hlt, by rw [HL.out], xr⟩
                  case measure => simp [intOf]; omega
          · obtain rfl : k = all.length := by omega
            rw [List.take_length]
            have sm2 := sm2.below xr
            have sa := sa.below xr
            have x22 := x22.trans (xr.mono x22.size)
            go_wp2_with fail
            refine (HSP.out _ sm2).mono ?_
            rintro e w23 ⟨vs, rfl, ss, b23⟩
            have x23 := x22.trans (b23.mono x22.size)
            have sa3 := sa.below b23
            go_wp2_with fail
            refine (sameMap_eq _ _ all _ sa3 ss (by omega)).mono ?_
            rintro e w24 ⟨rfl, b24⟩
            have x24 := x23.trans (b24.mono x23.size)
            have sa4 := sa3.below b24
            go_wp2_with fail
            refine (specMapOk _ all _ sa4 (by omega)).mono ?_
            rintro e w25 ⟨rfl, b25⟩
            rw [HB.out]
            go_wp2
            go_ret
            exact ⟨rfl, x24.trans (b25.mono x24.size)⟩
      · rw [put_same hp hm] at sx
        go_wp2_with fail
        refine (specMemOk _ l _ s3 (by omega)).mono ?_
        rintro e w4 ⟨rfl, b4⟩
        rw [hm]
        have x4 := x3.trans (b4.mono x3.size)
        have s4 := s3.below b4
        have sx := sx.below b4
        clear y0 y1 y2 y3 s3 E3 x3 b4
        go_wp2_with fail
        refine (sameEnts_eq _ _ l _ sx s4 (by omega)).mono ?_
        rintro e w5 ⟨rfl, b5⟩
        have x5 := x4.trans (b5.mono x4.size)
        clear s4 sx x4 b5
        go_wp2_with fail
        refine (drawMemRange_any v xs _ (h.below x5) (by omega)).mono ?_
        rintro e w20 ⟨ro, rp, m, fr, tt, sq, rfl, sm, hml, b20⟩
        have x20 := x5.trans (b20.mono x5.size)
        go_wp2_with fail
        refine (implMemRange ro rp m fr tt sq _ sm (by omega)).mono ?_
        rintro e w21 ⟨vr, rfl, Rr, b21⟩
        have x21 := x20.trans (b21.mono x20.size)
        have sm1 := sm.below b21
        go_wp2_with fail
        refine (implMemMap ro rp m sq _ sm1 (by omega)).mono ?_
        rintro e w22 ⟨va, rfl, Ra, b22⟩
        have x22 := x21.trans (b22.mono x21.size)
        have sm2 := sm1.below b22
        have sr := (Rr.slT (fun _ => rfl) (by decide)).below b22
        have sa := Ra.slT (fun _ => rfl) (by decide)
        have hal := memMap_len m sq
        have HB := Lib.hid (memMap_mapB m sq)
        have hrange : memRange m fr tt sq = betw (memMap m sq) fr tt := rfl
        rw [hrange] at sr
        have HS := Lib.hid (fun (W : World) (u : Value) (hW : SlT KV.cells 2 W u (memMap m sq)) => hW)
        clear sm b20 x20 b21 x21 b22 sm1 Rr Ra x5 hrange HS
        have HSP := Lib.hid (fun W (hW : SlT EntR.cells 4 W (.slice ro m.length rp) m) => specMemMap ro rp m sq W hW (by omega))
        generalize memMap m sq = all at *
        obtain ⟨ra, rc, rfl, _, _, hshr⟩ := sr.shape
        obtain ⟨aa, ac, rfl, _, _, hsha⟩ := sa.shape
        have hbl := betw_len all fr tt
        go_wp2_with fail
        go_loopw [20, 21] (fun n i wr => ∃ k : Nat, i = .int .i64 k ∧ k ≤ all.length ∧ n = .int .i64 ((betw (all.take k) fr tt).length : Nat) ∧ Below w22.heap.size w22 wr) (fun _ i _ => all.length - (intOf i).toNat)
        case atStart => exact ⟨0, rfl, Nat.zero_le _, rfl, Below.refl _ _⟩
        case round =>
          obtain ⟨k, rfl, hk, rfl, xr⟩ := hrel
          by_cases hlt : k < all.length
          · obtain ⟨b, off, rfl, hb, hc⟩ := hsha (by omega)
            have e0 : wr.cell? ⟨b, off + k * 2, none⟩ = some (.string all[k].key) := (xr.cell (p := ⟨b, off + k * 2, none⟩) hb).trans (hc k hlt 0 _ rfl)
            have e1 : wr.cell? ⟨b, off + k * 2 + 1, none⟩ = some (.string all[k].val) := (xr.cell (p := ⟨b, off + k * 2 + 1, none⟩) hb).trans (hc k hlt 1 _ rfl)
            clear hc hsha
            by_cases h1 : Op.bytesLess all[k].key.toList fr.toList = true
            · have hw : withinB all[k].key fr tt = false := by simp [withinB, less, h1]
              have HL := Lib.hid (show (betw (all.take (k + 1)) fr tt).length = (betw (all.take k) fr tt).length from by rw [betw_miss hlt hw])
              generalize (betw (all.take k) fr tt).length = n at *
              go_wp2
              go_roundw
              case rel => exact ⟨k + 1, by go_num, hlt, by rw [HL.out], xr⟩
              case measure => simp [intOf]; omega
            · by_cases h2 : tt.toList = []
              · have hw : withinB all[k].key fr tt = true := by simp [withinB, less, h1, h2]
                obtain ⟨hn, hat⟩ := betw_at hlt hw
                have HL := Lib.hid (show (betw (all.take (k + 1)) fr tt).length = (betw (all.take k) fr tt).length + 1 from by rw [betw_hit hlt hw]; simp)
                obtain ⟨b2, off2, rfl, hb2, hc2⟩ := hshr (by omega)
                generalize (betw (all.take k) fr tt).length = n at *
                have r0 : wr.cell? ⟨b2, off2 + n * 2, none⟩ = some (.string all[k].key) := by have := hc2 n hn 0 _ rfl; rw [hat] at this; exact (xr.cell (p := ⟨b2, off2 + n * 2, none⟩) hb2).trans this
                have r1 : wr.cell? ⟨b2, off2 + n * 2 + 1, none⟩ = some (.string all[k].val) := by have := hc2 n hn 1 _ rfl; rw [hat] at this; exact (xr.cell (p := ⟨b2, off2 + n * 2 + 1, none⟩) hb2).trans this
                have hd : decide (((betw all fr tt).length : Int) ≤ (n : Int)) = false := decide_eq_false (by omega)
                have hn1 : (n : Int) < ((betw all fr tt).length : Int) := by omega
                clear hat hc2 hshr
                generalize all[k].key = ky at *
                generalize all[k].val = vl at *
                go_wp2_with fail
                go_quiet (fail)
                go_wp2
                go_roundw
                case rel => exact ⟨k + 1, by go_num, hlt, by rw [HL.out]; go_num, below_drewN xr _⟩
                case measure => simp [intOf]; omega
              · have h2' : tt.toList.isEmpty = false := by simpa using h2
                by_cases h3 : Op.bytesLess all[k].key.toList tt.toList = true
                · have hw : withinB all[k].key fr tt = true := by simp [withinB, less, h1, h2, h3]
                  obtain ⟨hn, hat⟩ := betw_at hlt hw
                  have HL := Lib.hid (show (betw (all.take (k + 1)) fr tt).length = (betw (all.take k) fr tt).length + 1 from by rw [betw_hit hlt hw]; simp)
                  obtain ⟨b2, off2, rfl, hb2, hc2⟩ := hshr (by omega)
                  generalize (betw (all.take k) fr tt).length = n at *
                  have r0 : wr.cell? ⟨b2, off2 + n * 2, none⟩ = some (.string all[k].key) := by have := hc2 n hn 0 _ rfl; rw [hat] at this; exact (xr.cell (p := ⟨b2, off2 + n * 2, none⟩) hb2).trans this
                  have r1 : wr.cell? ⟨b2, off2 + n * 2 + 1, none⟩ = some (.string all[k].val) := by have := hc2 n hn 1 _ rfl; rw [hat] at this; exact (xr.cell (p := ⟨b2, off2 + n * 2 + 1, none⟩) hb2).trans this
                  have hd : decide (((betw all fr tt).length : Int) ≤ (n : Int)) = false := decide_eq_false (by omega)
                  have hn1 : (n : Int) < ((betw all fr tt).length : Int) := by omega
                  clear hat hc2 hshr
                  generalize all[k].key = ky at *
                  generalize all[k].val = vl at *
                  go_wp2_with fail
                  go_quiet (fail)
                  go_wp2
                  go_roundw
                  case rel => exact ⟨k + 1, by go_num, hlt, by rw [HL.out]; go_num, below_drewN xr _⟩
                  case measure => simp [intOf]; omega
                · have h3' : Op.bytesLess all[k].key.toList tt.toList = false := by simpa using h3
                  have hw : withinB all[k].key fr tt = false := by simp [withinB, less, h1, h2, h3]
                  have HL := Lib.hid (show (betw (all.take (k + 1)) fr tt).length = (betw (all.take k) fr tt).length from by rw [betw_miss hlt hw])
                  generalize (betw (all.take k) fr tt).length = n at *
                  go_wp2
                  go_roundw
                  case rel => exact ⟨k + 1, by go_num, hlt, by rw [HL.out], xr⟩
                  case measure => simp [intOf]; omega
          · obtain rfl : k = all.length := by omega
            rw [List.take_length]
            have sm2 := sm2.below xr
            have sa := sa.below xr
            have x22 := x22.trans (xr.mono x22.size)
            go_wp2_with fail
            refine (HSP.out _ sm2).mono ?_
            rintro e w23 ⟨vs, rfl, ss, b23⟩
            have x23 := x22.trans (b23.mono x22.size)
            have sa3 := sa.below b23
            go_wp2_with fail
            refine (sameMap_eq _ _ all _ sa3 ss (by omega)).mono ?_
            rintro e w24 ⟨rfl, b24⟩
            have x24 := x23.trans (b24.mono x23.size)
            have sa4 := sa3.below b24
            go_wp2_with fail
            refine (specMapOk _ all _ sa4 (by omega)).mono ?_
            rintro e w25 ⟨rfl, b25⟩
            rw [HB.out]
            go_wp2
            go_ret
            exact ⟨rfl, x24.trans (b25.mono x24.size)⟩
    · have hs60 := put_len hp
      have HG := Lib.hid (fun i hi => put_get_old hp i hi)
      have HE := put_get hp
      simp only at HE
      have HX := Lib.hid hs60
      have lx : ((memPut l ⟨ek, es, ed, ev⟩).length : Int) = (l.length : Int) + 1 := by omega
      have LX : ((memPut l ⟨ek, es, ed, ev⟩).length : Int) ≤ 1048576 := by omega
      generalize memPut l ⟨ek, es, ed, ev⟩ = x at *
      clear hs60
      go_wp2_with fail
      refine (implMemGet _ x ek es _ sx LX).mono ?_
      rintro e w4 ⟨rfl, b4⟩
      rw [HE]
      have x4 := x3.trans (b4.mono x3.size)
      have s4 := s3.below b4
      have E4 := E3.below b4
      have sx4 := sx.below b4
      clear y0 y1 y2 y3 s3 E3 sx x3 b4
      obtain ⟨xo, xc, rfl, _, _, _⟩ := sx4.shape
      have W9 : IntKind.i64.wrap ((l.length : Int) + 1) = (l.length : Int) + 1 := by rw [IntKind.wrap_i64]; omega
      have E5 := E4.below (hal2 w4 (.cells #[.string ek, .int .i64 es, .bool ed, .string ev] 30))
      have G5 := Bx.new w4 #[.string ek, .int .i64 es, .bool ed, .string ev] 30
      have x5 := x4.alloc x4.size (.cells #[.string ek, .int .i64 es, .bool ed, .string ev] 30)
      have s5 := s4.below (hal2 w4 (.cells #[.string ek, .int .i64 es, .bool ed, .string ev] 30))
      have sx5 := sx4.below (hal2 w4 (.cells #[.string ek, .int .i64 es, .bool ed, .string ev] 30))
      go_upto_region 10 with fail
      clear x4 s4 sx4 E4
      generalize w4.alloc (.cells #[.string ek, .int .i64 es, .bool ed, .string ev] 30) = W5 at *
      generalize w4.heap.size = q9 at *
      have y0 := E5.cell 0 _ rfl
      have y1 := E5.cell 1 _ rfl
      have y2 := E5.cell 2 _ rfl
      have y3 := E5.cell 3 _ rfl
      have z0 := G5.cell 0 _ rfl
      have z1 := G5.cell 1 _ rfl
      have z2 := G5.cell 2 _ rfl
      have z3 := G5.cell 3 _ rfl
      clear E5 G5
      obtain ⟨lo, lc, hvl, _, _, _⟩ := s5.shape
      go_wp2_with fail
      clear y0 y1 y2 y3 z0 z1 z2 z3 lx
      go_loopw [11] (fun i wr => ∃ k : Nat, i = .int .i64 k ∧ k ≤ l.length ∧ Below w.heap.size w wr ∧ SlT EntR.cells 4 wr (.slice ao l.length cp) l ∧ SlT EntR.cells 4 wr (.slice xo x.length xc) x) (fun i _ => l.length - (intOf i).toNat)
      case atStart => exact ⟨0, rfl, Nat.zero_le _, x5, s5, sx5⟩
      case round =>
        clear x5 s5 sx5
        obtain ⟨k, rfl, hk, xr, sr, sxr⟩ := hrel
        by_cases hlt : k < l.length
        · obtain ⟨lo, lc, hvl, _, _, hsh⟩ := sr.shape
          obtain ⟨rfl, rfl⟩ : ao = lo ∧ cp = lc := by simpa using hvl
          obtain ⟨b, off, rfl, hb, hc⟩ := hsh (by omega)
          have k0 : wr.cell? ⟨b, off + k * 4, none⟩ = some (.string l[k].key) := hc k hlt 0 _ rfl
          have k1 : wr.cell? ⟨b, off + k * 4 + 1, none⟩ = some (.int .i64 l[k].seq) := hc k hlt 1 _ rfl
          have k2 : wr.cell? ⟨b, off + k * 4 + 2, none⟩ = some (.bool l[k].del) := hc k hlt 2 _ rfl
          have k3 : wr.cell? ⟨b, off + k * 4 + 3, none⟩ = some (.string l[k].val) := hc k hlt 3 _ rfl
          have hG0 := HG.out k hlt
          clear hc hsh hvl
          rcases hlk : l[k] with ⟨ky, sq, dl, vl⟩
          rw [hlk] at k0 k1 k2 k3 hG0
          clear hlk
          simp only at k0 k1 k2 k3 hG0
          have hG := Lib.hid hG0
          clear hG0
          have BS : ∀ W : World, Below wr.heap.size wr W → W.cell? ⟨b, off + k * 4, none⟩ = some (.string ky) ∧ W.cell? ⟨b, off + k * 4 + 1, none⟩ = some (.int .i64 sq) ∧ Below wr.heap.size wr W := fun W hW => ⟨(hW.cell (p := ⟨b, off + k * 4, none⟩) hb).trans k0, (hW.cell (p := ⟨b, off + k * 4 + 1, none⟩) hb).trans k1, hW⟩
          have BZ : Bx (wr.alloc (.cells #[.string ⟨#[]⟩, .int .i64 0, .bool false, .string ⟨#[]⟩] 30)).drew wr.heap.size #[.string ⟨#[]⟩, .int .i64 0, .bool false, .string ⟨#[]⟩] := Bx.new wr _ _
          have xA : Below wr.heap.size wr wr.drew := (Below.refl _ _).drew
          have xB : Below wr.heap.size wr (wr.alloc (.cells #[.string ⟨#[]⟩, .int .i64 0, .bool false, .string ⟨#[]⟩] 30)).drew := ((Below.refl _ _).alloc (Nat.le_refl _) _).drew
          have sA := sxr.below xA
          have sB := sxr.below xB
          have BQ := Lib.hid BS
          clear BS
          go_upto_region 15 with fail
          go_cut [12, 13] (fun s12 s13 wx => ∃ q : Nat, s12 = .pointer (some ⟨q, 0, none⟩) ∧ s13 = .bool true ∧ Bx wx q #[.string ky, .int .i64 sq, .bool dl, .string vl] ∧ Below wr.heap.size wr wx)
          case first =>
            go_region_held (fun w' => w'.cell? ⟨b, off + k * 4, none⟩ = some (.string ky) ∧ w'.cell? ⟨b, off + k * 4 + 1, none⟩ = some (.int .i64 sq) ∧ Below wr.heap.size wr w')
              ((refine BQ.out _ ?_; first | assumption | with_reducible exact xA | with_reducible exact xB | with_reducible exact x5.alloc x5.size _ | exact below_set (below_set (below_set (below_set x5 _ _ (Nat.le_refl _)) _ _ (Nat.le_refl _)) _ _ (Nat.le_refl _)) _ _ (Nat.le_refl _)))
              (first | (go_at_call 40; first | (with_reducible refine (implMemGet _ x ky sq _ sA LX).mono ?_; rintro e w5 ⟨rfl, b5⟩; rw [hG.out]; have x5 := xA.trans (b5.mono xA.size)) | (with_reducible refine (implMemGet _ x ky sq _ sB LX).mono ?_; rintro e w5 ⟨rfl, b5⟩; rw [hG.out]; have x5 := xB.trans (b5.mono xB.size); have B5 := BZ.below b5; have g0 := B5.cell 0 _ rfl; have g1 := B5.cell 1 _ rfl; have g2 := B5.cell 2 _ rfl; have g3 := B5.cell 3 _ rfl; have gf := B5.frozen)))
            all_goals
              go_wp2_with fail
              go_meet
              first
                | exact ⟨_, rfl, rfl, Bx.new w5 _ _, x5.alloc x5.size _⟩
                | exact ⟨_, rfl, rfl, (((B5.set 0 _).set 1 _).set 2 _).set 3 _, below_set (below_set (below_set (below_set x5 _ _ (Nat.le_refl _)) _ _ (Nat.le_refl _)) _ _ (Nat.le_refl _)) _ _ (Nat.le_refl _)⟩
          case rest =>
            obtain ⟨q, rfl, rfl, Q, xq⟩ := hcut
            have k0' := (xq.cell (p := ⟨b, off + k * 4, none⟩) hb).trans k0
            have k1' := (xq.cell (p := ⟨b, off + k * 4 + 1, none⟩) hb).trans k1
            have k2' := (xq.cell (p := ⟨b, off + k * 4 + 2, none⟩) hb).trans k2
            have k3' := (xq.cell (p := ⟨b, off + k * 4 + 3, none⟩) hb).trans k3
            have z0 := Q.cell 0 _ rfl
            have z1 := Q.cell 1 _ rfl
            have z2 := Q.cell 2 _ rfl
            have z3 := Q.cell 3 _ rfl
            clear BZ xA xB sA sB k0 k1 k2 k3
            go_wp2_with fail
            go_quiet (fail)
            go_wp2
            go_roundw
            case rel => exact ⟨k + 1, by go_num, hlt, below_drewN (xr.trans (xq.mono xr.size)) _, sr.below (below_drewN xq _), sxr.below (below_drewN xq _)⟩
            case measure => simp [intOf]; omega
        · obtain rfl : k = l.length := by omega
          go_wp2_with fail
          refine (drawMemRange_any v xs _ (h.below xr) (by omega)).mono ?_
          rintro e w20 ⟨ro, rp, m, fr, tt, sq, rfl, sm, hml, b20⟩
          have x20 := xr.trans (b20.mono xr.size)
          go_wp2_with fail
          refine (implMemRange ro rp m fr tt sq _ sm (by omega)).mono ?_
          rintro e w21 ⟨vr, rfl, Rr, b21⟩
          have x21 := x20.trans (b21.mono x20.size)
          have sm1 := sm.below b21
          go_wp2_with fail
          refine (implMemMap ro rp m sq _ sm1 (by omega)).mono ?_
          rintro e w22 ⟨va, rfl, Ra, b22⟩
          have x22 := x21.trans (b22.mono x21.size)
          have sm2 := sm1.below b22
          have sr := (Rr.slT (fun _ => rfl) (by decide)).below b22
          have sa := Ra.slT (fun _ => rfl) (by decide)
          have hal := memMap_len m sq
          have HB := Lib.hid (memMap_mapB m sq)
          have hrange : memRange m fr tt sq = betw (memMap m sq) fr tt := rfl
          rw [hrange] at sr
          have HS := Lib.hid (fun (W : World) (u : Value) (hW : SlT KV.cells 2 W u (memMap m sq)) => hW)
          clear sm b20 x20 b21 x21 b22 sm1 Rr Ra xr hrange HS
          have HSP := Lib.hid (fun W (hW : SlT EntR.cells 4 W (.slice ro m.length rp) m) => specMemMap ro rp m sq W hW (by omega))
          generalize memMap m sq = all at *
          obtain ⟨ra, rc, rfl, _, _, hshr⟩ := sr.shape
          obtain ⟨aa, ac, rfl, _, _, hsha⟩ := sa.shape
          have hbl := betw_len all fr tt
          go_wp2_with fail
          go_loopw [20, 21] (fun n i wr => ∃ k : Nat, i = .int .i64 k ∧ k ≤ all.length ∧ n = .int .i64 ((betw (all.take k) fr tt).length : Nat) ∧ Below w22.heap.size w22 wr) (fun _ i _ => all.length - (intOf i).toNat)
          case atStart => exact ⟨0, rfl, Nat.zero_le _, rfl, Below.refl _ _⟩
          case round =>
            obtain ⟨k, rfl, hk, rfl, xr⟩ := hrel
            by_cases hlt : k < all.length
            · obtain ⟨b, off, rfl, hb, hc⟩ := hsha (by omega)
              have e0 : wr.cell? ⟨b, off + k * 2, none⟩ = some (.string all[k].key) := (xr.cell (p := ⟨b, off + k * 2, none⟩) hb).trans (hc k hlt 0 _ rfl)
              have e1 : wr.cell? ⟨b, off + k * 2 + 1, none⟩ = some (.string all[k].val) := (xr.cell (p := ⟨b, off + k * 2 + 1, none⟩) hb).trans (hc k hlt 1 _ rfl)
              clear hc hsha
              by_cases h1 : Op.bytesLess all[k].key.toList fr.toList = true
              · have hw : withinB all[k].key fr tt = false := by simp [withinB, less, h1]
                have HL := Lib.hid (show (betw (all.take (k + 1)) fr tt).length = (betw (all.take k) fr tt).length from by rw [betw_miss hlt hw])
                generalize (betw (all.take k) fr tt).length = n at *
                go_wp2
                go_roundw
                case rel => exact ⟨k + 1, by go_num, hlt, by rw [HL.out], xr⟩
                case measure => simp [intOf]; omega
              · by_cases h2 : tt.toList = []
                · have hw : withinB all[k].key fr tt = true := by simp [withinB, less, h1, h2]
                  obtain ⟨hn, hat⟩ := betw_at hlt hw
                  have HL := Lib.hid (show (betw (all.take (k + 1)) fr tt).length = (betw (all.take k) fr tt).length + 1 from by rw [betw_hit hlt hw]; simp)
                  obtain ⟨b2, off2, rfl, hb2, hc2⟩ := hshr (by omega)
                  generalize (betw (all.take k) fr tt).length = n at *
                  have r0 : wr.cell? ⟨b2, off2 + n * 2, none⟩ = some (.string all[k].key) := by have := hc2 n hn 0 _ rfl; rw [hat] at this; exact (xr.cell (p := ⟨b2, off2 + n * 2, none⟩) hb2).trans this
                  have r1 : wr.cell? ⟨b2, off2 + n * 2 + 1, none⟩ = some (.string all[k].val) := by have := hc2 n hn 1 _ rfl; rw [hat] at this; exact (xr.cell (p := ⟨b2, off2 + n * 2 + 1, none⟩) hb2).trans this
                  have hd : decide (((betw all fr tt).length : Int) ≤ (n : Int)) = false := decide_eq_false (by omega)
                  have hn1 : (n : Int) < ((betw all fr tt).length : Int) := by omega
                  clear hat hc2 hshr
                  generalize all[k].key = ky at *
                  generalize all[k].val = vl at *
                  go_wp2_with fail
                  go_quiet (fail)
                  go_wp2
                  go_roundw
                  case rel => exact ⟨k + 1, by go_num, hlt, by rw [HL.out]; go_num, below_drewN xr _⟩
                  case measure => simp [intOf]; omega
                · have h2' : tt.toList.isEmpty = false := by simpa using h2
                  by_cases h3 : Op.bytesLess all[k].key.toList tt.toList = true
                  · have hw : withinB all[k].key fr tt = true := by simp [withinB, less, h1, h2, h3]
                    obtain ⟨hn, hat⟩ := betw_at hlt hw
                    have HL := Lib.hid (show (betw (all.take (k + 1)) fr tt).length = (betw (all.take k) fr tt).length + 1 from by rw [betw_hit hlt hw]; simp)
                    obtain ⟨b2, off2, rfl, hb2, hc2⟩ := hshr (by omega)
                    generalize (betw (all.take k) fr tt).length = n at *
                    have r0 : wr.cell? ⟨b2, off2 + n * 2, none⟩ = some (.string all[k].key) := by have := hc2 n hn 0 _ rfl; rw [hat] at this; exact (xr.cell (p := ⟨b2, off2 + n * 2, none⟩) hb2).trans this
                    have r1 : wr.cell? ⟨b2, off2 + n * 2 + 1, none⟩ = some (.string all[k].val) := by have := hc2 n hn 1 _ rfl; rw [hat] at this; exact (xr.cell (p := ⟨b2, off2 + n * 2 + 1, none⟩) hb2).trans this
                    have hd : decide (((betw all fr tt).length : Int) ≤ (n : Int)) = false := decide_eq_false (by omega)
                    have hn1 : (n : Int) < ((betw all fr tt).length : Int) := by omega
                    clear hat hc2 hshr
                    generalize all[k].key = ky at *
                    generalize all[k].val = vl at *
                    go_wp2_with fail
                    go_quiet (fail)
                    go_wp2
                    go_roundw
                    case rel => exact ⟨k + 1, by go_num, hlt, by rw [HL.out]; go_num, below_drewN xr _⟩
                    case measure => simp [intOf]; omega
                  · have h3' : Op.bytesLess all[k].key.toList tt.toList = false := by simpa using h3
                    have hw : withinB all[k].key fr tt = false := by simp [withinB, less, h1, h2, h3]
                    have HL := Lib.hid (show (betw (all.take (k + 1)) fr tt).length = (betw (all.take k) fr tt).length from by rw [betw_miss hlt hw])
                    generalize (betw (all.take k) fr tt).length = n at *
                    go_wp2
                    go_roundw
                    case rel => exact ⟨k + 1, by go_num, hlt, by rw [HL.out], xr⟩
                    case measure => simp [intOf]; omega
            · obtain rfl : k = all.length := by omega
              rw [List.take_length]
              have sm2 := sm2.below xr
              have sa := sa.below xr
              have x22 := x22.trans (xr.mono x22.size)
              go_wp2_with fail
              refine (HSP.out _ sm2).mono ?_
              rintro e w23 ⟨vs, rfl, ss, b23⟩
              have x23 := x22.trans (b23.mono x22.size)
              have sa3 := sa.below b23
              go_wp2_with fail
              refine (sameMap_eq _ _ all _ sa3 ss (by omega)).mono ?_
              rintro e w24 ⟨rfl, b24⟩
              have x24 := x23.trans (b24.mono x23.size)
              have sa4 := sa3.below b24
              go_wp2_with fail
              refine (specMapOk _ all _ sa4 (by omega)).mono ?_
              rintro e w25 ⟨rfl, b25⟩
              rw [HB.out]
              go_wp2
              go_ret
              exact ⟨rfl, x24.trans (b25.mono x24.size)⟩
end Go.Proofs.Ytmbmflhcimkjpaa

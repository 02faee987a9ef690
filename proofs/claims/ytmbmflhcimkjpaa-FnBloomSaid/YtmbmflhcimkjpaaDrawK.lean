
/- Walks: the draws of keys. -/
import Derived.Test.YtmbmflhcimkjpaaDrawT
import Derived.Test.YtmbmflhcimkjpaaFBloomP
set_option linter.unusedVariables false
set_option linter.unusedSimpArgs false
namespace Go.Proofs.Ytmbmflhcimkjpaa
open Go.RowKit Sp Go.Sort
theorem own_form {w : World} {base e size n : Nat} {v : Value} {xs : List Value} (h : w.ownsRow base e size v n xs) : ∃ ao cp, v = .slice ao n cp := by
  rcases h.2 with ⟨h1, h2⟩ | ⟨g, cap, cur, hv, _⟩
  · exact ⟨none, 0, by rw [h1, h2]⟩
  · exact ⟨_, cap, hv⟩
set_option maxRecDepth 100000 in
set_option maxHeartbeats 800000 in
theorem l10Keys_any (b : Nat) (w0 : World) (v : Value) (xs : List UInt8) (w : World) (h : Cu w b w0 v xs) :
    Calls Try.prog 103 #[.pointer (some ⟨b, 0, none⟩)] w fun e w' => ∃ (u : Value) (l : List ByteArray), e = .returned u ∧ w'.ownsRow w.heap.size 9 1 u l.length (l.map strCells).flatten ∧ (∀ x ∈ l, (x.size : Int) ≤ 1048576) ∧ (l.length : Int) ≤ 1000 ∧ Cu w' b w0 v xs ∧ w.grownBy w' (some b) := by
  have hlt := h.lt
  have hle := h.old_le
  have hal : ∀ (W : World) (o : Obj), RowKit.Below W.heap.size W (W.alloc o) := fun W o => (Below.refl _ _).alloc (Nat.le_refl _) _
  have h0 : (w.alloc (.cells #[] 9)).ownsRow w.heap.size 9 1 (.slice (some ⟨w.heap.size, 0, none⟩) 0 0) 0 (([] : List ByteArray).map strCells).flatten := World.ownsRow_lit w #[] 0 (Nat.le_refl _) (by simp [maxLen]) rfl
  have c0 := h.below (hal w (.cells #[] 9))
  have g0 := grown_below (World.grownBy.refl w (some b)) (hal w (.cells #[] 9))
  go_enter Try.func103, Try.ntmps103
  go_wp2_with fail
  refine (l1Below_any b w0 v xs 8 (by decide) _ c0).mono ?_
  rintro e w1 ⟨n0, rfl, hn0, _, c1, g1⟩
  have o1 := own_grown h0 g1 (fun k hk e => by have := (h0.lt _ hk).1; have := Option.some.inj e; omega)
  have q1 := grown2 g0 g1
  have hn0 := hn0 (by decide)
  clear h0 c0 g0 g1
  go_wp2_with fail
  go_loopw [3, 4] (fun o n wr => ∃ (r kk : Nat) (l : List ByteArray), n = .int .i64 r ∧ RowKit.Hid (l.length = kk ∧ ∀ x ∈ l, (x.size : Int) ≤ 1048576) ∧ wr.ownsRow w.heap.size 9 1 o kk (l.map strCells).flatten ∧ kk + r ≤ 8 ∧ Cu wr b w0 v xs ∧ w.grownBy wr (some b)) (fun _ n _ => (intOf n).toNat)
  case atStart => exact ⟨n0, 0, [], rfl, ⟨rfl, by simp⟩, o1, by omega, c1, q1⟩
  case round =>
    clear o1 c1 q1
    obtain ⟨r, kk, l, rfl, hkl, ho, hr, c3, q3⟩ := hrel
    by_cases hr0 : 0 < r
    · have R1 : IntKind.i64.wrap ((r : Int) - 1) = ((r - 1 : Nat) : Int) := by rw [IntKind.wrap_i64]; omega
      go_wp2_with fail
      refine (l1Text_any b w0 v xs 4 (by decide) _ c3).mono ?_
      rintro e w4 ⟨t, rfl, ht, c4, g4⟩
      have o4 := own_grown ho g4 (fun k hk e => by have := (ho.lt _ hk).1; have := Option.some.inj e; omega)
      have q4 := grown2 q3 g4
      go_wp2_with (at_builtin; go_loud (refine app_new rfl rfl Try.underlying43 info_Str rfl (by decide) o4 rfl 1 (by simp [Act.eval]) rfl (by simp [Value.oneCell']) (by omega) (Below.refl w.heap.size w4) (Nat.le_refl _) q4.size ?_; intro v8 w8 r8 x8 g8))
      have c8 := c4.grown g8 (fun e => by have := (o4.lt _ e).1; omega) (fun k e => by have := (o4.lt _ e).1; omega)
      have q8 := grown_own q4 g8 (fun k e => (o4.lt _ e).1)
      obtain ⟨gg, cap, rfl⟩ := own_slD r8 (by omega)
      have HN := Lib.hid (show (l ++ [t]).length = kk + 1 ∧ ∀ x ∈ l ++ [t], (x.size : Int) ≤ 1048576 from ⟨by simp [hkl.out.1], fun x hx => by
        rcases List.mem_append.1 hx with hx | hx
        · exact hkl.out.2 x hx
        · obtain rfl := List.mem_singleton.1 hx; omega⟩)
      go_roundw
      case rel => exact ⟨r - 1, kk + 1, l ++ [t], rfl, HN, by simpa [strCells] using r8, by omega, c8, q8⟩
      case measure => simp [intOf]; omega
    · obtain rfl : r = 0 := by omega
      go_wp2_with fail
      refine (l1Once_any b w0 v xs 30 (by decide) _ c3).mono ?_
      rintro e w4 ⟨on, rfl, c4, g4⟩
      have o4 := own_grown ho g4 (fun k hk e => by have := (ho.lt _ hk).1; have := Option.some.inj e; omega)
      have q4 := grown2 q3 g4
      clear c3 q3 ho
      cases on
      · go_wp2
        go_ret
        obtain rfl := hkl.out.1
        exact ⟨_, l, rfl, o4, hkl.out.2, by omega, c4, q4⟩
      · go_wp2_with fail
        refine (l1Below_any b w0 v xs 2 (by decide) _ c4).mono ?_
        rintro e w5 ⟨n5, rfl, hn5, _, c5, g5⟩
        have o5 := own_grown o4 g5 (fun k hk e => by have := (o4.lt _ hk).1; have := Option.some.inj e; omega)
        have q5 := grown2 q4 g5
        have hn5 := hn5 (by decide)
        have N1 : IntKind.i64.wrap (60 + (n5 : Int)) = ((60 + n5 : Nat) : Int) := by rw [IntKind.wrap_i64]; omega
        clear o4 q4 c4 g5 g4
        go_wp2_with fail
        obtain ⟨ao, cp, rfl⟩ := own_form o5
        go_loopw [3] (fun o wr => ∃ (kk : Nat) (l : List ByteArray) (ao : Option Addr) (cp : Nat), o = .slice ao kk cp ∧ RowKit.Hid (l.length = kk ∧ ∀ x ∈ l, (x.size : Int) ≤ 1048576) ∧ wr.ownsRow w.heap.size 9 1 o kk (l.map strCells).flatten ∧ kk ≤ 70 ∧ Cu wr b w0 v xs ∧ w.grownBy wr (some b)) (fun o _ => 70 - (match o with | .slice _ n _ => n | _ => 0))
        case atStart => exact ⟨kk, l, ao, cp, rfl, hkl, o5, by omega, c5, q5⟩
        case round =>
          clear o5 c5 q5 hkl
          obtain ⟨kk, l, ao, cp, rfl, hkl, ho, hr, c3, q3⟩ := hrel
          by_cases hk : (kk : Int) < ((60 + n5 : Nat) : Int)
          · go_wp2_with (at_builtin; go_loud (refine app_new rfl rfl Try.underlying43 info_Str rfl (by decide) ho rfl 1 (by simp [Act.eval]) rfl (by simp [Value.oneCell']) (by omega) (Below.refl w.heap.size wr) (Nat.le_refl _) q3.size ?_; intro v8 w8 r8 x8 g8))
            have c8 := c3.grown g8 (fun e => by have := (ho.lt _ e).1; omega) (fun k e => by have := (ho.lt _ e).1; omega)
            have q8 := grown_own q3 g8 (fun k e => (ho.lt _ e).1)
            obtain ⟨gg, cap, rfl⟩ := own_slD r8 (by omega)
            have HN := Lib.hid (show (l ++ [(⟨#[107]⟩ : ByteArray)]).length = kk + 1 ∧ ∀ x ∈ l ++ [(⟨#[107]⟩ : ByteArray)], (x.size : Int) ≤ 1048576 from ⟨by simp [hkl.out.1], fun x hx => by
              rcases List.mem_append.1 hx with hx | hx
              · exact hkl.out.2 x hx
              · obtain rfl := List.mem_singleton.1 hx; decide⟩)
            go_roundw
            case rel => exact ⟨kk + 1, _, _, _, rfl, HN, by simpa [strCells] using r8, by omega, c8, q8⟩
            case measure => simp; omega
          · go_wp2
            go_ret
            obtain rfl := hkl.out.1
            exact ⟨_, rfl, l, ho, hkl.out.2, by omega, c3, q3⟩

set_option maxRecDepth 100000 in
set_option maxHeartbeats 800000 in
theorem drawBloomOf_any (v : Value) (xs : List UInt8) (w : World) (h : SlT bytC 1 w v xs) (hs : (xs.length : Int) ≤ 1048576) :
    Calls Try.prog 21 #[v] w fun e w' => ∃ (u : Value) (l : List ByteArray) (n : Int), e = .returned (.tuple #[u, .int .i64 n]) ∧ SlT strCells 1 w' u l ∧ (∀ x ∈ l, (x.size : Int) ≤ 1048576) ∧ (l.length : Int) ≤ 1000 ∧ inI64 n ∧ Below w.heap.size w w' := by
  go_enter Try.func21, Try.ntmps21
  go_wp2_with fail
  refine (l1New_any v xs _ h hs).mono ?_
  rintro e w1 ⟨b, rfl, c1, b1⟩
  go_wp2_with fail
  refine (l10Keys_any b w v xs _ c1).mono ?_
  rintro e w2 ⟨u, l, rfl, o2, hl, hn, c2, g2⟩
  go_wp2_with fail
  have hb1 := c1.lt
  have hb2 := c2.lt
  have hal : ∀ (W : World) (o : Obj), RowKit.Below W.heap.size W (W.alloc o) := fun W o => (Below.refl _ _).alloc (Nat.le_refl _) _
  have hl0 : SlT intC 1 (w2.alloc (.cells #[.int .i64 1, .int .i64 2, .int .i64 8, .int .i64 64, .int .i64 65, .int .i64 0] 3)) (.slice (some ⟨w2.heap.size, 0, none⟩) 6 6) [1, 2, 8, 64, 65, 0] :=
    lit_slT intC #[.int .i64 1, .int .i64 2, .int .i64 8, .int .i64 64, .int .i64 65, .int .i64 0] _ 6 w2 3 rfl (fun _ => rfl) rfl (by decide)
  have c3 := c2.below (hal w2 (.cells #[.int .i64 1, .int .i64 2, .int .i64 8, .int .i64 64, .int .i64 65, .int .i64 0] 3))
  have o3 := own_below o2 (hal w2 (.cells #[.int .i64 1, .int .i64 2, .int .i64 8, .int .i64 64, .int .i64 65, .int .i64 0] 3))
  refine (l1PickInt_any b w v xs _ c3 _ _ hl0 (fun a n c e _ => by simp only [Value.slice.injEq, Option.some.injEq] at e; rw [← e.1]; show w2.heap.size ≠ b; omega) (by decide) (by decide)).mono ?_
  rintro e w4 ⟨n, hn4, rfl, c4, g4⟩
  have o4 := own_grown o3 g4 (fun k hk e => by have := (o3.lt _ hk).1; have := Option.some.inj e; omega)
  go_wp2
  refine bodyPost_ret (v := .tuple #[u, .int .i64 n]) (by simp [results, Try.results21, go_sem]) rfl ⟨u, l, n, rfl, SlT.of_own o4 (fun _ => rfl) (by decide), hl, hn, ?_, c4.bel⟩
  simp only [List.mem_cons, List.not_mem_nil, or_false] at hn4
  unfold inI64
  omega

set_option maxRecDepth 100000 in
set_option maxHeartbeats 800000 in
theorem drawBloomMay_any (v : Value) (xs : List UInt8) (w : World) (h : SlT bytC 1 w v xs) (hs : (xs.length : Int) ≤ 1048576) :
    Calls Try.prog 25 #[v] w fun e w' => ∃ (c k : ByteArray), e = .returned (.tuple #[.string c, .string k]) ∧ (c.size : Int) ≤ 1048576 ∧ (k.size : Int) ≤ 1048576 ∧ Below w.heap.size w w' := by
  go_enter Try.func25, Try.ntmps25
  go_wp2_with fail
  refine (l1New_any v xs _ h hs).mono ?_
  rintro e w1 ⟨b, rfl, c1, b1⟩
  go_wp2_with fail
  refine (l10Keys_any b w v xs _ c1).mono ?_
  rintro e w2 ⟨u, l, rfl, o2, hl, hn, c2, g2⟩
  go_wp2_with fail
  have hb1 := c1.lt
  have hb2 := c2.lt
  have hal : ∀ (W : World) (o : Obj), RowKit.Below W.heap.size W (W.alloc o) := fun W o => (Below.refl _ _).alloc (Nat.le_refl _) _
  have hl0 : SlT intC 1 (w2.alloc (.cells #[.int .i64 1, .int .i64 2, .int .i64 8, .int .i64 64] 3)) (.slice (some ⟨w2.heap.size, 0, none⟩) 4 4) [1, 2, 8, 64] :=
    lit_slT intC #[.int .i64 1, .int .i64 2, .int .i64 8, .int .i64 64] _ 4 w2 3 rfl (fun _ => rfl) rfl (by decide)
  have c3 := c2.below (hal w2 (.cells #[.int .i64 1, .int .i64 2, .int .i64 8, .int .i64 64] 3))
  have o3 := own_below o2 (hal w2 (.cells #[.int .i64 1, .int .i64 2, .int .i64 8, .int .i64 64] 3))
  refine (l1PickInt_any b w v xs _ c3 _ _ hl0 (fun a n c e _ => by simp only [Value.slice.injEq, Option.some.injEq] at e; rw [← e.1]; show w2.heap.size ≠ b; omega) (by decide) (by decide)).mono ?_
  rintro e w4 ⟨n, hn4, rfl, c4, g4⟩
  have o4 := own_grown o3 g4 (fun k hk e => by have := (o3.lt _ hk).1; have := Option.some.inj e; omega)
  have s4 : SlT strCells 1 w4 u l := SlT.of_own o4 (fun _ => rfl) (by decide)
  have hn5 : n ≤ 64 := by
    simp only [List.mem_cons, List.not_mem_nil, or_false] at hn4
    omega
  go_wp2_with fail
  refine (specBloomOf u l n _ s4 hl (by omega)).mono ?_
  rintro e w5 ⟨rfl, b5⟩
  have hz : ((str (bloomL l n)).size : Int) ≤ 1048576 := by
    rw [str_size]
    rcases bloomL_len l n with h | h
    · rw [h]; decide
    · omega
  have c5 := c4.below b5
  have s5 := s4.below b5
  have hne := fun g (e : u.ownBlock = some g) => (o4.lt g e).1
  obtain ⟨ao, cap, rfl, hlc, hcm, hsh⟩ := s5.shape
  clear hl0 c1 c2 c3 o2 o3 o4 g2 g4 b1 b5 s4
  by_cases h0 : 0 < l.length
  · have h0' : (0 : Int) < l.length := by omega
    obtain ⟨gb, off, rfl, hgl, hcell⟩ := hsh h0
    go_wp2_with fail
    refine (l1Once_any b w v xs 2 (by decide) _ c5).mono ?_
    rintro e w6 ⟨on, rfl, c6, g6⟩
    have s6 : w6.cell? ⟨gb, off, none⟩ = some (.string l[0]) := by
      have := hcell 0 h0 0 (.string l[0]) rfl
      rw [Nat.zero_mul, Nat.add_zero] at this
      have hgb : w1.heap.size ≤ gb := hne gb (by simp [Value.ownBlock])
      exact ((gcell g6 (b := gb) hgl (by intro e; have := Option.some.inj e; omega)).1 _).trans this
    cases on
    · go_wp2_with fail
      refine (l1Text_any b w v xs 4 (by decide) _ c6).mono ?_
      rintro e w7 ⟨t, rfl, ht, c7, g7⟩
      go_wp2
      refine bodyPost_ret (v := .tuple #[.string (str (bloomL l n)), .string t]) (by simp [results, Try.results25, go_sem]) rfl ⟨_, _, rfl, hz, by omega, c7.bel⟩
    · go_wp2
      go_region
      go_wp2
      refine bodyPost_ret (v := .tuple #[.string (str (bloomL l n)), .string l[0]]) (by simp [results, Try.results25, go_sem]) rfl ⟨_, _, rfl, hz, hl _ (List.getElem_mem h0), c6.bel.drew⟩
  · have h0' : ¬ (0 : Int) < l.length := by omega
    go_wp2_with fail
    refine (l1Text_any b w v xs 4 (by decide) _ c5).mono ?_
    rintro e w7 ⟨t, rfl, ht, c7, g7⟩
    go_wp2
    refine bodyPost_ret (v := .tuple #[.string (str (bloomL l n)), .string t]) (by simp [results, Try.results25, go_sem]) rfl ⟨_, _, rfl, hz, by omega, c7.bel⟩
end Go.Proofs.Ytmbmflhcimkjpaa

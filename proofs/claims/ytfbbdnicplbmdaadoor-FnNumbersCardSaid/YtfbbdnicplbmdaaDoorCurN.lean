
/- Walks: the draws' numbers and texts, their very answers. -/
import Derived.Test.YtfbbdnicplbmdaaDoorCurX
set_option linter.unusedVariables false
set_option linter.unusedSimpArgs false
namespace Go.Proofs.YtfbbdnicplbmdaaDoor
open Go.RowKit Sp Go.Sort
namespace Sp
def csNums : List Int := [-1, 0, 127, 128, 255, 256, 16383, 16384, 65535, 65536, 562949953421311, 562949953421312, 999999999, 1000000000, -999999999, 9223372036854775807, -9223372036854775808]
def csNum (xs : List UInt8) (c : CsR) : Int × CsR :=
  let a := csBelow xs 8 c
  if a.1 = 0 then (csNums.getD (csBelow xs 17 a.2).1 0, (csBelow xs 17 a.2).2)
  else if a.1 = 1 then (((csBelow xs 1000000000 a.2).1 : Int) * ((csBelow xs 1000000000 (csBelow xs 1000000000 a.2).2).1 : Int), (csBelow xs 1000000000 (csBelow xs 1000000000 a.2).2).2)
  else if a.1 = 2 then (-((csBelow xs 100000 a.2).1 : Int), (csBelow xs 100000 a.2).2)
  else (((csBelow xs 70000 a.2).1 : Int), (csBelow xs 70000 a.2).2)
def csT (st : Nat) (x : Nat) : Int := if st = 1 then (x : Int) % 2 else if st = 2 then 97 + (x : Int) % 4 else x
def csLoop (xs : List UInt8) (st : Nat) : Nat → List UInt8 → CsR → List UInt8 × CsR
  | 0, l, c => (l, c)
  | r + 1, l, c => csLoop xs st r (l ++ [UInt8.ofNat (csT st (csByte xs c).1).toNat]) (csByte xs c).2
def csText (xs : List UInt8) (most : Nat) (c : CsR) : ByteArray × CsR :=
  (str (csLoop xs (csBelow xs 4 c).1 (csBelow xs ((most : Int) + 1) (csBelow xs 4 c).2).1 [] (csBelow xs ((most : Int) + 1) (csBelow xs 4 c).2).2).1,
    (csLoop xs (csBelow xs 4 c).1 (csBelow xs ((most : Int) + 1) (csBelow xs 4 c).2).1 [] (csBelow xs ((most : Int) + 1) (csBelow xs 4 c).2).2).2)
end Sp

set_option maxRecDepth 100000 in
set_option maxHeartbeats 800000 in
theorem l1Once_ex (b : Nat) (w0 : World) (v : Value) (xs : List UInt8) (n : Int) (hn : n ≤ 4611686018427387904) (c : CsR) (w : World) (h : CuX w b w0 v xs c) :
    Calls Tryd.prog 24 #[.pointer (some ⟨b, 0, none⟩), .int .i64 n] w fun e w' => e = .returned (.bool (decide (((csBelow xs n c).1 : Int) = 0))) ∧ CuX w' b w0 v xs (csBelow xs n c).2 ∧ w.grownBy w' (some b) := by
  go_enter Tryd.func24, Tryd.ntmps24
  go_wp2_with fail
  refine (l1Below_ex b w0 v xs n hn c _ h).mono ?_
  rintro e w1 ⟨rfl, c1, g1⟩
  obtain ⟨⟨r, c2⟩, hB⟩ : ∃ p, csBelow xs n c = p := ⟨_, rfl⟩
  rw [hB] at c1 ⊢
  have HB := Lib.hid hB
  clear hB
  dsimp only at c1 ⊢
  go_wp2
  go_ret
  rw [HB.out]
  exact ⟨by first | rfl | simp, c1, g1⟩

set_option maxRecDepth 100000 in
set_option maxHeartbeats 800000 in
theorem l1PickInt_ex (b : Nat) (w0 : World) (v : Value) (xs : List UInt8) (c : CsR) (w : World) (h : CuX w b w0 v xs c) (vl : Value) (l : List Int) (hl : SlT intC 1 w vl l) (hb : ∀ a n c, vl = .slice (some a) n c → 0 < n → a.block ≠ b) (h0 : 0 < l.length) (hl2 : (l.length : Int) ≤ 1000) :
    Calls Tryd.prog 27 #[.pointer (some ⟨b, 0, none⟩), vl] w fun e w' => e = .returned (.int .i64 (l.getD (csBelow xs (l.length : Int) c).1 0)) ∧ CuX w' b w0 v xs (csBelow xs (l.length : Int) c).2 ∧ w.grownBy w' (some b) := by
  obtain ⟨ao, cap, rfl, hlc, hcm, hsh⟩ := hl.shape
  go_enter Tryd.func27, Tryd.ntmps27
  go_wp2_with fail
  refine (l1Below_ex b w0 v xs (l.length : Int) (by omega) c _ h).mono ?_
  rintro e w1 ⟨rfl, c1, g1⟩
  have hk := csBelow_lt xs (l.length : Int) c (by omega)
  obtain ⟨⟨k, c2⟩, hB⟩ : ∃ p, csBelow xs (l.length : Int) c = p := ⟨_, rfl⟩
  rw [hB] at c1 hk ⊢
  have HB := Lib.hid hB
  clear hB
  dsimp only at c1 hk ⊢
  have hkl : k < l.length := by omega
  obtain ⟨gb, off, rfl, hgl, hcell⟩ := hsh h0
  have ce : w1.cell? ⟨gb, off + k, none⟩ = some (.int .i64 l[k]) := by
    have := hcell k hkl 0 (.int .i64 l[k]) rfl
    rw [Nat.mul_one, Nat.add_zero] at this
    exact ((gcell g1 (b := gb) hgl (by intro e; exact hb _ _ _ rfl h0 (Option.some.inj e).symm)).1 _).trans this
  have hget := Lib.hid (show l.getD k 0 = l[k] from by rw [List.getD_eq_getElem?_getD, List.getElem?_eq_getElem hkl]; rfl)
  go_wp2
  go_ret
  rw [HB.out]
  dsimp only
  rw [hget.out]
  exact ⟨rfl, c1, g1⟩

set_option maxRecDepth 100000 in
set_option maxHeartbeats 800000 in
theorem l1Text_ex (b : Nat) (w0 : World) (v : Value) (xs : List UInt8) (most : Nat) (hm : (most : Int) ≤ 1000) (c : CsR) (w : World) (h : CuX w b w0 v xs c) :
    Calls Tryd.prog 18 #[.pointer (some ⟨b, 0, none⟩), .int .i64 most] w fun e w' => e = .returned (.string (csText xs most c).1) ∧ (((csText xs most c).1.size : Int) ≤ most) ∧ CuX w' b w0 v xs (csText xs most c).2 ∧ w.grownBy w' (some b) := by
  have hlt := h.lt
  have hle := h.old_le
  have hal : ∀ (W : World) (o : Obj), RowKit.Below W.heap.size W (W.alloc o) := fun W o => (Below.refl _ _).alloc (Nat.le_refl _) _
  have h0 : (w.alloc (.cells #[] 5)).ownsRow w.heap.size 5 1 (.slice (some ⟨w.heap.size, 0, none⟩) 0 0) 0 (([] : List UInt8).map B) := World.ownsRow_lit w #[] 0 (Nat.le_refl _) (by simp [maxLen]) rfl
  have c0 := h.below (hal w (.cells #[] 5))
  have g0 := grown_below (World.grownBy.refl w (some b)) (hal w (.cells #[] 5))
  have M1 : IntKind.i64.wrap ((most : Int) + 1) = (most : Int) + 1 := by rw [IntKind.wrap_i64]; omega
  have HB := Lib.hid (show csText xs most c = (str (csLoop xs (csBelow xs 4 c).1 (csBelow xs ((most : Int) + 1) (csBelow xs 4 c).2).1 [] (csBelow xs ((most : Int) + 1) (csBelow xs 4 c).2).2).1,
    (csLoop xs (csBelow xs 4 c).1 (csBelow xs ((most : Int) + 1) (csBelow xs 4 c).2).1 [] (csBelow xs ((most : Int) + 1) (csBelow xs 4 c).2).2).2) from rfl)
  go_enter Tryd.func18, Tryd.ntmps18
  go_wp2_with fail
  refine (l1Below_ex b w0 v xs 4 (by decide) c _ c0).mono ?_
  rintro e w1 ⟨rfl, c1, g1⟩
  have hst := csBelow_lt xs 4 c (by decide)
  generalize csBelow xs 4 c = r1 at *
  obtain ⟨st, d1⟩ := r1
  dsimp only at HB hst c1 ⊢
  have o1 := own_grown h0 g1 (fun k hk e => by have := (h0.lt _ hk).1; have := Option.some.inj e; omega)
  have q1 := grown2 g0 g1
  go_wp2_with fail
  refine (l1Below_ex b w0 v xs ((most : Int) + 1) (by omega) d1 _ c1).mono ?_
  rintro e w2 ⟨rfl, c2, g2⟩
  have hn0 := csBelow_lt xs ((most : Int) + 1) d1 (by omega)
  generalize csBelow xs ((most : Int) + 1) d1 = r2 at *
  obtain ⟨n0, d2⟩ := r2
  dsimp only at HB hn0 c2 ⊢
  have o2 := own_grown o1 g2 (fun k hk e => by have := (o1.lt _ hk).1; have := Option.some.inj e; omega)
  have q2 := grown2 q1 g2
  obtain ⟨res, hres⟩ : ∃ res, csLoop xs st n0 [] d2 = res := ⟨_, rfl⟩
  rw [hres] at HB
  have HR := Lib.hid hres
  clear h0 c0 g0 c1 g1 o1 q1 g2 hres
  go_wp2_with fail
  go_loopw [5, 7] (fun o n wr => ∃ (r : Nat) (l : List UInt8) (kk : Nat) (cc : CsR), n = .int .i64 r ∧ RowKit.Hid (l.length = kk) ∧ RowKit.Hid (csLoop xs st r l cc = res) ∧ wr.ownsRow w.heap.size 5 1 o kk (l.map B) ∧ kk + r ≤ most ∧ CuX wr b w0 v xs cc ∧ w.grownBy wr (some b)) (fun _ n _ => (intOf n).toNat)
  case atStart => exact ⟨n0, [], 0, d2, rfl, rfl, HR.out, o2, by omega, c2, q2⟩
  case round =>
    clear o2 c2 q2 HR
    obtain ⟨r, l, kk, cc, rfl, hkl, HR, ho, hr, c3, q3⟩ := hrel
    by_cases hr0 : 0 < r
    · have R1 : IntKind.i64.wrap ((r : Int) - 1) = ((r - 1 : Nat) : Int) := by rw [IntKind.wrap_i64]; omega
      have HR2 := Lib.hid (show csLoop xs st (r - 1) (l ++ [UInt8.ofNat (csT st (csByte xs cc).1).toNat]) (csByte xs cc).2 = res from by
        obtain ⟨r', rfl⟩ : ∃ r', r = r' + 1 := ⟨r - 1, by omega⟩
        exact HR.out)
      clear HR
      go_wp2_with fail
      refine (l1Byte_ex b w0 v xs cc _ c3).mono ?_
      rintro e w4 ⟨rfl, c4, g4⟩
      have hx := csByte_le xs cc
      generalize csByte xs cc = rx at *
      obtain ⟨x, d4⟩ := rx
      dsimp only at HR2 hx c4 ⊢
      have o4 := own_grown ho g4 (fun k hk e => by have := (ho.lt _ hk).1; have := Option.some.inj e; omega)
      have q4 := grown2 q3 g4
      have T2 := tmod_nat x 2
      have T4 := tmod_nat x 4
      rcases (by omega : st = 1 ∨ st = 2 ∨ (st ≠ 1 ∧ st ≠ 2)) with rfl | rfl | ⟨s1, s2⟩
      · have HT := Lib.hid (show csT 1 x = (x : Int) % 2 from rfl)
        rw [HT.out] at HR2
        clear HT
        go_wp2_with (at_builtin; go_loud (refine app_new rfl rfl Tryd.underlying22 info_u8 rfl (by decide) o4 rfl 1 (by simp [Act.eval]) rfl (by simp [Value.oneCell']) (by omega) (Below.refl w.heap.size w4) (Nat.le_refl _) q4.size ?_; intro v8 w8 r8 x8 g8))
        have c8 := c4.grown g8 (fun e => by have := (o4.lt _ e).1; omega) (fun k e => by have := (o4.lt _ e).1; omega)
        have q8 := grown_own q4 g8 (fun k e => (o4.lt _ e).1)
        have r9 := own_byte r8 (by omega)
        obtain ⟨gg, cap, rfl⟩ := own_slD r9 (by omega)
        go_roundw
        case rel => exact ⟨r - 1, rfl, l ++ [UInt8.ofNat ((x : Int) % 2 : Int).toNat], kk + 1, (by rw [List.length_append, hkl.out]; rfl), d4, HR2.out, r9, by omega, c8, q8⟩
        case measure => simp [intOf]; omega
      · have HT := Lib.hid (show csT 2 x = 97 + (x : Int) % 4 from rfl)
        rw [HT.out] at HR2
        clear HT
        go_wp2_with (at_builtin; go_loud (refine app_new rfl rfl Tryd.underlying22 info_u8 rfl (by decide) o4 rfl 1 (by simp [Act.eval]) rfl (by simp [Value.oneCell']) (by omega) (Below.refl w.heap.size w4) (Nat.le_refl _) q4.size ?_; intro v8 w8 r8 x8 g8))
        have c8 := c4.grown g8 (fun e => by have := (o4.lt _ e).1; omega) (fun k e => by have := (o4.lt _ e).1; omega)
        have q8 := grown_own q4 g8 (fun k e => (o4.lt _ e).1)
        have r9 := own_byte r8 (by omega)
        obtain ⟨gg, cap, rfl⟩ := own_slD r9 (by omega)
        go_roundw
        case rel => exact ⟨r - 1, rfl, l ++ [UInt8.ofNat (97 + (x : Int) % 4 : Int).toNat], kk + 1, (by rw [List.length_append, hkl.out]; rfl), d4, HR2.out, r9, by omega, c8, q8⟩
        case measure => simp [intOf]; omega
      · have s1' : ¬ (st : Int) = 1 := by omega
        have s2' : ¬ (st : Int) = 2 := by omega
        have HT := Lib.hid (show csT st x = (x : Int) from by unfold csT; rw [if_neg s1, if_neg s2])
        rw [HT.out] at HR2
        clear HT
        go_wp2_with (at_builtin; go_loud (refine app_new rfl rfl Tryd.underlying22 info_u8 rfl (by decide) o4 rfl 1 (by simp [Act.eval]) rfl (by simp [Value.oneCell']) (by omega) (Below.refl w.heap.size w4) (Nat.le_refl _) q4.size ?_; intro v8 w8 r8 x8 g8))
        have c8 := c4.grown g8 (fun e => by have := (o4.lt _ e).1; omega) (fun k e => by have := (o4.lt _ e).1; omega)
        have q8 := grown_own q4 g8 (fun k e => (o4.lt _ e).1)
        have r9 := own_byte r8 (by omega)
        obtain ⟨gg, cap, rfl⟩ := own_slD r9 (by omega)
        go_roundw
        case rel => exact ⟨r - 1, l ++ [UInt8.ofNat ((x : Int) : Int).toNat], kk + 1, d4, rfl, (by rw [List.length_append, hkl.out]; rfl), HR2.out, r9, by omega, c8, q8⟩
        case measure => simp [intOf]; omega
    · obtain rfl : r = 0 := by omega
      have HE := Lib.hid (show res = (l, cc) from HR.out.symm)
      rw [HE.out] at HB
      have kc := conv_owns (P := Tryd.prog) (dst := 9) ho Tryd.underlying22 Tryd.underlying5 Tryd.underlying9
      clear HR
      go_wp2
      go_ret
      rw [HB.out]
      exact ⟨rfl, by rw [str_size]; have := hkl.out; omega, c3, q3⟩
end Go.Proofs.YtfbbdnicplbmdaaDoor


/- Walks: the draws' spoilt text, and DrawReadVar, DrawVar, DrawHex, their very answers. -/
import Derived.Test.YtfbbdnicplbmdaaDoorCurM
import Derived.Test.YtfbbdnicplbmdaaDoorVarW
set_option linter.unusedVariables false
set_option linter.unusedSimpArgs false
namespace Go.Proofs.YtfbbdnicplbmdaaDoor
open Go.RowKit Sp Go.Sort
namespace Sp
def csAt (s : ByteArray) (k : Nat) : UInt8 := if h : k < s.size then s[k] else 0
def csLow (x : Nat) : UInt8 := UInt8.ofNat (IntKind.u8.wrap (x : Int)).toNat
def csFlip (y : UInt8) (x : Nat) : UInt8 := UInt8.ofNat (IntKind.u8.wrap (bits .xor .i64 (IntKind.i64.wrap (y.toNat : Int)) (IntKind.i64.wrap (1 + (x : Int))))).toNat
def csSpoil (xs : List UInt8) (s : ByteArray) (c : CsR) : ByteArray :=
  if s.size = 0 then (csText xs 3 c).1
  else if (csBelow xs 4 (csBelow xs (s.size : Int) c).2).1 = 0 then s.extract 0 (csBelow xs (s.size : Int) c).1 ++ s.extract ((csBelow xs (s.size : Int) c).1 + 1) s.size
  else if (csBelow xs 4 (csBelow xs (s.size : Int) c).2).1 = 1 then s.extract 0 (csBelow xs (s.size : Int) c).1 ++ str [csLow (csByte xs (csBelow xs 4 (csBelow xs (s.size : Int) c).2).2).1] ++ s.extract (csBelow xs (s.size : Int) c).1 s.size
  else if (csBelow xs 4 (csBelow xs (s.size : Int) c).2).1 = 2 then s.extract 0 (csBelow xs (s.size : Int) c).1
  else s.extract 0 (csBelow xs (s.size : Int) c).1 ++ str [csFlip (csAt s (csBelow xs (s.size : Int) c).1) (csBelow xs 255 (csBelow xs 4 (csBelow xs (s.size : Int) c).2).2).1] ++ s.extract ((csBelow xs (s.size : Int) c).1 + 1) s.size
end Sp
set_option maxRecDepth 100000 in
set_option maxHeartbeats 1600000 in
theorem l1Spoil_ex (b : Nat) (w0 : World) (v : Value) (xs : List UInt8) (s : ByteArray) (hs : (s.size : Int) ≤ 1000000) (c : CsR) (w : World) (h : CuX w b w0 v xs c) :
    Calls Tryd.prog 25 #[.pointer (some ⟨b, 0, none⟩), .string s] w fun e w' => e = .returned (.string (csSpoil xs s c)) ∧ ((csSpoil xs s c).size : Int) ≤ 1048576 ∧ w.grownBy w' (some b) := by
  by_cases hz : s.size = 0
  · have hz' : (s.size : Int) = 0 := by omega
    have HB := Lib.hid (show csSpoil xs s c = (csText xs 3 c).1 from by unfold csSpoil; rw [if_pos hz])
    go_enter Tryd.func25, Tryd.ntmps25
    go_wp2_with fail
    refine (l1Text_ex b w0 v xs 3 (by decide) c _ h).mono ?_
    rintro e w1 ⟨rfl, ht, c1, g1⟩
    generalize csText xs 3 c = r at *
    go_wp2
    go_ret
    rw [HB.out]
    exact ⟨rfl, by omega, g1⟩
  · have hz' : ¬ (s.size : Int) = 0 := by omega
    have HB := Lib.hid (show csSpoil xs s c = (if (csBelow xs 4 (csBelow xs (s.size : Int) c).2).1 = 0 then s.extract 0 (csBelow xs (s.size : Int) c).1 ++ s.extract ((csBelow xs (s.size : Int) c).1 + 1) s.size
      else if (csBelow xs 4 (csBelow xs (s.size : Int) c).2).1 = 1 then s.extract 0 (csBelow xs (s.size : Int) c).1 ++ str [csLow (csByte xs (csBelow xs 4 (csBelow xs (s.size : Int) c).2).2).1] ++ s.extract (csBelow xs (s.size : Int) c).1 s.size
      else if (csBelow xs 4 (csBelow xs (s.size : Int) c).2).1 = 2 then s.extract 0 (csBelow xs (s.size : Int) c).1
      else s.extract 0 (csBelow xs (s.size : Int) c).1 ++ str [csFlip (csAt s (csBelow xs (s.size : Int) c).1) (csBelow xs 255 (csBelow xs 4 (csBelow xs (s.size : Int) c).2).2).1] ++ s.extract ((csBelow xs (s.size : Int) c).1 + 1) s.size) from by unfold csSpoil; rw [if_neg hz])
    go_enter Tryd.func25, Tryd.ntmps25
    go_wp2_with fail
    refine (l1Below_ex b w0 v xs (s.size : Int) (by omega) c _ h).mono ?_
    rintro e w1 ⟨rfl, c1, g1⟩
    have hk := csBelow_lt xs (s.size : Int) c (by omega)
    generalize csBelow xs (s.size : Int) c = r1 at *
    obtain ⟨k, d1⟩ := r1
    dsimp only at HB hk c1 ⊢
    go_wp2_with fail
    refine (l1Below_ex b w0 v xs 4 (by decide) d1 _ c1).mono ?_
    rintro e w2 ⟨rfl, c2, g2⟩
    have hsw := csBelow_lt xs 4 d1 (by decide)
    generalize csBelow xs 4 d1 = r2 at *
    obtain ⟨sw, d2⟩ := r2
    dsimp only at HB hsw c2 ⊢
    have q2 := grown2 g1 g2
    clear c1 g1 g2
    have K1 : IntKind.i64.wrap ((k : Int) + 1) = (k : Int) + 1 := by rw [IntKind.wrap_i64]; omega
    have K2 : ((k : Int) + 1).toNat = k + 1 := by omega
    have z1 : (s.extract 0 k).size = k := by rw [ByteArray.size_extract]; omega
    have z2 : (s.extract (k + 1) s.size).size = s.size - (k + 1) := by rw [ByteArray.size_extract]; omega
    have z3 : (s.extract k s.size).size = s.size - k := by rw [ByteArray.size_extract]; omega
    rcases (by omega : sw = 0 ∨ sw = 1 ∨ sw = 2 ∨ sw = 3) with rfl | rfl | rfl | rfl
    · rw [if_pos rfl] at HB
      have f1 : ¬ 9223372036854775807 < k + (s.size - (k + 1)) := by omega
      have f2 : (k : Int) ≤ s.size := by omega
      have f3 : (k : Int) + 1 ≤ s.size := by omega
      have f4 : (0 : Int) ≤ (k : Int) + 1 := by omega
      go_wp2_with fail
      go_region
      go_wp2
      go_ret
      rw [HB.out]
      exact ⟨rfl, by rw [ByteArray.size_append, z1, z2]; omega, grown_drewN q2 1⟩
    · rw [if_neg (by decide), if_pos rfl] at HB
      have f1 : ¬ 9223372036854775807 < k + 1 := by omega
      have f5 : ¬ 9223372036854775807 < k + 1 + (s.size - k) := by omega
      have f2 : (k : Int) ≤ s.size := by omega
      have c3 := c2.below (below_drewS w2)
      have hs1 : ∀ c : UInt8, (str [c]).size = 1 := fun _ => rfl
      have cv := fun W x => conv_one (P := Tryd.prog) (src := 22) (dst := 9) Tryd.underlying22 Tryd.underlying5 Tryd.underlying9 W x
      have hy := csByte_le xs d2
      go_wp2_with fail
      go_region_with (go_at_call 28; refine (l1Byte_ex b w0 v xs d2 _ c3).mono ?_; rintro e w3 ⟨rfl, c4, g4⟩)
      all_goals
        go_wp2
        go_ret
        rw [HB.out]
        exact ⟨rfl, by rw [ByteArray.size_append, ByteArray.size_append, z1, z3, hs1]; omega, grown_below (grown2 q2 (drew_grown g4)) (hal3 _ _)⟩
    · rw [if_neg (by decide), if_neg (by decide), if_pos rfl] at HB
      have f2 : (k : Int) ≤ s.size := by omega
      go_wp2
      go_ret
      rw [HB.out]
      exact ⟨rfl, by rw [z1]; omega, q2⟩
    · rw [if_neg (by decide), if_neg (by decide), if_neg (by decide), show csAt s k = s[k] from dif_pos (by omega)] at HB
      have f1 : ¬ 9223372036854775807 < k + 1 := by omega
      have f5 : ¬ 9223372036854775807 < k + 1 + (s.size - (k + 1)) := by omega
      have f2 : (k : Int) ≤ s.size := by omega
      have f3 : (k : Int) + 1 ≤ s.size := by omega
      have f4 : (0 : Int) ≤ (k : Int) + 1 := by omega
      have c3 := c2.below (below_drewS w2)
      have hs1 : ∀ c : UInt8, (str [c]).size = 1 := fun _ => rfl
      have cv := fun W x => conv_one (P := Tryd.prog) (src := 22) (dst := 9) Tryd.underlying22 Tryd.underlying5 Tryd.underlying9 W x
      have hy := csBelow_lt xs 255 d2 (by decide)
      go_wp2_with fail
      go_region_with (go_at_call 26; refine (l1Below_ex b w0 v xs 255 (by decide) d2 _ c3).mono ?_; rintro e w3 ⟨rfl, c4, g4⟩)
      all_goals
        go_wp2
        go_ret
        rw [HB.out]
        exact ⟨rfl, by rw [ByteArray.size_append, ByteArray.size_append, z1, z2, hs1]; omega, grown_below (grown2 q2 (drew_grown g4)) (hal3 _ _)⟩
namespace Sp
def drSum (xs : List UInt8) : ByteArray := str (varL (csNum xs (csNew xs)).1) ++ (csText xs 4 (csNum xs (csNew xs)).2).1
def drVar (xs : List UInt8) : ByteArray :=
  if (csBelow xs 4 (csText xs 4 (csNum xs (csNew xs)).2).2).1 = 0 then csSpoil xs (drSum xs) (csBelow xs 4 (csText xs 4 (csNum xs (csNew xs)).2).2).2 else drSum xs
end Sp
set_option maxRecDepth 100000 in
set_option maxHeartbeats 1600000 in
theorem drawReadVar_ex (v : Value) (xs : List UInt8) (w : World) (h : SlT bytC 1 w v xs) (hs : (xs.length : Int) ≤ 1048576) :
    Calls Tryd.prog 15 #[v] w fun e w' => e = .returned (.string (drVar xs)) ∧ ((drVar xs).size : Int) ≤ 1048576 ∧ Below w.heap.size w w' := by
  have HB := Lib.hid (show drVar xs = (if (csBelow xs 4 (csText xs 4 (csNum xs (csNew xs)).2).2).1 = 0 then csSpoil xs (str (varL (csNum xs (csNew xs)).1) ++ (csText xs 4 (csNum xs (csNew xs)).2).1) (csBelow xs 4 (csText xs 4 (csNum xs (csNew xs)).2).2).2 else str (varL (csNum xs (csNew xs)).1) ++ (csText xs 4 (csNum xs (csNew xs)).2).1) from rfl)
  go_enter Tryd.func15, Tryd.ntmps15
  go_wp2_with fail
  refine (l1New_ex v xs _ h hs).mono ?_
  rintro e w1 ⟨b, rfl, c1, b1⟩
  have lo1 := c1.lo
  generalize csNew xs = d0 at *
  go_wp2_with fail
  refine (l1Num_ex b w v xs d0 _ c1).mono ?_
  rintro e w2 ⟨rfl, hn, c2, g2⟩
  have x2 : RowKit.Below w.heap.size w w2 := b1.grown g2 b1.size (fun k e => by have := Option.some.inj e; omega)
  generalize csNum xs d0 = r1 at *
  obtain ⟨n, d1⟩ := r1
  dsimp only at HB hn c2 ⊢
  clear b1 c1 g2
  go_wp2_with fail
  refine (specVar n _).mono ?_
  rintro e w3 ⟨rfl, b3⟩
  have x3 := x2.trans (b3.mono x2.size)
  have c3 := c2.below b3
  have hv := varL_length n
  have hv2 : ((str (varL n)).size : Int) ≤ 7 := by rw [str_size]; omega
  generalize str (varL n) = vn at *
  clear x2 c2 b3
  go_wp2_with fail
  refine (l1Text_ex b w v xs 4 (by decide) d1 _ c3).mono ?_
  rintro e w4 ⟨rfl, ht, c4, g4⟩
  have x4 : RowKit.Below w.heap.size w w4 := x3.grown g4 x3.size (fun k e => by have := Option.some.inj e; omega)
  generalize csText xs 4 d1 = r2 at *
  obtain ⟨t, d2⟩ := r2
  dsimp only at HB ht c4 ⊢
  clear x3 c3 g4
  have hsz : ¬ 9223372036854775807 < vn.size + t.size := by omega
  have hsz2 : ((vn ++ t).size : Int) ≤ 1000 := by rw [ByteArray.size_append]; omega
  go_wp2_with fail
  refine (l1Once_ex b w v xs 4 (by decide) d2 _ c4).mono ?_
  rintro e w5 ⟨rfl, c5, g5⟩
  have x5 : RowKit.Below w.heap.size w w5 := x4.grown g5 x4.size (fun k e => by have := Option.some.inj e; omega)
  generalize csBelow xs 4 d2 = r3 at *
  obtain ⟨q, d3⟩ := r3
  dsimp only at HB c5 ⊢
  generalize vn ++ t = s at *
  clear x4 c4 g5
  by_cases hq : q = 0
  · rw [if_pos hq] at HB
    rw [decide_eq_true (show (q : Int) = 0 by omega)]
    go_wp2_with fail
    refine (l1Spoil_ex b w v xs s (by omega) d3 _ c5).mono ?_
    rintro e w6 ⟨rfl, hz, g6⟩
    generalize csSpoil xs s d3 = u at *
    have x6 : RowKit.Below w.heap.size w w6 := x5.grown g6 x5.size (fun k e => by have := Option.some.inj e; omega)
    go_wp2
    go_ret
    rw [HB.out]
    exact ⟨rfl, hz, x6⟩
  · rw [if_neg hq] at HB
    rw [decide_eq_false (show ¬ (q : Int) = 0 by omega)]
    go_wp2
    go_ret
    rw [HB.out]
    exact ⟨rfl, by omega, x5⟩

set_option maxRecDepth 100000 in
set_option maxHeartbeats 800000 in
theorem drawVar_any (v : Value) (xs : List UInt8) (w : World) (h : SlT bytC 1 w v xs) (hs : (xs.length : Int) ≤ 1048576) :
    Calls Tryd.prog 5 #[v] w fun e w' => ∃ n, e = .returned (.int .i64 n) ∧ inI64 n ∧ Below w.heap.size w w' := by
  go_enter Tryd.func5, Tryd.ntmps5
  go_wp2_with fail
  refine (l1New_ex v xs _ h hs).mono ?_
  rintro e w1 ⟨b, rfl, c1, b1⟩
  have lo1 := c1.lo
  generalize csNew xs = d0 at *
  go_wp2_with fail
  refine (l1Num_ex b w v xs d0 _ c1).mono ?_
  rintro e w2 ⟨rfl, hn, c2, g2⟩
  have x2 : RowKit.Below w.heap.size w w2 := b1.grown g2 b1.size (fun k e => by have := Option.some.inj e; omega)
  generalize csNum xs d0 = r1 at *
  go_wp2
  go_ret
  exact ⟨_, rfl, hn, x2⟩

set_option maxRecDepth 100000 in
set_option maxHeartbeats 800000 in
theorem drawHex_any (v : Value) (xs : List UInt8) (w : World) (h : SlT bytC 1 w v xs) (hs : (xs.length : Int) ≤ 1048576) :
    Calls Tryd.prog 6 #[v] w fun e w' => ∃ t : ByteArray, e = .returned (.string t) ∧ (t.size : Int) ≤ 40 ∧ Below w.heap.size w w' := by
  go_enter Tryd.func6, Tryd.ntmps6
  go_wp2_with fail
  refine (l1New_ex v xs _ h hs).mono ?_
  rintro e w1 ⟨b, rfl, c1, b1⟩
  have lo1 := c1.lo
  generalize csNew xs = d0 at *
  go_wp2_with fail
  refine (l1Text_ex b w v xs 40 (by decide) d0 _ c1).mono ?_
  rintro e w2 ⟨rfl, ht, c2, g2⟩
  have x2 : RowKit.Below w.heap.size w w2 := b1.grown g2 b1.size (fun k e => by have := Option.some.inj e; omega)
  generalize csText xs 40 d0 = r1 at *
  go_wp2
  go_ret
  exact ⟨_, rfl, ht, x2⟩
end Go.Proofs.YtfbbdnicplbmdaaDoor

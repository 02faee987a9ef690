
/- Walks: the draws' numbers of all kinds, their very answers. -/
import Derived.Test.YtfbbdnicplbmdaaDoorCurN
set_option linter.unusedVariables false
set_option linter.unusedSimpArgs false
namespace Go.Proofs.YtfbbdnicplbmdaaDoor
open Go.RowKit Sp Go.Sort
namespace Sp
def csH1 (z : Int) (y : UInt8) : Int := bits .and .i64 (wrap64 (wrap64 (wrap64 (z * 131) + wrap64 (y.toNat : Int)) + 7)) 1073741823
def csHash (xs : List UInt8) : Nat → Int
  | 0 => 10101 + xs.length
  | k + 1 => match xs[k]? with
    | some y => csH1 (csHash xs k) y
    | none => csHash xs k
def csNew (xs : List UInt8) : CsR := ⟨0, csHash xs (min xs.length 4000)⟩
end Sp
theorem hal4 (W : World) (o : Obj) : RowKit.Below W.heap.size W (W.alloc o) := (Below.refl _ _).alloc (Nat.le_refl _) _
theorem grown_belowX {w a c : World} {r : Option Nat} (h : w.grownBy a r) (k : Below a.heap.size a c) : w.grownBy c r := grown_below h k
/-- One of a literal list of numbers. -/
theorem pickIntX (b : Nat) (w0 : World) (v : Value) (xs : List UInt8) (c : CsR) (w : World) (h : CuX w b w0 v xs c) (cs : Array Value) (l : List Int) (n : Nat) (T : TypeId) (hl : (l.map intC).flatten = cs.toList) (hc : cs.size = n * 1) (hn : n ≤ 1000) (h0 : 0 < l.length) (hl2 : l.length = n) :
    Calls Tryd.prog 27 #[.pointer (some ⟨b, 0, none⟩), .slice (some ⟨w.heap.size, 0, none⟩) n n] (w.alloc (.cells cs T)) fun e w' => e = .returned (.int .i64 (l.getD (csBelow xs (l.length : Int) c).1 0)) ∧ CuX w' b w0 v xs (csBelow xs (l.length : Int) c).2 ∧ w.grownBy w' (some b) := by
  have hb := h.lt
  refine (l1PickInt_ex b w0 v xs c _ (h.below (hal4 w _)) _ l (lit_slT intC cs l n w T hl (fun _ => rfl) hc hn) (fun a n c e _ => by simp only [Value.slice.injEq, Option.some.injEq] at e; rw [← e.1]; show w.heap.size ≠ b; omega) h0 (by omega)).mono ?_
  rintro e w' ⟨rfl, hc', hg⟩
  exact ⟨rfl, hc', grown2 (grown_below (World.grownBy.refl w (some b)) (hal4 w _)) hg⟩

set_option maxRecDepth 100000 in
set_option maxHeartbeats 1600000 in
theorem l1Num_ex (b : Nat) (w0 : World) (v : Value) (xs : List UInt8) (c : CsR) (w : World) (h : CuX w b w0 v xs c) :
    Calls Tryd.prog 17 #[.pointer (some ⟨b, 0, none⟩)] w fun e w' => e = .returned (.int .i64 (csNum xs c).1) ∧ inI64 (csNum xs c).1 ∧ CuX w' b w0 v xs (csNum xs c).2 ∧ w.grownBy w' (some b) := by
  have HB := Lib.hid (show csNum xs c = (if (csBelow xs 8 c).1 = 0 then (csNums.getD (csBelow xs 17 (csBelow xs 8 c).2).1 0, (csBelow xs 17 (csBelow xs 8 c).2).2)
  else if (csBelow xs 8 c).1 = 1 then (((csBelow xs 1000000000 (csBelow xs 8 c).2).1 : Int) * ((csBelow xs 1000000000 (csBelow xs 1000000000 (csBelow xs 8 c).2).2).1 : Int), (csBelow xs 1000000000 (csBelow xs 1000000000 (csBelow xs 8 c).2).2).2)
  else if (csBelow xs 8 c).1 = 2 then (-((csBelow xs 100000 (csBelow xs 8 c).2).1 : Int), (csBelow xs 100000 (csBelow xs 8 c).2).2)
  else (((csBelow xs 70000 (csBelow xs 8 c).2).1 : Int), (csBelow xs 70000 (csBelow xs 8 c).2).2)) from rfl)
  go_enter Tryd.func17, Tryd.ntmps17
  go_wp2_with fail
  refine (l1Below_ex b w0 v xs 8 (by decide) c _ h).mono ?_
  rintro e w1 ⟨rfl, c1, g1⟩
  have h8 := csBelow_lt xs 8 c (by decide)
  generalize csBelow xs 8 c = r1 at *
  obtain ⟨sw, d1⟩ := r1
  dsimp only at HB h8 c1 ⊢
  rcases (by omega : sw = 0 ∨ sw = 1 ∨ sw = 2 ∨ (3 : Int) ≤ (sw : Int)) with rfl | rfl | rfl | hsw
  · rw [if_pos rfl] at HB
    go_wp2_with fail
    refine (pickIntX b w0 v xs d1 _ c1 _ csNums 17 _ rfl rfl (by decide) (by decide) rfl).mono ?_
    rintro e w2 ⟨rfl, c2, g2⟩
    have hlt := csBelow_lt xs 17 d1 (by decide)
    have e17 : (csNums.length : Int) = 17 := rfl
    rw [e17] at c2 ⊢
    clear e17
    generalize csBelow xs 17 d1 = r2 at *
    obtain ⟨k, d2⟩ := r2
    dsimp only at HB hlt c2 ⊢
    have hin : inI64 (csNums.getD k 0) := by
      have hm : csNums.getD k 0 ∈ csNums := by
        rw [List.getD_eq_getElem?_getD, List.getElem?_eq_getElem (show k < csNums.length from by show k < 17; omega)]
        exact List.getElem_mem _
      generalize csNums.getD k 0 = y at *
      simp only [csNums, List.mem_cons, List.not_mem_nil, or_false] at hm
      unfold inI64
      omega
    generalize csNums.getD k 0 = y at *
    go_wp2
    go_ret
    rw [HB.out]
    exact ⟨rfl, hin, c2, grown2 g1 g2⟩
  · rw [if_neg (by decide), if_pos rfl] at HB
    go_wp2_with fail
    refine (l1Below_ex b w0 v xs 1000000000 (by decide) d1 _ c1).mono ?_
    rintro e w2 ⟨rfl, c2, g2⟩
    have hx := csBelow_lt xs 1000000000 d1 (by decide)
    generalize csBelow xs 1000000000 d1 = r2 at *
    obtain ⟨x, d2⟩ := r2
    dsimp only at HB hx c2 ⊢
    go_wp2_with fail
    refine (l1Below_ex b w0 v xs 1000000000 (by decide) d2 _ c2).mono ?_
    rintro e w3 ⟨rfl, c3, g3⟩
    have hy := csBelow_lt xs 1000000000 d2 (by decide)
    generalize csBelow xs 1000000000 d2 = r3 at *
    obtain ⟨y, d3⟩ := r3
    dsimp only at HB hy c3 ⊢
    have hp : 0 ≤ (x : Int) * (y : Int) ∧ (x : Int) * (y : Int) ≤ 1000000000 * 1000000000 := ⟨Int.mul_nonneg (by omega) (by omega), Int.mul_le_mul (by omega) (by omega) (by omega) (by omega)⟩
    have hw : wrap64 ((x : Int) * (y : Int)) = (x : Int) * (y : Int) := by unfold wrap64; omega
    have hw2 : IntKind.i64.wrap ((x : Int) * (y : Int)) = (x : Int) * (y : Int) := by rw [IntKind.wrap_i64]; omega
    go_wp2
    go_ret
    rw [HB.out]
    exact ⟨by first | rfl | rw [hw] | rw [hw2], by unfold inI64; omega, c3, grown2 (grown2 g1 g2) g3⟩
  · rw [if_neg (by decide), if_neg (by decide), if_pos rfl] at HB
    go_wp2_with fail
    refine (l1Below_ex b w0 v xs 100000 (by decide) d1 _ c1).mono ?_
    rintro e w2 ⟨rfl, c2, g2⟩
    have hx := csBelow_lt xs 100000 d1 (by decide)
    generalize csBelow xs 100000 d1 = r2 at *
    obtain ⟨x, d2⟩ := r2
    dsimp only at HB hx c2 ⊢
    have hw : wrap64 (-(x : Int)) = -(x : Int) := by unfold wrap64; omega
    have hw2 : IntKind.i64.wrap (-(x : Int)) = -(x : Int) := by rw [IntKind.wrap_i64]; omega
    go_wp2
    go_ret
    rw [HB.out]
    exact ⟨by first | rfl | rw [hw] | rw [hw2], by show inI64 (-(x : Int)); unfold inI64; omega, c2, grown2 g1 g2⟩
  · rw [if_neg (by omega), if_neg (by omega), if_neg (by omega)] at HB
    have n0 : ¬ (sw : Int) = 0 := by omega
    have n1 : ¬ (sw : Int) = 1 := by omega
    have n2 : ¬ (sw : Int) = 2 := by omega
    go_wp2_with fail
    refine (l1Below_ex b w0 v xs 70000 (by decide) d1 _ c1).mono ?_
    rintro e w2 ⟨rfl, c2, g2⟩
    have hx := csBelow_lt xs 70000 d1 (by decide)
    generalize csBelow xs 70000 d1 = r2 at *
    obtain ⟨x, d2⟩ := r2
    dsimp only at HB hx c2 ⊢
    go_wp2
    go_ret
    rw [HB.out]
    exact ⟨rfl, by show inI64 (x : Int); unfold inI64; omega, c2, grown2 g1 g2⟩

set_option maxRecDepth 100000 in
set_option maxHeartbeats 800000 in
theorem l1New_ex (v : Value) (xs : List UInt8) (w : World) (h : SlT bytC 1 w v xs) (hs : (xs.length : Int) ≤ 1048576) :
    Calls Tryd.prog 16 #[v] w fun e w' => ∃ b, e = .returned (.pointer (some ⟨b, 0, none⟩)) ∧ CuX w' b w v xs (csNew xs) ∧ Below w.heap.size w w' := by
  obtain ⟨ao, cap, rfl, hlc, hcm, hsh⟩ := h.shape
  have hal : ∀ (W : World) (o : Obj), RowKit.Below W.heap.size W (W.alloc o) := fun W o => (Below.refl _ _).alloc (Nat.le_refl _) _
  go_enter Tryd.func16, Tryd.ntmps16
  go_wp2
  go_loopw [3, 4] (fun hv i wr => ∃ (k : Nat) (z : Int), hv = .int .i64 z ∧ RowKit.Hid (z = csHash xs k) ∧ inI64 z ∧ i = .int .i64 k ∧ k ≤ xs.length ∧ (k : Int) ≤ 4000 ∧ wr = w) (fun _ i _ => 4000 - (intOf i).toNat)
  case atStart => exact ⟨0, 10101 + xs.length, rfl, rfl, ⟨by omega, by omega⟩, rfl, by omega, by omega, rfl⟩
  case round =>
    obtain ⟨k, z, rfl, HZ, hz, rfl, hk, hk4, rfl⟩ := hrel
    by_cases hgo : k < xs.length ∧ k < 4000
    · obtain ⟨g1, g2⟩ := hgo
      obtain ⟨gb, off, rfl, hgl, hcell⟩ := hsh (by omega)
      have ce : wr.cell? ⟨gb, off + k, none⟩ = some (.int .u8 (xs[k].toNat : Int)) := by
        have := hcell k g1 0 (B xs[k]) rfl
        rwa [Nat.mul_one, Nat.add_zero] at this
      have K1 : IntKind.i64.wrap ((k : Int) + 1) = ((k + 1 : Nat) : Int) := by rw [IntKind.wrap_i64]; omega
      have HS := Lib.hid (show csHash xs (k + 1) = csH1 z xs[k] from by rw [HZ.out]; show (match xs[k]? with | some y => csH1 (csHash xs k) y | none => csHash xs k) = _; rw [List.getElem?_eq_getElem g1])
      generalize xs[k] = y at *
      go_wp2
      go_roundw
      case rel => exact ⟨k + 1, _, rfl, HS.out.symm, and_in _ _, by go_num, g1, by omega, trivial⟩
      case measure => simp [intOf]; omega
    · have hgo2 : (k : Int) < xs.length → ¬ (k : Int) < 4000 := fun h1 h2 => hgo ⟨by omega, by omega⟩
      have HE := Lib.hid (show csNew xs = ⟨0, z⟩ from by rw [HZ.out]; unfold csNew; rw [show min xs.length 4000 = k from by omega])
      go_wp2
      all_goals
        go_ret
        refine ⟨_, rfl, ?_, hal _ _⟩
        rw [HE.out]
        exact ⟨Bx.new wr _ _, Nat.zero_le _, hz, h, hal _ _, Nat.le_refl _, hs⟩
end Go.Proofs.YtfbbdnicplbmdaaDoor

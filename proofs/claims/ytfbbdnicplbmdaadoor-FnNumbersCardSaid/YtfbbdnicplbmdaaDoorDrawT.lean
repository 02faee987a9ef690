
/- Walks: the draws' text, and a new cursor. -/
import Derived.Test.YtfbbdnicplbmdaaDoorDrawB
import Derived.Lib.AppendIntMem
set_option linter.unusedVariables false
set_option linter.unusedSimpArgs false
namespace Go.Proofs.YtfbbdnicplbmdaaDoor
open Go.RowKit Sp Go.Sort
/-- What grows a block of one's own, or lays new ones, leaves the rest alone. -/
theorem grown_own {w a c : World} {b : Nat} {r : Option Nat} (h : w.grownBy a (some b)) (k : a.grownBy c r) (hr : ∀ g, r = some g → w.heap.size ≤ g) : w.grownBy c (some b) :=
  ⟨k.os.trans h.os, k.tape.trans h.tape, k.output.trans h.output, Nat.le_trans h.size k.size, fun i hi hne => (k.block i (Nat.lt_of_lt_of_le hi h.size) (fun e => by have := hr i e.symm; omega)).trans (h.block i hi hne)⟩
theorem grown_below {w a c : World} {r : Option Nat} (h : w.grownBy a r) (k : Below a.heap.size a c) : w.grownBy c r :=
  ⟨k.os.trans h.os, k.tape.trans h.tape, k.output.trans h.output, Nat.le_trans h.size k.size, fun i hi hne => (k.block i (Nat.lt_of_lt_of_le hi h.size)).trans (h.block i hi hne)⟩
theorem Cu.old_le {w : World} {b : Nat} {w0 : World} {v : Value} {xs : List UInt8} (h : Cu w b w0 v xs) : w0.heap.size ≤ w.heap.size := h.bel.size

theorem own_slD {w : World} {base e size n : Nat} {v : Value} {xs : List Value} (h : w.ownsRow base e size v n xs) (hn : 0 < n) : ∃ g cap, v = .slice (some ⟨g, 0, none⟩) n cap := by
  rcases h.2 with ⟨_, h0⟩ | ⟨g, cap, cur, hv, _⟩
  · omega
  · exact ⟨g, cap, hv⟩
theorem own_form {w : World} {base e size n : Nat} {v : Value} {xs : List Value} (h : w.ownsRow base e size v n xs) : ∃ ao cp, v = .slice ao n cp := by
  rcases h.2 with ⟨h1, h2⟩ | ⟨g, cap, cur, hv, _⟩
  · exact ⟨none, 0, by rw [h1, h2]⟩
  · exact ⟨_, cap, hv⟩
theorem own_byte {w : World} {base e n : Nat} {v : Value} {l : List UInt8} {z : Int} (h : w.ownsRow base e 1 v n (l.map B ++ #[Value.int .u8 z].toList)) (hz : 0 ≤ z ∧ z ≤ 255) : w.ownsRow base e 1 v n ((l ++ [UInt8.ofNat z.toNat]).map B) := by
  rw [List.map_append, List.map_singleton, B_ofNat, Int.toNat_of_nonneg hz.1, Int.emod_eq_of_lt hz.1 (by omega)]
  exact h

set_option maxRecDepth 100000 in
set_option maxHeartbeats 800000 in
theorem l1Text_any (b : Nat) (w0 : World) (v : Value) (xs : List UInt8) (most : Nat) (hm : (most : Int) ≤ 1000) (w : World) (h : Cu w b w0 v xs) :
    Calls Tryd.prog 18 #[.pointer (some ⟨b, 0, none⟩), .int .i64 most] w fun e w' => ∃ t : ByteArray, e = .returned (.string t) ∧ (t.size : Int) ≤ most ∧ Cu w' b w0 v xs ∧ w.grownBy w' (some b) := by
  have hlt := h.lt
  have hle := h.old_le
  have hal : ∀ (W : World) (o : Obj), RowKit.Below W.heap.size W (W.alloc o) := fun W o => (Below.refl _ _).alloc (Nat.le_refl _) _
  have h0 : (w.alloc (.cells #[] 5)).ownsRow w.heap.size 5 1 (.slice (some ⟨w.heap.size, 0, none⟩) 0 0) 0 (([] : List UInt8).map B) := World.ownsRow_lit w #[] 0 (Nat.le_refl _) (by simp [maxLen]) rfl
  have c0 := h.below (hal w (.cells #[] 5))
  have g0 := grown_below (World.grownBy.refl w (some b)) (hal w (.cells #[] 5))
  have M1 : IntKind.i64.wrap ((most : Int) + 1) = (most : Int) + 1 := by rw [IntKind.wrap_i64]; omega
  go_enter Tryd.func18, Tryd.ntmps18
  go_wp2_with fail
  refine (l1Below_any b w0 v xs 4 (by decide) _ c0).mono ?_
  rintro e w1 ⟨st, rfl, hst, _, c1, g1⟩
  have o1 := own_grown h0 g1 (fun k hk e => by have := (h0.lt _ hk).1; have := Option.some.inj e; omega)
  have q1 := grown2 g0 g1
  go_wp2_with fail
  refine (l1Below_any b w0 v xs ((most : Int) + 1) (by omega) _ c1).mono ?_
  rintro e w2 ⟨n0, rfl, hn0, _, c2, g2⟩
  have o2 := own_grown o1 g2 (fun k hk e => by have := (o1.lt _ hk).1; have := Option.some.inj e; omega)
  have q2 := grown2 q1 g2
  have hn0 := hn0 (by omega)
  have hst := hst (by decide)
  clear h0 c0 g0 c1 g1 o1 q1 g2
  go_wp2_with fail
  go_loopw [5, 7] (fun o n wr => ∃ (r : Nat) (l : List UInt8) (kk : Nat), n = .int .i64 r ∧ RowKit.Hid (l.length = kk) ∧ wr.ownsRow w.heap.size 5 1 o kk (l.map B) ∧ kk + r ≤ most ∧ Cu wr b w0 v xs ∧ w.grownBy wr (some b)) (fun _ n _ => (intOf n).toNat)
  case atStart => exact ⟨n0, [], 0, rfl, rfl, o2, by omega, c2, q2⟩
  case round =>
    clear o2 c2 q2
    obtain ⟨r, l, kk, rfl, hkl, ho, hr, c3, q3⟩ := hrel
    by_cases hr0 : 0 < r
    · have R1 : IntKind.i64.wrap ((r : Int) - 1) = ((r - 1 : Nat) : Int) := by rw [IntKind.wrap_i64]; omega
      go_wp2_with fail
      refine (l1Byte_any b w0 v xs _ c3).mono ?_
      rintro e w4 ⟨x, rfl, hx, c4, g4⟩
      have o4 := own_grown ho g4 (fun k hk e => by have := (ho.lt _ hk).1; have := Option.some.inj e; omega)
      have q4 := grown2 q3 g4
      have T2 := tmod_nat x 2
      have T4 := tmod_nat x 4
      rcases (by omega : st = 1 ∨ st = 2 ∨ (st ≠ 1 ∧ st ≠ 2)) with rfl | rfl | ⟨s1, s2⟩
      · skip
        go_wp2_with (at_builtin; go_loud (refine app_new rfl rfl Tryd.underlying22 info_u8 rfl (by decide) o4 rfl 1 (by simp [Act.eval]) rfl (by simp [Value.oneCell']) (by omega) (Below.refl w.heap.size w4) (Nat.le_refl _) q4.size ?_; intro v8 w8 r8 x8 g8))
        have c8 := c4.grown g8 (fun e => by have := (o4.lt _ e).1; omega) (fun k e => by have := (o4.lt _ e).1; omega)
        have q8 := grown_own q4 g8 (fun k e => (o4.lt _ e).1)
        have r9 := own_byte r8 (by omega)
        obtain ⟨gg, cap, rfl⟩ := own_slD r9 (by omega)
        go_roundw
        case rel => exact ⟨r - 1, rfl, l ++ [UInt8.ofNat ((x : Int) % 2 : Int).toNat], kk + 1, (by rw [List.length_append, hkl.out]; rfl), r9, by omega, c8, q8⟩
        case measure => simp [intOf]; omega
      · skip
        go_wp2_with (at_builtin; go_loud (refine app_new rfl rfl Tryd.underlying22 info_u8 rfl (by decide) o4 rfl 1 (by simp [Act.eval]) rfl (by simp [Value.oneCell']) (by omega) (Below.refl w.heap.size w4) (Nat.le_refl _) q4.size ?_; intro v8 w8 r8 x8 g8))
        have c8 := c4.grown g8 (fun e => by have := (o4.lt _ e).1; omega) (fun k e => by have := (o4.lt _ e).1; omega)
        have q8 := grown_own q4 g8 (fun k e => (o4.lt _ e).1)
        have r9 := own_byte r8 (by omega)
        obtain ⟨gg, cap, rfl⟩ := own_slD r9 (by omega)
        go_roundw
        case rel => exact ⟨r - 1, rfl, l ++ [UInt8.ofNat (97 + (x : Int) % 4 : Int).toNat], kk + 1, (by rw [List.length_append, hkl.out]; rfl), r9, by omega, c8, q8⟩
        case measure => simp [intOf]; omega
      · have s1' : ¬ (st : Int) = 1 := by omega
        have s2' : ¬ (st : Int) = 2 := by omega
        go_wp2_with (at_builtin; go_loud (refine app_new rfl rfl Tryd.underlying22 info_u8 rfl (by decide) o4 rfl 1 (by simp [Act.eval]) rfl (by simp [Value.oneCell']) (by omega) (Below.refl w.heap.size w4) (Nat.le_refl _) q4.size ?_; intro v8 w8 r8 x8 g8))
        have c8 := c4.grown g8 (fun e => by have := (o4.lt _ e).1; omega) (fun k e => by have := (o4.lt _ e).1; omega)
        have q8 := grown_own q4 g8 (fun k e => (o4.lt _ e).1)
        have r9 := own_byte r8 (by omega)
        obtain ⟨gg, cap, rfl⟩ := own_slD r9 (by omega)
        go_roundw
        case rel => exact ⟨r - 1, l ++ [UInt8.ofNat ((x : Int) : Int).toNat], kk + 1, rfl, (by rw [List.length_append, hkl.out]; rfl), r9, by omega, c8, q8⟩
        case measure => simp [intOf]; omega
    · obtain rfl : r = 0 := by omega
      have kc := conv_owns (P := Tryd.prog) (dst := 9) ho Tryd.underlying22 Tryd.underlying5 Tryd.underlying9
      go_wp2
      go_ret
      exact ⟨str l, rfl, by rw [str_size]; have := hkl.out; omega, c3, q3⟩

theorem and_in (a c : Int) : inI64 (bits .and .i64 a c) := by
  show inI64 (IntKind.i64.wrap _)
  rw [IntKind.wrap_i64]
  unfold inI64; omega
set_option maxRecDepth 100000 in
set_option maxHeartbeats 800000 in
theorem l1New_any (v : Value) (xs : List UInt8) (w : World) (h : SlT bytC 1 w v xs) (hs : (xs.length : Int) ≤ 1048576) :
    Calls Tryd.prog 16 #[v] w fun e w' => ∃ b, e = .returned (.pointer (some ⟨b, 0, none⟩)) ∧ Cu w' b w v xs ∧ Below w.heap.size w w' := by
  obtain ⟨ao, cap, rfl, hlc, hcm, hsh⟩ := h.shape
  have hal : ∀ (W : World) (o : Obj), RowKit.Below W.heap.size W (W.alloc o) := fun W o => (Below.refl _ _).alloc (Nat.le_refl _) _
  go_enter Tryd.func16, Tryd.ntmps16
  go_wp2
  go_loopw [3, 4] (fun hv i wr => ∃ (k : Nat) (z : Int), hv = .int .i64 z ∧ inI64 z ∧ i = .int .i64 k ∧ k ≤ xs.length ∧ (k : Int) ≤ 4000 ∧ wr = w) (fun _ i _ => 4000 - (intOf i).toNat)
  case atStart => exact ⟨0, 10101 + xs.length, rfl, ⟨by omega, by omega⟩, rfl, by omega, by omega, rfl⟩
  case round =>
    obtain ⟨k, z, rfl, hz, rfl, hk, hk4, rfl⟩ := hrel
    by_cases hgo : k < xs.length ∧ k < 4000
    · obtain ⟨g1, g2⟩ := hgo
      obtain ⟨gb, off, rfl, hgl, hcell⟩ := hsh (by omega)
      have ce : wr.cell? ⟨gb, off + k, none⟩ = some (.int .u8 (xs[k].toNat : Int)) := by
        have := hcell k g1 0 (B xs[k]) rfl
        rwa [Nat.mul_one, Nat.add_zero] at this
      have K1 : IntKind.i64.wrap ((k : Int) + 1) = ((k + 1 : Nat) : Int) := by rw [IntKind.wrap_i64]; omega
      go_wp2
      go_roundw
      case rel => exact ⟨k + 1, _, rfl, and_in _ _, by go_num, g1, by omega, trivial⟩
      case measure => simp [intOf]; omega
    · have hgo2 : (k : Int) < xs.length → ¬ (k : Int) < 4000 := fun h1 h2 => hgo ⟨by omega, by omega⟩
      go_wp2
      all_goals
        go_ret
        exact ⟨_, rfl, ⟨⟨0, z, Bx.new wr _ _, Nat.zero_le _, hz⟩, h, hal _ _, Nat.le_refl _, hs⟩, hal _ _⟩
end Go.Proofs.YtfbbdnicplbmdaaDoor


/- Walks: the places of a key in a filter. -/
import Derived.Test.YtfbbdnicplbmdaaTypes
import Derived.Test.YtfbbdnicplbmdaaLaws
import Derived.Test.YtfbbdnicplbmdaaBloomP
import Derived.WalkKit
import Derived.WalkSpells
import Derived.WalkLawsBesides
import Derived.BigQuiet
import Derived.LoopN
import Derived.Lib.QuietBelow
import Derived.Lib.Hide
set_option linter.unusedVariables false
set_option linter.unusedSimpArgs false
namespace Go.Proofs.Ytfbbdnicplbmdaa
open Go.RowKit Sp Go.Sort
theorem bpos_0 (s : ByteArray) (n : Int) : bpos s n 0 = crcV s.data.toList % (8 * n) := by unfold bpos; congr 1; omega
theorem bpos_1 (s : ByteArray) (n : Int) : bpos s n 1 = (crcV s.data.toList + crcV (s.data.toList ++ [120])) % (8 * n) := by unfold bpos; congr 1; omega
theorem bpos_2 (s : ByteArray) (n : Int) : bpos s n 2 = (crcV s.data.toList + 2 * crcV (s.data.toList ++ [120])) % (8 * n) := by unfold bpos; congr 1
theorem key_x (s : ByteArray) : (s ++ ({ data := #[120] } : ByteArray)).data.toList = s.data.toList ++ [120] := by simp

set_option maxRecDepth 100000 in
set_option maxHeartbeats 400000 in
theorem bloomBits_any (s : ByteArray) (n : Int) (w : World) (hs : (s.size : Int) ≤ 1048576) (h1 : 1 ≤ n) (h2 : n ≤ 64) :
    Calls Try.prog 138 #[.string s, .int .i64 n] w fun e w' => e = .returned (.agg #[.int .i64 (bpos s n 0), .int .i64 (bpos s n 1), .int .i64 (bpos s n 2)]) ∧ Below w.heap.size w w' := by
  have HX := key_x s
  have ha := crcV_bd s.data.toList
  have hb := crcV_bd (s.data.toList ++ [120])
  have e0 := bpos_0 s n
  have e1 := bpos_1 s n
  have e2 := bpos_2 s n
  have q0 := bpos_bd s h1 0
  have q1 := bpos_bd s h1 1
  have q2 := bpos_bd s h1 2
  have HZ : ((s ++ ({ data := #[120] } : ByteArray)).size : Int) = s.size + 1 := by rw [ByteArray.size_append]; rfl
  have hn8 : ((8 : Int) * n == 0) = false := by simp; omega
  generalize hx : crcV s.data.toList = a at *
  have HA := Lib.hid hx
  clear hx
  generalize hy : crcV (s.data.toList ++ [120]) = y at *
  have HY := Lib.hid hy
  clear hy
  go_enter Try.func138, Try.ntmps138
  go_wp2_with (go_at_call 159; refine (implCrc _ _ (by omega)).mono ?_; rintro e w' ⟨rfl, rfl⟩; first | rw [HX, HY.out] | rw [HA.out])
  refine wp_loop_rounds 4 ?_
  rw [rounds_succ]; go_wp2
  rw [rounds_succ]; go_wp2
  rw [rounds_succ]; go_wp2
  rw [rounds_succ]; go_wp2
  rw [← e0, ← e1, ← e2]
  refine bodyPost_ret (v := .agg #[.int .i64 (bpos s n 0), .int .i64 (bpos s n 1), .int .i64 (bpos s n 2)]) (by simp [results, Try.results138, go_sem]) rfl ⟨rfl, ?_⟩
  exact ((Below.refl _ _).alloc (Nat.le_refl _) _).alloc (by simp) _

set_option maxRecDepth 100000 in
set_option maxHeartbeats 400000 in
theorem l10Bits_far (s : ByteArray) (n : Int) (w : World) (hs : (s.size : Int) ≤ 1048576) (h1 : 1 ≤ n) (h2 : n ≤ 64) :
    Calls Try.prog 171 #[.string s, .int .i64 n] w fun e w' => ∃ g, e = .returned (.slice (some ⟨g, 0, none⟩) 3 3) ∧ (∀ i, i < 3 → w'.cell? ⟨g, i, none⟩ = some (.int .i64 (bpos s n i))) ∧ g < w'.heap.size ∧ Below w.heap.size w w' ∧ w.heap.size ≤ g := by
  have HX := key_x s
  have ha := crcV_bd s.data.toList
  have hb := crcV_bd (s.data.toList ++ [120])
  have e0 := bpos_0 s n
  have e1 := bpos_1 s n
  have e2 := bpos_2 s n
  have q0 := bpos_bd s h1 0
  have q1 := bpos_bd s h1 1
  have q2 := bpos_bd s h1 2
  have HZ : ((s ++ ({ data := #[120] } : ByteArray)).size : Int) = s.size + 1 := by rw [ByteArray.size_append]; rfl
  generalize hx : crcV s.data.toList = a at *
  generalize hy : crcV (s.data.toList ++ [120]) = y at *
  have HA := Lib.hid hx
  have HY := Lib.hid hy
  clear hx hy
  have hn8 : ((8 : Int) * n == 0) = false := by simp; omega
  go_enter Try.func171, Try.ntmps171
  go_wp2_with (go_at_call 158; refine (specCrc _ _ (by omega)).mono ?_; rintro e w' ⟨rfl, rfl⟩; first | rw [HX, HY.out] | rw [HA.out])
  go_region
  rw [← e0, ← e1, ← e2]
  go_wp2
  go_ret
  refine ⟨_, rfl, ?_, by show _ < (w.heap.push _).size; rw [Array.size_push]; omega, below_drewN ((Below.refl _ _).alloc (Nat.le_refl _) _) 1, Nat.le_refl _⟩
  intro i hi
  have hc := cells_new w #[.int .i64 (bpos s n 0), .int .i64 (bpos s n 1), .int .i64 (bpos s n 2)] 3
  match i, hi with
  | 0, _ => exact hc 0 _ rfl
  | 1, _ => exact hc 1 _ rfl
  | 2, _ => exact hc 2 _ rfl
theorem l10Bits_any (s : ByteArray) (n : Int) (w : World) (hs : (s.size : Int) ≤ 1048576) (h1 : 1 ≤ n) (h2 : n ≤ 64) :
    Calls Try.prog 171 #[.string s, .int .i64 n] w fun e w' => ∃ g, e = .returned (.slice (some ⟨g, 0, none⟩) 3 3) ∧ (∀ i, i < 3 → w'.cell? ⟨g, i, none⟩ = some (.int .i64 (bpos s n i))) ∧ g < w'.heap.size ∧ Below w.heap.size w w' :=
  (l10Bits_far s n w hs h1 h2).mono fun e w' ⟨g, he, hc, hg, hb, _⟩ => ⟨g, he, hc, hg, hb⟩
end Go.Proofs.Ytfbbdnicplbmdaa

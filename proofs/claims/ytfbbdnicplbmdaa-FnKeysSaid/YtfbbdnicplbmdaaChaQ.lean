
/- Walks: words, rotations, quarter rounds. -/
import Derived.Test.YtfbbdnicplbmdaaChaP
import Derived.Test.YtfbbdnicplbmdaaTypes
import Derived.Test.YtfbbdnicplbmdaaLaws
import Derived.Test.YtfbbdnicplbmdaaTouch
import Derived.Test.YtfbbdnicplbmdaaIn
import Derived.WalkKit
import Derived.WalkSpells
import Derived.WalkLawsBesides
import Derived.BigQuiet
import Derived.Lib.Hide
set_option linter.unusedVariables false
set_option linter.unusedSimpArgs false
namespace Go.Proofs.Ytfbbdnicplbmdaa
namespace Sp
def W64 (f : Nat → Nat) : List Value := (List.range 16).map fun i => Value.int .i64 ((f i : Nat) : Int)
def W32 (f : Nat → Nat) : List Value := (List.range 16).map fun i => Value.int .u32 ((f i : Nat) : Int)
theorem set_words (mk : Nat → Value) (f : Nat → Nat) (a v : Nat) : ((List.range 16).map fun i => mk (f i)).set a (mk v) = (List.range 16).map fun i => mk (upd f a v i) := by
  apply List.ext_getElem (by simp)
  intro i h1 h2
  rw [List.getElem_set]
  by_cases h : a = i
  · subst h; simp [upd]
  · have h' : ¬ i = a := fun e => h e.symm
    rw [if_neg h]; simp [upd, h']
theorem W64_set (f : Nat → Nat) (a v : Nat) : (W64 f).set a (.int .i64 (v : Int)) = W64 (upd f a v) := set_words (fun x => .int .i64 ((x : Nat) : Int)) f a v
theorem W32_set (f : Nat → Nat) (a v : Nat) : (W32 f).set a (.int .u32 (v : Int)) = W32 (upd f a v) := set_words (fun x => .int .u32 ((x : Nat) : Int)) f a v
theorem upd_same (f : Nat → Nat) (a v : Nat) : upd f a v a = v := if_pos rfl
theorem upd_ne (f : Nat → Nat) {a j : Nat} (v : Nat) (h : j ≠ a) : upd f a v j = f j := if_neg h
theorem qr_steps (f : Nat → Nat) {a b c d : Nat} (hab : a ≠ b) (hac : a ≠ c) (had : a ≠ d) (hbc : b ≠ c) (hbd : b ≠ d) (hcd : c ≠ d) (a1 b1 c1 d1 a2 b2 c2 d2 : Nat) :
    upd (upd (upd (upd (upd (upd (upd (upd f a a1) d d1) c c1) b b1) a a2) d d2) c c2) b b2 = upd (upd (upd (upd f a a2) d d2) c c2) b b2 := by
  funext j
  unfold upd
  repeat' split
  all_goals first | rfl | (exfalso; omega) | simp_all
end Sp
open Go.RowKit Sp
theorem cell64 {w : World} {base e g cap : Nat} {f : Nat → Nat} (h : w.ownsRow base e 1 (.slice (some ⟨g, 0, none⟩) 16 cap) 16 (W64 f)) (i : Nat) (hi : i < 16) : w.cell? ⟨g, i, none⟩ = some (.int .i64 (f i : Int)) := by
  have := h.cells (g := g) rfl i (.int .i64 (f i : Int)) (by simp [W64, hi])
  rw [add_none, Nat.zero_add] at this; exact this
theorem cell32 {w : World} {base e g cap : Nat} {f : Nat → Nat} (h : w.ownsRow base e 1 (.slice (some ⟨g, 0, none⟩) 16 cap) 16 (W32 f)) (i : Nat) (hi : i < 16) : w.cell? ⟨g, i, none⟩ = some (.int .u32 (f i : Int)) := by
  have := h.cells (g := g) rfl i (.int .u32 (f i : Int)) (by simp [W32, hi])
  rw [add_none, Nat.zero_add] at this; exact this
theorem touch_drew {w wr : World} {g : Nat} (h : w.grownBy wr (some g)) : w.grownBy wr.drew (some g) := ⟨h.os, h.tape, h.output, h.size, h.block⟩
theorem set64 {w : World} {base e g cap : Nat} {f : Nat → Nat} (h : w.ownsRow base e 1 (.slice (some ⟨g, 0, none⟩) 16 cap) 16 (W64 f)) (i v : Nat) : (w.setCell ⟨g, i, none⟩ (.int .i64 (v : Int))).ownsRow base e 1 (.slice (some ⟨g, 0, none⟩) 16 cap) 16 (W64 (upd f i v)) := by
  have := (h.stored i (.int .i64 (v : Int))).1
  rw [W64_set] at this; exact this
theorem set32 {w : World} {base e g cap : Nat} {f : Nat → Nat} (h : w.ownsRow base e 1 (.slice (some ⟨g, 0, none⟩) 16 cap) 16 (W32 f)) (i v : Nat) : (w.setCell ⟨g, i, none⟩ (.int .u32 (v : Int))).ownsRow base e 1 (.slice (some ⟨g, 0, none⟩) 16 cap) 16 (W32 (upd f i v)) := by
  have := (h.stored i (.int .u32 (v : Int))).1
  rw [W32_set] at this; exact this

set_option maxRecDepth 100000 in
set_option maxHeartbeats 400000 in
theorem l3Word_any (x : Nat) (w : World) (hx : (x : Int) < 9223372036854775808) :
    Calls Try.prog 201 #[.int .i64 x] w fun e w' => e = .returned (.int .i64 (wd x : Nat)) ∧ w = w' := by
  have ha : bits .and .i64 (x : Int) 4294967295 = ((wd x : Nat) : Int) := by
    have h := i64_and x 4294967295 (by omega) (by omega)
    rw [and_word] at h; exact h
  have hl := wd_lt x
  go_enter Try.func201, Try.ntmps201
  go_wp2
  go_ret
  exact ⟨rfl, rfl⟩
theorem l3Word_add (x y : Nat) (w : World) (hx : x < 4294967296) (hy : y < 4294967296) :
    Calls Try.prog 201 #[.int .i64 ((x : Int) + (y : Int))] w fun e w' => e = .returned (.int .i64 (wd (x + y) : Nat)) ∧ w = w' := by
  rw [← Int.natCast_add]; exact l3Word_any _ _ (by omega)

set_option maxRecDepth 100000 in
set_option maxHeartbeats 400000 in
theorem l3Left_16 (x : Nat) (w : World) (hx : x < 4294967296) :
    Calls Try.prog 207 #[.int .i64 x, .int .u64 16] w fun e w' => e = .returned (.int .i64 (rot x 16 : Nat)) ∧ w = w' := by
  have ho : bits .or .i64 ((x : Int) * 65536) ((x : Int) / 65536) = ((x * 65536 ||| x / 65536 : Nat) : Int) := i64_or (x * 65536) (x / 65536) (by omega) (by omega)
  have hr : wd (x * 65536 ||| x / 65536) = rot x 16 := rot_wide (n := 16) hx
  have hlt : rot x 16 < 4294967296 := rot_lt hx
  have hor : x * 65536 ||| x / 65536 < 2 ^ 48 := Nat.or_lt_two_pow (by omega) (by omega)
  generalize x * 65536 ||| x / 65536 = y at *
  go_enter Try.func207, Try.ntmps207
  go_wp2_with (go_at_call 201; refine (l3Word_any y _ (by omega)).mono ?_; rintro e w' ⟨rfl, rfl⟩; rw [hr])
  go_ret
  exact ⟨rfl, rfl⟩
set_option maxRecDepth 100000 in
set_option maxHeartbeats 400000 in
theorem rotate_16 (x : Nat) (w : World) (hx : x < 4294967296) :
    Calls Try.prog 198 #[.int .u32 x, .int .i64 16] w fun e w' => e = .returned (.int .u32 (rot x 16 : Nat)) ∧ w = w' := by
  have hk : bits .and .u64 16 31 = 16 := by kernel_rfl
  have ho : bits .or .u32 ((x : Int) * 65536 % 4294967296) ((x : Int) / 65536) = ((x * 65536 % 4294967296 ||| x / 65536 : Nat) : Int) := u32_or (x * 65536 % 4294967296) (x / 65536) (by omega) (by omega)
  have hlt : rot x 16 < 4294967296 := rot_lt hx
  have hq : (x * 65536 % 4294967296 ||| x / 65536) = rot x 16 := rfl
  rw [hq] at ho
  go_enter Try.func198, Try.ntmps198
  go_wp2
  go_ret
  exact ⟨rfl, rfl⟩

set_option maxRecDepth 100000 in
set_option maxHeartbeats 400000 in
theorem l3Left_12 (x : Nat) (w : World) (hx : x < 4294967296) :
    Calls Try.prog 207 #[.int .i64 x, .int .u64 12] w fun e w' => e = .returned (.int .i64 (rot x 12 : Nat)) ∧ w = w' := by
  have ho : bits .or .i64 ((x : Int) * 4096) ((x : Int) / 1048576) = ((x * 4096 ||| x / 1048576 : Nat) : Int) := i64_or (x * 4096) (x / 1048576) (by omega) (by omega)
  have hr : wd (x * 4096 ||| x / 1048576) = rot x 12 := rot_wide (n := 12) hx
  have hlt : rot x 12 < 4294967296 := rot_lt hx
  have hor : x * 4096 ||| x / 1048576 < 2 ^ 48 := Nat.or_lt_two_pow (by omega) (by omega)
  generalize x * 4096 ||| x / 1048576 = y at *
  go_enter Try.func207, Try.ntmps207
  go_wp2_with (go_at_call 201; refine (l3Word_any y _ (by omega)).mono ?_; rintro e w' ⟨rfl, rfl⟩; rw [hr])
  go_ret
  exact ⟨rfl, rfl⟩
set_option maxRecDepth 100000 in
set_option maxHeartbeats 400000 in
theorem rotate_12 (x : Nat) (w : World) (hx : x < 4294967296) :
    Calls Try.prog 198 #[.int .u32 x, .int .i64 12] w fun e w' => e = .returned (.int .u32 (rot x 12 : Nat)) ∧ w = w' := by
  have hk : bits .and .u64 12 31 = 12 := by kernel_rfl
  have ho : bits .or .u32 ((x : Int) * 4096 % 4294967296) ((x : Int) / 1048576) = ((x * 4096 % 4294967296 ||| x / 1048576 : Nat) : Int) := u32_or (x * 4096 % 4294967296) (x / 1048576) (by omega) (by omega)
  have hlt : rot x 12 < 4294967296 := rot_lt hx
  have hq : (x * 4096 % 4294967296 ||| x / 1048576) = rot x 12 := rfl
  rw [hq] at ho
  go_enter Try.func198, Try.ntmps198
  go_wp2
  go_ret
  exact ⟨rfl, rfl⟩

set_option maxRecDepth 100000 in
set_option maxHeartbeats 400000 in
theorem l3Left_8 (x : Nat) (w : World) (hx : x < 4294967296) :
    Calls Try.prog 207 #[.int .i64 x, .int .u64 8] w fun e w' => e = .returned (.int .i64 (rot x 8 : Nat)) ∧ w = w' := by
  have ho : bits .or .i64 ((x : Int) * 256) ((x : Int) / 16777216) = ((x * 256 ||| x / 16777216 : Nat) : Int) := i64_or (x * 256) (x / 16777216) (by omega) (by omega)
  have hr : wd (x * 256 ||| x / 16777216) = rot x 8 := rot_wide (n := 8) hx
  have hlt : rot x 8 < 4294967296 := rot_lt hx
  have hor : x * 256 ||| x / 16777216 < 2 ^ 48 := Nat.or_lt_two_pow (by omega) (by omega)
  generalize x * 256 ||| x / 16777216 = y at *
  go_enter Try.func207, Try.ntmps207
  go_wp2_with (go_at_call 201; refine (l3Word_any y _ (by omega)).mono ?_; rintro e w' ⟨rfl, rfl⟩; rw [hr])
  go_ret
  exact ⟨rfl, rfl⟩
set_option maxRecDepth 100000 in
set_option maxHeartbeats 400000 in
theorem rotate_8 (x : Nat) (w : World) (hx : x < 4294967296) :
    Calls Try.prog 198 #[.int .u32 x, .int .i64 8] w fun e w' => e = .returned (.int .u32 (rot x 8 : Nat)) ∧ w = w' := by
  have hk : bits .and .u64 8 31 = 8 := by kernel_rfl
  have ho : bits .or .u32 ((x : Int) * 256 % 4294967296) ((x : Int) / 16777216) = ((x * 256 % 4294967296 ||| x / 16777216 : Nat) : Int) := u32_or (x * 256 % 4294967296) (x / 16777216) (by omega) (by omega)
  have hlt : rot x 8 < 4294967296 := rot_lt hx
  have hq : (x * 256 % 4294967296 ||| x / 16777216) = rot x 8 := rfl
  rw [hq] at ho
  go_enter Try.func198, Try.ntmps198
  go_wp2
  go_ret
  exact ⟨rfl, rfl⟩

set_option maxRecDepth 100000 in
set_option maxHeartbeats 400000 in
theorem l3Left_7 (x : Nat) (w : World) (hx : x < 4294967296) :
    Calls Try.prog 207 #[.int .i64 x, .int .u64 7] w fun e w' => e = .returned (.int .i64 (rot x 7 : Nat)) ∧ w = w' := by
  have ho : bits .or .i64 ((x : Int) * 128) ((x : Int) / 33554432) = ((x * 128 ||| x / 33554432 : Nat) : Int) := i64_or (x * 128) (x / 33554432) (by omega) (by omega)
  have hr : wd (x * 128 ||| x / 33554432) = rot x 7 := rot_wide (n := 7) hx
  have hlt : rot x 7 < 4294967296 := rot_lt hx
  have hor : x * 128 ||| x / 33554432 < 2 ^ 48 := Nat.or_lt_two_pow (by omega) (by omega)
  generalize x * 128 ||| x / 33554432 = y at *
  go_enter Try.func207, Try.ntmps207
  go_wp2_with (go_at_call 201; refine (l3Word_any y _ (by omega)).mono ?_; rintro e w' ⟨rfl, rfl⟩; rw [hr])
  go_ret
  exact ⟨rfl, rfl⟩
set_option maxRecDepth 100000 in
set_option maxHeartbeats 400000 in
theorem rotate_7 (x : Nat) (w : World) (hx : x < 4294967296) :
    Calls Try.prog 198 #[.int .u32 x, .int .i64 7] w fun e w' => e = .returned (.int .u32 (rot x 7 : Nat)) ∧ w = w' := by
  have hk : bits .and .u64 7 31 = 7 := by kernel_rfl
  have ho : bits .or .u32 ((x : Int) * 128 % 4294967296) ((x : Int) / 33554432) = ((x * 128 % 4294967296 ||| x / 33554432 : Nat) : Int) := u32_or (x * 128 % 4294967296) (x / 33554432) (by omega) (by omega)
  have hlt : rot x 7 < 4294967296 := rot_lt hx
  have hq : (x * 128 % 4294967296 ||| x / 33554432) = rot x 7 := rfl
  rw [hq] at ho
  go_enter Try.func198, Try.ntmps198
  go_wp2
  go_ret
  exact ⟨rfl, rfl⟩

end Go.Proofs.Ytfbbdnicplbmdaa

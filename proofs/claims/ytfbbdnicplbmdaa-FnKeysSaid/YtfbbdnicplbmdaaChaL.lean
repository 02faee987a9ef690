
/- Walks: the word of four bytes. -/
import Derived.Test.YtfbbdnicplbmdaaChaQ
set_option linter.unusedVariables false
set_option linter.unusedSimpArgs false
namespace Go.Proofs.Ytfbbdnicplbmdaa
open Go.RowKit Sp
theorem leW_at (s : ByteArray) (i : Nat) (h : i + 3 < s.size) : leW s.data.toList i = s[i].toNat ||| s[i + 1].toNat * 256 ||| s[i + 2].toNat * 65536 ||| s[i + 3].toNat * 16777216 := by
  have hx : s.data.toList.length = s.size := by simp
  unfold leW
  rw [List.getElem?_eq_getElem (by omega), List.getElem?_eq_getElem (by omega), List.getElem?_eq_getElem (by omega), List.getElem?_eq_getElem (by omega)]
  rfl

set_option maxRecDepth 100000 in
set_option maxHeartbeats 800000 in
theorem l3Little_any (s : ByteArray) (i : Nat) (w : World) (h : (i : Int) + 3 < s.size) (hs : (s.size : Int) ≤ 1048576) :
    Calls Try.prog 199 #[.string s, .int .i64 i] w fun e w' => e = .returned (.int .i64 (leW s.data.toList i : Nat)) ∧ Below w.heap.size w w' := by
  have hl := leW_at s i (by omega)
  have k0 : i < s.size := by omega
  have k1 : i + 1 < s.size := by omega
  have k2 : i + 2 < s.size := by omega
  have k3 : i + 3 < s.size := by omega
  have n0 : (i : Int) < s.size := by omega
  have n1 : (i : Int) + 1 < s.size := by omega
  have m1 : (0 : Int) ≤ (i : Int) + 1 := by omega
  have n2 : (i : Int) + 2 < s.size := by omega
  have m2 : (0 : Int) ≤ (i : Int) + 2 := by omega
  have n3 : (i : Int) + 3 < s.size := by omega
  have m3 : (0 : Int) ≤ (i : Int) + 3 := by omega
  have W1 : IntKind.i64.wrap ((i : Int) + 1) = (i : Int) + 1 := by rw [IntKind.wrap_i64]; omega
  have W2 : IntKind.i64.wrap ((i : Int) + 2) = (i : Int) + 2 := by rw [IntKind.wrap_i64]; omega
  have W3 : IntKind.i64.wrap ((i : Int) + 3) = (i : Int) + 3 := by rw [IntKind.wrap_i64]; omega
  have y0 : (s[i].toNat : Int) ≤ 255 := by have := s[i].toNat_lt; omega
  have y1 : (s[i + 1].toNat : Int) ≤ 255 := by have := s[i + 1].toNat_lt; omega
  have y2 : (s[i + 2].toNat : Int) ≤ 255 := by have := s[i + 2].toNat_lt; omega
  have y3 : (s[i + 3].toNat : Int) ≤ 255 := by have := s[i + 3].toNat_lt; omega
  have g1 : s[i].toNat ||| s[i + 1].toNat * 256 < 2 ^ 16 := Nat.or_lt_two_pow (by omega) (by omega)
  have O1 : bits .or .i64 (s[i].toNat : Int) ((s[i + 1].toNat : Int) * 256) = ((s[i].toNat ||| s[i + 1].toNat * 256 : Nat) : Int) := i64_or (s[i].toNat) (s[i + 1].toNat * 256) (by omega) (by omega)
  generalize s[i].toNat ||| s[i + 1].toNat * 256 = z1 at *
  have g2 : z1 ||| s[i + 2].toNat * 65536 < 2 ^ 24 := Nat.or_lt_two_pow (by omega) (by omega)
  have O2 : bits .or .i64 (z1 : Int) ((s[i + 2].toNat : Int) * 65536) = ((z1 ||| s[i + 2].toNat * 65536 : Nat) : Int) := i64_or z1 (s[i + 2].toNat * 65536) (by omega) (by omega)
  generalize z1 ||| s[i + 2].toNat * 65536 = z2 at *
  have g3 : z2 ||| s[i + 3].toNat * 16777216 < 2 ^ 32 := Nat.or_lt_two_pow (by omega) (by omega)
  have O3 : bits .or .i64 (z2 : Int) ((s[i + 3].toNat : Int) * 16777216) = ((z2 ||| s[i + 3].toNat * 16777216 : Nat) : Int) := i64_or z2 (s[i + 3].toNat * 16777216) (by omega) (by omega)
  generalize z2 ||| s[i + 3].toNat * 16777216 = z3 at *
  have HL := Lib.hid hl
  clear hl
  go_enter Try.func199, Try.ntmps199
  go_wp2
  go_quiet (fail)
  go_wp2
  go_ret
  exact ⟨by rw [HL.out] <;> rfl, below_drewN (Below.refl _ _) _⟩
set_option maxRecDepth 100000 in
set_option maxHeartbeats 800000 in
theorem little_any (s : ByteArray) (i : Nat) (w : World) (h : (i : Int) + 3 < s.size) (hs : (s.size : Int) ≤ 1048576) :
    Calls Try.prog 197 #[.string s, .int .i64 i] w fun e w' => e = .returned (.int .u32 (leW s.data.toList i : Nat)) ∧ Below w.heap.size w w' := by
  have hl := leW_at s i (by omega)
  have k0 : i < s.size := by omega
  have k1 : i + 1 < s.size := by omega
  have k2 : i + 2 < s.size := by omega
  have k3 : i + 3 < s.size := by omega
  have n0 : (i : Int) < s.size := by omega
  have n1 : (i : Int) + 1 < s.size := by omega
  have m1 : (0 : Int) ≤ (i : Int) + 1 := by omega
  have n2 : (i : Int) + 2 < s.size := by omega
  have m2 : (0 : Int) ≤ (i : Int) + 2 := by omega
  have n3 : (i : Int) + 3 < s.size := by omega
  have m3 : (0 : Int) ≤ (i : Int) + 3 := by omega
  have W1 : IntKind.i64.wrap ((i : Int) + 1) = (i : Int) + 1 := by rw [IntKind.wrap_i64]; omega
  have W2 : IntKind.i64.wrap ((i : Int) + 2) = (i : Int) + 2 := by rw [IntKind.wrap_i64]; omega
  have W3 : IntKind.i64.wrap ((i : Int) + 3) = (i : Int) + 3 := by rw [IntKind.wrap_i64]; omega
  have y0 : (s[i].toNat : Int) ≤ 255 := by have := s[i].toNat_lt; omega
  have y1 : (s[i + 1].toNat : Int) ≤ 255 := by have := s[i + 1].toNat_lt; omega
  have y2 : (s[i + 2].toNat : Int) ≤ 255 := by have := s[i + 2].toNat_lt; omega
  have y3 : (s[i + 3].toNat : Int) ≤ 255 := by have := s[i + 3].toNat_lt; omega
  have g1 : s[i].toNat ||| s[i + 1].toNat * 256 < 2 ^ 16 := Nat.or_lt_two_pow (by omega) (by omega)
  have O1 : bits .or .u32 (s[i].toNat : Int) ((s[i + 1].toNat : Int) * 256) = ((s[i].toNat ||| s[i + 1].toNat * 256 : Nat) : Int) := u32_or (s[i].toNat) (s[i + 1].toNat * 256) (by omega) (by omega)
  generalize s[i].toNat ||| s[i + 1].toNat * 256 = z1 at *
  have g2 : z1 ||| s[i + 2].toNat * 65536 < 2 ^ 24 := Nat.or_lt_two_pow (by omega) (by omega)
  have O2 : bits .or .u32 (z1 : Int) ((s[i + 2].toNat : Int) * 65536) = ((z1 ||| s[i + 2].toNat * 65536 : Nat) : Int) := u32_or z1 (s[i + 2].toNat * 65536) (by omega) (by omega)
  generalize z1 ||| s[i + 2].toNat * 65536 = z2 at *
  have g3 : z2 ||| s[i + 3].toNat * 16777216 < 2 ^ 32 := Nat.or_lt_two_pow (by omega) (by omega)
  have O3 : bits .or .u32 (z2 : Int) ((s[i + 3].toNat : Int) * 16777216) = ((z2 ||| s[i + 3].toNat * 16777216 : Nat) : Int) := u32_or z2 (s[i + 3].toNat * 16777216) (by omega) (by omega)
  generalize z2 ||| s[i + 3].toNat * 16777216 = z3 at *
  have HL := Lib.hid hl
  clear hl
  go_enter Try.func197, Try.ntmps197
  go_wp2
  go_quiet (fail)
  go_wp2
  go_ret
  exact ⟨by rw [HL.out] <;> rfl, below_drewN (Below.refl _ _) _⟩
end Go.Proofs.Ytfbbdnicplbmdaa


/- Walks: FileKey, MintToken of the reference and of the program. -/
import Derived.Test.YtfbbdnicplbmdaaChaU
import Derived.Test.YtfbbdnicplbmdaaNonce
import Derived.Test.YtfbbdnicplbmdaaSumW
import Derived.Test.YtfbbdnicplbmdaaExt
import Derived.Lib.Strings
set_option linter.unusedVariables false
set_option linter.unusedSimpArgs false
namespace Go.Proofs.Ytfbbdnicplbmdaa
open Go.RowKit Sp
attribute [local go_sem] str_size str_append
namespace Sp
def fileKeyL (key : ByteArray) (n : Int) : List UInt8 := (chaB key 0 (str (nonceL 4 n))).take 32
theorem chaB_cases (key nonce : ByteArray) (c : Int) : chaB key c nonce = [] ∨ (chaB key c nonce).length = 64 := by
  unfold chaB; split
  · exact .inr (chaG_length _ _ _)
  · exact .inl rfl
end Sp

namespace Sp
def mintB (secret : ByteArray) (t e : Int) : Bool := decide ((secret.size : Int) = 32) && (inB t 1 99 && inB e 0 1000000)
def mintL (secret : ByteArray) (t e : Int) : List UInt8 := if mintB secret t e then varL t ++ varL e ++ (chaB secret e (str (nonceL 2 t))).take 8 else []
theorem mintL_not {secret : ByteArray} {t e : Int} (h : mintB secret t e = false) : mintL secret t e = [] := by simp [mintL, h]
theorem mintL_yes {secret : ByteArray} {t e : Int} (h : mintB secret t e = true) : mintL secret t e = varL t ++ (varL e ++ (chaB secret e (str (nonceL 2 t))).take 8) := by simp [mintL, h]
end Sp
theorem nonceL_length {k n : Int} (h : (0 ≤ k ∧ k ≤ 255) ∧ 0 ≤ n ∧ n ≤ 562949953421311) : (nonceL k n).length = 12 := by
  unfold nonceL; rw [if_pos h]
  obtain ⟨m, rfl⟩ := Int.eq_ofNat_of_zero_le h.2.1
  have : fixedL (m : Int) 7 = beB 7 m := by
    unfold fixedL; rw [if_pos (by omega)]
    exact fixedN_zero (Nat.div_eq_of_lt (by have := h.2.2; show m < 72057594037927936; omega))
  rw [this]; simp [beB_length]
theorem mint_block {secret : ByteArray} {t e : Int} (h : mintB secret t e = true) : (chaB secret e (str (nonceL 2 t))).length = 64 := by
  simp only [mintB, Bool.and_eq_true, decide_eq_true_eq, inB_iff] at h
  obtain ⟨h1, ⟨h2, h3⟩, h4, h5⟩ := h
  have hn := nonceL_length (k := 2) (n := t) ⟨⟨by decide, by decide⟩, by omega, by omega⟩
  have e2 : inB e 0 4294967295 = true := inB_iff.2 ⟨by omega, by omega⟩
  have e1 : secret.size = 32 := by omega
  have : chaOk secret e (str (nonceL 2 t)) = true := by simp [chaOk, e1, e2, str_size, hn]
  rw [chaOk_yes this]; exact chaG_length _ _ _
set_option maxRecDepth 100000 in
theorem ten_any (n : Int) (w : World) : Calls Try.prog 164 #[.int .i64 n] w fun e w' => e = .returned (.bool (inB n 1 99)) ∧ w = w' := by
  go_enter Try.func164, Try.ntmps164
  go_wp2_with (go_at_call 108; refine (inRange_any _ _ _ _).mono ?_; rintro e w' ⟨rfl, rfl⟩)
  go_ret
  exact ⟨rfl, rfl⟩
set_option maxRecDepth 100000 in
theorem num_any (n : Int) (w : World) : Calls Try.prog 163 #[.int .i64 n] w fun e w' => e = .returned (.bool (inB n 0 1000000)) ∧ w = w' := by
  go_enter Try.func163, Try.ntmps163
  go_wp2_with (go_at_call 108; refine (inRange_any _ _ _ _).mono ?_; rintro e w' ⟨rfl, rfl⟩)
  go_ret
  exact ⟨rfl, rfl⟩

end Go.Proofs.Ytfbbdnicplbmdaa

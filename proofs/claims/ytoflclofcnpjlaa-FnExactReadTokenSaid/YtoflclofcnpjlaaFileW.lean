/- Walks: FileKey, MintToken of the reference and of the program. -/
import Derived.Test.YtoflclofcnpjlaaChaU
import Derived.Test.YtoflclofcnpjlaaNonce
import Derived.Test.YtoflclofcnpjlaaSumW
import Derived.Lib.Strings
set_option linter.unusedVariables false
set_option linter.unusedSimpArgs false
namespace Go.Proofs.Ytoflclofcnpjlaa
open Go.RowKit Sp
attribute [local go_sem] str_size str_append
namespace Sp
def fileKeyL (key : ByteArray) (n : Int) : List UInt8 := (chaB key 0 (str (nonceL 4 n))).take 32
theorem chaB_cases (key nonce : ByteArray) (c : Int) : chaB key c nonce = [] ∨ (chaB key c nonce).length = 64 := by
  unfold chaB; split
  · exact .inr (chaG_length _ _ _)
  · exact .inl rfl
end Sp
theorem toList_data (t : ByteArray) : t.toList = t.data.toList := by
  have h := str_toList t.data.toList
  rw [str_of] at h; exact h
theorem ext_str (s : ByteArray) (i j : Nat) : s.extract i j = str ((s.data.toList.drop i).take (j - i)) := by
  have h := Lib.extract_toList s i j
  rw [toList_data] at h
  rw [← h, str_of]
theorem ext_head (l : List UInt8) (j : Nat) : (str l).extract 0 j = str (l.take j) := by rw [ext_str, str_data, List.drop_zero, Nat.sub_zero]
theorem emp_iff (l : List UInt8) (h : 0 < l.length) : (str l).toList.isEmpty = false := by
  rw [str_toList]; cases l with
  | nil => cases h
  | cons x l => rfl
theorem emp_nil : (str []).toList.isEmpty = true := by rw [str_toList]; rfl

set_option maxRecDepth 100000 in
set_option maxHeartbeats 800000 in
theorem specFileKey (key : ByteArray) (n : Int) (w : World) :
    Calls Try.prog 22 #[.string key, .int .i64 n] w fun e w' => e = .returned (.string (str (fileKeyL key n))) ∧ Below w.heap.size w w' := by
  go_enter Try.func22, Try.ntmps22
  go_wp2_with fail
  refine (specNonce _ _ _).mono ?_
  rintro e w1 ⟨rfl, b1⟩
  go_wp2_with fail
  refine (specChaBlock _ _ _ _).mono ?_
  rintro e w2 ⟨rfl, b2⟩
  have x2 := b1.trans (b2.mono b1.size)
  have hf : fileKeyL key n = (chaB key 0 (str (nonceL 4 n))).take 32 := rfl
  rcases chaB_cases key (str (nonceL 4 n)) 0 with h | h
  · rw [h] at hf ⊢
    have he := emp_nil
    have HF := Lib.hid hf
    clear hf h
    go_wp2
    go_ret
    exact ⟨by rw [HF.out]; rfl, x2⟩
  · generalize chaB key 0 (str (nonceL 4 n)) = b at *
    have he := emp_iff b (by omega)
    have hl : (b.length : Int) = 64 := by omega
    have HF := Lib.hid hf
    clear hf h
    go_wp2
    rw [ext_head]
    go_ret
    exact ⟨by rw [HF.out]; rfl, x2⟩

set_option maxRecDepth 100000 in
set_option maxHeartbeats 800000 in
theorem implFileKey (key : ByteArray) (n : Int) (w : World) :
    Calls Try.prog 23 #[.string key, .int .i64 n] w fun e w' => e = .returned (.string (str (fileKeyL key n))) ∧ Below w.heap.size w w' := by
  go_enter Try.func23, Try.ntmps23
  go_wp2_with fail
  refine (implNonce _ _ _).mono ?_
  rintro e w1 ⟨rfl, b1⟩
  go_wp2_with fail
  refine (implChaBlock _ _ _ _).mono ?_
  rintro e w2 ⟨rfl, b2⟩
  have x2 := b1.trans (b2.mono b1.size)
  have hf : fileKeyL key n = (chaB key 0 (str (nonceL 4 n))).take 32 := rfl
  rcases chaB_cases key (str (nonceL 4 n)) 0 with h | h
  · rw [h] at hf ⊢
    have HF := Lib.hid hf
    clear hf h
    go_wp2
    go_ret
    exact ⟨by rw [HF.out]; rfl, x2⟩
  · generalize chaB key 0 (str (nonceL 4 n)) = b at *
    have hl : (b.length : Int) = 64 := by omega
    have HF := Lib.hid hf
    clear hf h
    go_wp2
    rw [ext_head]
    go_ret
    exact ⟨by rw [HF.out]; rfl, x2⟩
namespace Sp
def mintB (secret : ByteArray) (t e : Int) : Bool := decide ((secret.size : Int) = 32) && (inB t 1 99 && inB e 0 1000000)
def mintL (secret : ByteArray) (t e : Int) : List UInt8 := if mintB secret t e then varL t ++ varL e ++ (chaB secret e (str (nonceL 2 t))).take 8 else []
theorem mintL_not {secret : ByteArray} {t e : Int} (h : mintB secret t e = false) : mintL secret t e = [] := by simp [mintL, h]
theorem mintL_yes {secret : ByteArray} {t e : Int} (h : mintB secret t e = true) : mintL secret t e = varL t ++ (varL e ++ (chaB secret e (str (nonceL 2 t))).take 8) := by simp [mintL, h]
end Sp
theorem nonceL_length {k n : Int} (h : (0 ≤ k ∧ k ≤ 255) ∧ 0 ≤ n ∧ n ≤ 562949953421311) : (nonceL k n).length = 12 := by
  unfold nonceL; rw [if_pos h]
  obtain ⟨m, rfl⟩ := Int.eq_ofNat_of_zero_le h.2.1
  have : fixedL (m : Int) 7 = beB 7 m := by
    unfold fixedL; rw [if_pos (by omega)]
    exact fixedN_zero (Nat.div_eq_of_lt (by have := h.2.2; show m < 72057594037927936; omega))
  rw [this]; simp [beB_length]
theorem mint_block {secret : ByteArray} {t e : Int} (h : mintB secret t e = true) : (chaB secret e (str (nonceL 2 t))).length = 64 := by
  simp only [mintB, Bool.and_eq_true, decide_eq_true_eq, inB_iff] at h
  obtain ⟨h1, ⟨h2, h3⟩, h4, h5⟩ := h
  have hn := nonceL_length (k := 2) (n := t) ⟨⟨by decide, by decide⟩, by omega, by omega⟩
  have e2 : inB e 0 4294967295 = true := inB_iff.2 ⟨by omega, by omega⟩
  have e1 : secret.size = 32 := by omega
  have : chaOk secret e (str (nonceL 2 t)) = true := by simp [chaOk, e1, e2, str_size, hn]
  rw [chaOk_yes this]; exact chaG_length _ _ _
set_option maxRecDepth 100000 in
theorem ten_any (n : Int) (w : World) : Calls Try.prog 51 #[.int .i64 n] w fun e w' => e = .returned (.bool (inB n 1 99)) ∧ w = w' := by
  go_enter Try.func51, Try.ntmps51
  go_wp2_with (go_at_call 59; refine (inRange_any _ _ _ _).mono ?_; rintro e w' ⟨rfl, rfl⟩)
  go_ret
  exact ⟨rfl, rfl⟩
set_option maxRecDepth 100000 in
theorem num_any (n : Int) (w : World) : Calls Try.prog 58 #[.int .i64 n] w fun e w' => e = .returned (.bool (inB n 0 1000000)) ∧ w = w' := by
  go_enter Try.func58, Try.ntmps58
  go_wp2_with (go_at_call 59; refine (inRange_any _ _ _ _).mono ?_; rintro e w' ⟨rfl, rfl⟩)
  go_ret
  exact ⟨rfl, rfl⟩

set_option maxRecDepth 100000 in
set_option maxHeartbeats 800000 in
theorem specMint (secret : ByteArray) (t e : Int) (w : World) :
    Calls Try.prog 24 #[.string secret, .int .i64 t, .int .i64 e] w fun x w' => x = .returned (.string (str (mintL secret t e))) ∧ Below w.heap.size w w' := by
  by_cases h1 : (secret.size : Int) = 32
  · by_cases h2 : inB t 1 99 = true
    · by_cases h3 : inB e 0 1000000 = true
      · have hb : mintB secret t e = true := by simp [mintB, h1, h2, h3]
        have HR := Lib.hid (mintL_yes hb)
        have hl := mint_block hb
        have v1 := varL_length t
        have v2 := varL_length e
        clear hb
        go_enter Try.func24, Try.ntmps24
        go_wp2_with (first | (go_at_call 41; refine (l1In_any _ _ _ _).mono ?_; rintro e w' ⟨rfl, rfl⟩; rw [h2]) | (go_at_call 41; refine (l1In_any _ _ _ _).mono ?_; rintro e w' ⟨rfl, rfl⟩; rw [h3]) | fail)
        go_wp2_with fail
        refine (specVar _ _).mono ?_
        rintro x w1 ⟨rfl, b1⟩
        go_wp2_with fail
        refine (specVar _ _).mono ?_
        rintro x w2 ⟨rfl, b2⟩
        have x2 := b1.trans (b2.mono b1.size)
        go_wp2_with fail
        refine (specNonce _ _ _).mono ?_
        rintro x w3 ⟨rfl, b3⟩
        have x3 := x2.trans (b3.mono x2.size)
        go_wp2_with fail
        refine (specChaBlock _ _ _ _).mono ?_
        rintro x w4 ⟨rfl, b4⟩
        have x4 := x3.trans (b4.mono x3.size)
        generalize chaB secret e (str (nonceL 2 t)) = b at *
        have hl' : (b.length : Int) = 64 := by omega
        have hx := ext_head b 8
        have hl8 : (b.take 8).length = 8 := by simp; omega
        go_wp2
        go_ret
        exact ⟨by rw [HR.out]; rfl, x4⟩
      · have h3' : inB e 0 1000000 = false := by simpa using h3
        rw [mintL_not (by simp [mintB, h3'])]
        go_enter Try.func24, Try.ntmps24
        go_wp2_with (first | (go_at_call 41; refine (l1In_any _ _ _ _).mono ?_; rintro e w' ⟨rfl, rfl⟩; rw [h2]) | (go_at_call 41; refine (l1In_any _ _ _ _).mono ?_; rintro e w' ⟨rfl, rfl⟩; rw [h3']))
        go_ret
        exact ⟨rfl, Below.refl _ _⟩
    · have h2' : inB t 1 99 = false := by simpa using h2
      rw [mintL_not (by simp [mintB, h2'])]
      go_enter Try.func24, Try.ntmps24
      go_wp2_with (go_at_call 41; refine (l1In_any _ _ _ _).mono ?_; rintro e w' ⟨rfl, rfl⟩; rw [h2'])
      go_ret
      exact ⟨rfl, Below.refl _ _⟩
  · rw [mintL_not (by simp [mintB, h1])]
    go_enter Try.func24, Try.ntmps24
    go_wp2
    go_ret
    exact ⟨rfl, Below.refl _ _⟩

set_option maxRecDepth 100000 in
set_option maxHeartbeats 800000 in
theorem implMint (secret : ByteArray) (t e : Int) (w : World) :
    Calls Try.prog 25 #[.string secret, .int .i64 t, .int .i64 e] w fun x w' => x = .returned (.string (str (mintL secret t e))) ∧ Below w.heap.size w w' := by
  by_cases h1 : (secret.size : Int) = 32
  · by_cases h2 : inB t 1 99 = true
    · by_cases h3 : inB e 0 1000000 = true
      · have hb : mintB secret t e = true := by simp [mintB, h1, h2, h3]
        have HR := Lib.hid (mintL_yes hb)
        have hl := mint_block hb
        have v1 := varL_length t
        have v2 := varL_length e
        clear hb
        go_enter Try.func25, Try.ntmps25
        go_wp2_with (first | (go_at_call 51; refine (ten_any _ _).mono ?_; rintro e w' ⟨rfl, rfl⟩; rw [h2]) | (go_at_call 58; refine (num_any _ _).mono ?_; rintro e w' ⟨rfl, rfl⟩; rw [h3]) | fail)
        go_wp2_with fail
        refine (implVar _ _).mono ?_
        rintro x w1 ⟨rfl, b1⟩
        go_wp2_with fail
        refine (implVar _ _).mono ?_
        rintro x w2 ⟨rfl, b2⟩
        have x2 := b1.trans (b2.mono b1.size)
        go_wp2_with fail
        refine (implNonce _ _ _).mono ?_
        rintro x w3 ⟨rfl, b3⟩
        have x3 := x2.trans (b3.mono x2.size)
        go_wp2_with fail
        refine (implChaBlock _ _ _ _).mono ?_
        rintro x w4 ⟨rfl, b4⟩
        have x4 := x3.trans (b4.mono x3.size)
        generalize chaB secret e (str (nonceL 2 t)) = b at *
        have hl' : (b.length : Int) = 64 := by omega
        have hx := ext_head b 8
        have hl8 : (b.take 8).length = 8 := by simp; omega
        go_wp2
        go_ret
        exact ⟨by rw [HR.out]; rfl, x4⟩
      · have h3' : inB e 0 1000000 = false := by simpa using h3
        rw [mintL_not (by simp [mintB, h3'])]
        go_enter Try.func25, Try.ntmps25
        go_wp2_with (first | (go_at_call 51; refine (ten_any _ _).mono ?_; rintro e w' ⟨rfl, rfl⟩; rw [h2]) | (go_at_call 58; refine (num_any _ _).mono ?_; rintro e w' ⟨rfl, rfl⟩; rw [h3']))
        go_ret
        exact ⟨rfl, Below.refl _ _⟩
    · have h2' : inB t 1 99 = false := by simpa using h2
      rw [mintL_not (by simp [mintB, h2'])]
      go_enter Try.func25, Try.ntmps25
      go_wp2_with (go_at_call 51; refine (ten_any _ _).mono ?_; rintro e w' ⟨rfl, rfl⟩; rw [h2'])
      go_ret
      exact ⟨rfl, Below.refl _ _⟩
  · rw [mintL_not (by simp [mintB, h1])]
    go_enter Try.func25, Try.ntmps25
    go_wp2
    go_ret
    exact ⟨rfl, Below.refl _ _⟩
end Go.Proofs.Ytoflclofcnpjlaa

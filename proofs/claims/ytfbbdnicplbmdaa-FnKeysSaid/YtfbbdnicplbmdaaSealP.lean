
/- Plain: sealed files, wrapped keys; a stream twice over is the text. -/
import Derived.Test.YtfbbdnicplbmdaaFileW
import Derived.Test.YtfbbdnicplbmdaaStrI
set_option linter.unusedVariables false
set_option linter.unusedSimpArgs false
namespace Go.Proofs.Ytfbbdnicplbmdaa
open Go.RowKit Sp
namespace Sp
theorem stT_get (key nonce : ByteArray) (c : Nat) (t : List UInt8) (n i : Nat) (h : i < n) : (stT key nonce c t n)[i]? = some (streamAt key nonce c t i) := by
  induction n with
  | zero => omega
  | succ n ih =>
    rw [stT_step]
    by_cases hi : i < n
    · rw [List.getElem?_append_left (by rw [stT_length]; exact hi)]; exact ih hi
    · obtain rfl : i = n := by omega
      rw [List.getElem?_append_right (by rw [stT_length]; exact Nat.le_refl _), stT_length, Nat.sub_self]; rfl
theorem stT_invol (key nonce : ByteArray) (c : Nat) (t : List UInt8) : stT key nonce c (stT key nonce c t t.length) t.length = t := by
  apply List.ext_getElem?
  intro i
  by_cases h : i < t.length
  · rw [stT_get _ _ _ _ _ _ h]
    unfold streamAt
    rw [stT_get _ _ _ _ _ _ h]
    simp only [Option.getD_some]
    unfold streamAt
    rw [List.getElem?_eq_getElem h, UInt8.xor_assoc, UInt8.xor_self, UInt8.xor_zero]
    rfl
  · rw [List.getElem?_eq_none (by rw [stT_length]; omega), List.getElem?_eq_none (by omega)]
theorem chaS_good {key nonce text : ByteArray} {n : Nat} (h : chaOk key (n : Int) nonce = true) (hn : n ≤ 1) (ht : (text.size : Int) ≤ 1048576) : chaS key n nonce text = stT key nonce n text.data.toList text.data.toList.length := by
  rw [chaS_yes h (by omega)]; congr 1
theorem chaS_invol {key nonce text : ByteArray} {n : Nat} (h : chaOk key (n : Int) nonce = true) (hn : n ≤ 1) (ht : (text.size : Int) ≤ 1048576) :
    (chaS key n nonce text).length = text.size ∧ chaS key n nonce (str (chaS key n nonce text)) = text.data.toList := by
  rw [chaS_good h hn ht]
  have hl : (stT key nonce n text.data.toList text.data.toList.length).length = text.size := by rw [stT_length]; simp
  refine ⟨hl, ?_⟩
  rw [chaS_good h hn (by rw [str_size, hl]; exact ht), str_data, stT_length]
  exact stT_invol _ _ _ _
def sealL (key : ByteArray) (n : Int) (text : ByteArray) : List UInt8 := if 0 < (fileKeyL key n).length ∧ (text.size : Int) ≤ 2000 then sumL (chaS (str (fileKeyL key n)) 1 (str (nonceL 5 n)) text) else []
def unsB (s : ByteArray) : Bool := fixedL (crcV (s.data.toList.drop 4)) 4 == s.data.toList.take 4
def openB (key : ByteArray) (n : Int) (s : ByteArray) : Bool := decide (0 < (fileKeyL key n).length) && (decide (4 ≤ (s.size : Int) ∧ (s.size : Int) ≤ 2004) && unsB s)
def openT (key : ByteArray) (n : Int) (s : ByteArray) : List UInt8 := if openB key n s then chaS (str (fileKeyL key n)) 1 (str (nonceL 5 n)) (str (s.data.toList.drop 4)) else []
theorem nonceL_cases (k n : Int) : nonceL k n = [] ∨ ((0 ≤ k ∧ k ≤ 255) ∧ 0 ≤ n ∧ n ≤ 562949953421311) := by
  by_cases h : (0 ≤ k ∧ k ≤ 255) ∧ 0 ≤ n ∧ n ≤ 562949953421311
  · exact .inr h
  · left; unfold nonceL; rw [if_neg h]
/-- A file's key that is there is 32 bytes, and the number's nonces are right. -/
theorem fileKey_ok {key : ByteArray} {n : Int} (h : 0 < (fileKeyL key n).length) (k : Int) (hk : 0 ≤ k ∧ k ≤ 255) (c : Int) (hc : 0 ≤ c ∧ c ≤ 4294967295) : chaOk (str (fileKeyL key n)) c (str (nonceL k n)) = true := by
  have hb : (chaB key 0 (str (nonceL 4 n))).length = 64 := by
    rcases chaB_cases key (str (nonceL 4 n)) 0 with h0 | h0
    · unfold fileKeyL at h; rw [h0] at h; simp at h
    · exact h0
  have hl : (fileKeyL key n).length = 32 := by unfold fileKeyL; rw [List.length_take, hb]; rfl
  have hn : 0 ≤ n ∧ n ≤ 562949953421311 := by
    rcases nonceL_cases 4 n with h0 | h0
    · rw [h0] at hb
      have : chaOk key 0 (str []) = false := by simp [chaOk, str_size]
      rw [chaOk_not this] at hb; cases hb
    · exact h0.2
  have e := nonceL_length ⟨hk, hn⟩
  have e2 : inB c 0 4294967295 = true := inB_iff.2 hc
  simp [chaOk, str_size, hl, e, e2]
theorem fixed4_length (l : List UInt8) : (fixedL (crcV l) 4).length = 4 := by
  have hb := crcV_bd l
  obtain ⟨m, hm⟩ := Int.eq_ofNat_of_zero_le hb.1
  rw [hm]
  have : fixedL (m : Int) 4 = beB 4 m := by
    unfold fixedL; rw [if_pos (by omega)]
    exact fixedN_zero (Nat.div_eq_of_lt (by show m < 4294967296; omega))
  rw [this, beB_length]
theorem sumL_eq {s : List UInt8} (h : 4 ≤ s.length) : (sumL (s.drop 4) == s) = (fixedL (crcV (s.drop 4)) 4 == s.take 4) := by
  rw [Bool.eq_iff_iff, beq_iff_eq, beq_iff_eq]
  unfold sumL
  have e := List.take_append_drop 4 s
  constructor
  · intro h2
    have := congrArg (List.take 4) h2
    rw [List.take_append_of_le_length (by rw [fixed4_length]; exact Nat.le_refl _), List.take_of_length_le (by rw [fixed4_length]; exact Nat.le_refl _)] at this
    exact this
  · intro h2
    rw [h2]; exact e
/-- What the reference tests is what the program tests. -/
theorem open_law {key : ByteArray} {n : Int} {s : ByteArray} (hk : 0 < (fileKeyL key n).length) (h4 : 4 ≤ (s.size : Int)) (hs : (s.size : Int) ≤ 1048576) :
    (sealL key n (str (chaS (str (fileKeyL key n)) 1 (str (nonceL 5 n)) (str (s.data.toList.drop 4)))) == s.data.toList) = openB key n s := by
  have hok := fileKey_ok hk 5 ⟨by decide, by decide⟩ ((1 : Nat) : Int) ⟨by decide, by decide⟩
  have hx : ((str (s.data.toList.drop 4)).size : Int) = s.size - 4 := by rw [str_size, List.length_drop]; simp; omega
  have hi := chaS_invol (text := str (s.data.toList.drop 4)) hok (Nat.le_refl 1) (by omega)
  rw [str_data] at hi
  have hl : 4 ≤ s.data.toList.length := by simp; omega
  have e1 : ((1 : Nat) : Int) = 1 := rfl
  rw [e1] at hi
  unfold sealL openB unsB
  rw [str_size]
  by_cases h2 : (s.size : Int) ≤ 2004
  · rw [if_pos ⟨hk, by rw [hi.1]; omega⟩, hi.2, sumL_eq hl]
    simp [hk, h4, h2]
  · rw [if_neg (by rw [hi.1]; omega)]
    have : ([] == s.data.toList) = false := by
      cases hq : s.data.toList with
      | nil => rw [hq] at hl; simp at hl
      | cons => rfl
    rw [this]
    simp [h2]
def wrapB (m : ByteArray) (n : Int) : Bool := decide ((m.size : Int) = 32) && inB n 0 562949953421311
def wrapL (m : ByteArray) (n : Int) (key : ByteArray) : List UInt8 := if wrapB m n = true ∧ (key.size : Int) = 32 then sumL (chaS m 0 (str (nonceL 1 n)) key) else []
def unwB (m : ByteArray) (n : Int) (s : ByteArray) : Bool := wrapB m n && (decide ((s.size : Int) = 36) && unsB s)
def unwT (m : ByteArray) (n : Int) (s : ByteArray) : List UInt8 := if unwB m n s then chaS m 0 (str (nonceL 1 n)) (str (s.data.toList.drop 4)) else []
theorem wrap_ok {m : ByteArray} {n : Int} (h : wrapB m n = true) : chaOk m ((0 : Nat) : Int) (str (nonceL 1 n)) = true := by
  simp only [wrapB, Bool.and_eq_true, decide_eq_true_eq, inB_iff] at h
  obtain ⟨h1, h2⟩ := h
  have e := nonceL_length (k := 1) (n := n) ⟨⟨by decide, by decide⟩, h2⟩
  have e2 : inB ((0 : Nat) : Int) 0 4294967295 = true := by decide
  have e1 : m.size = 32 := by omega
  simp [chaOk, str_size, e, e1, inB]
theorem unwrap_law {m : ByteArray} {n : Int} {s : ByteArray} (hw : wrapB m n = true) (h4 : (s.size : Int) = 36) :
    (wrapL m n (str (chaS m 0 (str (nonceL 1 n)) (str (s.data.toList.drop 4)))) == s.data.toList) = unwB m n s := by
  have hok := wrap_ok hw
  have hx : ((str (s.data.toList.drop 4)).size : Int) = s.size - 4 := by rw [str_size, List.length_drop]; simp; omega
  have hi := chaS_invol (text := str (s.data.toList.drop 4)) hok (Nat.zero_le 1) (by omega)
  rw [str_data] at hi
  have hl : 4 ≤ s.data.toList.length := by simp; omega
  have e1 : ((0 : Nat) : Int) = 0 := rfl
  rw [e1] at hi
  unfold wrapL unwB unsB
  rw [str_size, if_pos ⟨hw, by rw [hi.1]; omega⟩, hi.2, sumL_eq hl]
  simp [hw, h4]
end Sp
end Go.Proofs.Ytfbbdnicplbmdaa

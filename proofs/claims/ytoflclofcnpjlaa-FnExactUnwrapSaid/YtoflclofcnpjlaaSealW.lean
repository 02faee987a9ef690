/- Walks: SealFile and Wrap of both sides. -/
import Derived.Test.YtoflclofcnpjlaaSealP
import Derived.Test.YtoflclofcnpjlaaSumW
import Derived.Test.YtoflclofcnpjlaaFixedW
import Derived.Lib.QuietBelow
import Derived.BigQuiet
set_option linter.unusedVariables false
set_option linter.unusedSimpArgs false
namespace Go.Proofs.Ytoflclofcnpjlaa
open Go.RowKit Sp
attribute [local go_sem] str_size str_append

set_option maxRecDepth 100000 in
set_option maxHeartbeats 800000 in
theorem specSealFile (key text : ByteArray) (n : Int) (w : World) (ht : (text.size : Int) ≤ 1048576) :
    Calls Try.prog 28 #[.string key, .int .i64 n, .string text] w fun e w' => e = .returned (.string (str (sealL key n text))) ∧ Below w.heap.size w w' := by
  go_enter Try.func28, Try.ntmps28
  go_wp2_with fail
  refine (specFileKey _ _ _).mono ?_
  rintro e w1 ⟨rfl, b1⟩
  by_cases hk : 0 < (fileKeyL key n).length
  · have hke := emp_iff _ hk
    by_cases h2 : (text.size : Int) ≤ 2000
    · have HR := Lib.hid (show sealL key n text = sumL (chaS (str (fileKeyL key n)) 1 (str (nonceL 5 n)) text) by unfold sealL; rw [if_pos ⟨hk, h2⟩])
      have hsl := chaS_length_le (str (fileKeyL key n)) 1 (str (nonceL 5 n)) text
      clear hk
      go_wp2_with fail
      refine (specNonce _ _ _).mono ?_
      rintro e w2 ⟨rfl, b2⟩
      have x2 := b1.trans (b2.mono b1.size)
      go_wp2_with fail
      refine (specChaStream _ _ _ _ _ ht).mono ?_
      rintro e w3 ⟨rfl, b3⟩
      have x3 := x2.trans (b3.mono x2.size)
      generalize chaS (str (fileKeyL key n)) 1 (str (nonceL 5 n)) text = st at *
      have hcb := crcV_bd st
      have hfl := fixedL_length_le (crcV st) 4
      go_wp2_with fail
      refine (specCrc _ _ (by rw [str_size]; omega)).mono ?_
      rintro e w' ⟨rfl, rfl⟩
      rw [str_data]
      go_wp2_with fail
      refine (specFixed _ _ _ (by omega)).mono ?_
      rintro e w9 ⟨rfl, b9⟩
      have x9 := x3.trans (b9.mono x3.size)
      go_wp2
      go_ret
      exact ⟨by rw [HR.out]; rfl, x9⟩
    · have HR := Lib.hid (show sealL key n text = [] by unfold sealL; rw [if_neg (by intro h; exact h2 h.2)])
      clear hk
      go_wp2
      go_ret
      exact ⟨by rw [HR.out]; rfl, b1⟩
  · have hn : fileKeyL key n = [] := List.eq_nil_of_length_eq_zero (by omega)
    have HR := Lib.hid (show sealL key n text = [] by unfold sealL; rw [if_neg (by intro h; exact hk h.1)])
    have hke := emp_nil
    rw [hn]
    clear hk hn
    go_wp2
    go_ret
    exact ⟨by rw [HR.out]; rfl, b1⟩

set_option maxRecDepth 100000 in
set_option maxHeartbeats 800000 in
theorem implSealFile (key text : ByteArray) (n : Int) (w : World) (ht : (text.size : Int) ≤ 1048576) :
    Calls Try.prog 29 #[.string key, .int .i64 n, .string text] w fun e w' => e = .returned (.string (str (sealL key n text))) ∧ Below w.heap.size w w' := by
  go_enter Try.func29, Try.ntmps29
  go_wp2_with fail
  refine (implFileKey _ _ _).mono ?_
  rintro e w1 ⟨rfl, b1⟩
  by_cases hk : 0 < (fileKeyL key n).length
  · have hke := emp_iff _ hk
    by_cases h2 : (text.size : Int) ≤ 2000
    · have HR := Lib.hid (show sealL key n text = sumL (chaS (str (fileKeyL key n)) 1 (str (nonceL 5 n)) text) by unfold sealL; rw [if_pos ⟨hk, h2⟩])
      have hsl := chaS_length_le (str (fileKeyL key n)) 1 (str (nonceL 5 n)) text
      clear hk
      go_wp2_with fail
      refine (implNonce _ _ _).mono ?_
      rintro e w2 ⟨rfl, b2⟩
      have x2 := b1.trans (b2.mono b1.size)
      go_wp2_with fail
      refine (implChaStream _ _ _ _ _ ht).mono ?_
      rintro e w3 ⟨rfl, b3⟩
      have x3 := x2.trans (b3.mono x2.size)
      generalize chaS (str (fileKeyL key n)) 1 (str (nonceL 5 n)) text = st at *
      go_wp2_with fail
      refine (summed_any _ _ (by omega)).mono ?_
      rintro e w9 ⟨rfl, b9⟩
      have x9 := x3.trans (b9.mono x3.size)
      go_wp2
      go_ret
      exact ⟨by rw [HR.out]; rfl, x9⟩
    · have HR := Lib.hid (show sealL key n text = [] by unfold sealL; rw [if_neg (by intro h; exact h2 h.2)])
      clear hk
      go_wp2
      go_ret
      exact ⟨by rw [HR.out]; rfl, b1⟩
  · have hn : fileKeyL key n = [] := List.eq_nil_of_length_eq_zero (by omega)
    have HR := Lib.hid (show sealL key n text = [] by unfold sealL; rw [if_neg (by intro h; exact hk h.1)])
    have hke := emp_nil
    rw [hn]
    clear hk hn
    go_wp2
    go_ret
    exact ⟨by rw [HR.out]; rfl, b1⟩

set_option maxRecDepth 100000 in
set_option maxHeartbeats 800000 in
theorem specWrap (m key : ByteArray) (n : Int) (w : World) (ht : (key.size : Int) ≤ 1048576) :
    Calls Try.prog 26 #[.string m, .int .i64 n, .string key] w fun e w' => e = .returned (.string (str (wrapL m n key))) ∧ Below w.heap.size w w' := by
  by_cases h1 : (m.size : Int) = 32
  · by_cases h3 : (key.size : Int) = 32
    · by_cases h2 : inB n 0 562949953421311 = true
      · have HR := Lib.hid (show wrapL m n key = sumL (chaS m 0 (str (nonceL 1 n)) key) by unfold wrapL; rw [if_pos ⟨by simp [wrapB, h1, h2], h3⟩])
        have hsl := chaS_length_le m 0 (str (nonceL 1 n)) key
        go_enter Try.func26, Try.ntmps26
        go_wp2_with (first | (go_at_call 41; refine (l1In_any _ _ _ _).mono ?_; rintro e w' ⟨rfl, rfl⟩; rw [h2]) | fail)
        go_wp2_with fail
        refine (specNonce _ _ _).mono ?_
        rintro e w2 ⟨rfl, b2⟩
        go_wp2_with fail
        refine (specChaStream _ _ _ _ _ ht).mono ?_
        rintro e w3 ⟨rfl, b3⟩
        have x3 := b2.trans (b3.mono b2.size)
        generalize chaS m 0 (str (nonceL 1 n)) key = st at *
        have hcb := crcV_bd st
        have hfl := fixedL_length_le (crcV st) 4
        go_wp2_with fail
        refine (specCrc _ _ (by rw [str_size]; omega)).mono ?_
        rintro e w' ⟨rfl, rfl⟩
        rw [str_data]
        go_wp2_with fail
        refine (specFixed _ _ _ (by omega)).mono ?_
        rintro e w9 ⟨rfl, b9⟩
        have x9 := x3.trans (b9.mono x3.size)
        go_wp2
        go_ret
        exact ⟨by rw [HR.out]; rfl, x9⟩
      · have h2' : inB n 0 562949953421311 = false := by simpa using h2
        have HR := Lib.hid (show wrapL m n key = [] by unfold wrapL; rw [if_neg (by intro h; simp [wrapB, h2'] at h)])
        go_enter Try.func26, Try.ntmps26
        go_wp2_with (go_at_call 41; refine (l1In_any _ _ _ _).mono ?_; rintro e w' ⟨rfl, rfl⟩; rw [h2'])
        go_ret
        exact ⟨by rw [HR.out]; rfl, Below.refl _ _⟩
    · have HR := Lib.hid (show wrapL m n key = [] by unfold wrapL; rw [if_neg (by intro h; exact h3 h.2)])
      go_enter Try.func26, Try.ntmps26
      go_wp2
      go_ret
      exact ⟨by rw [HR.out]; rfl, Below.refl _ _⟩
  · have HR := Lib.hid (show wrapL m n key = [] by unfold wrapL; rw [if_neg (by intro h; simp [wrapB, h1] at h)])
    by_cases h3 : (key.size : Int) = 32
    all_goals
      go_enter Try.func26, Try.ntmps26
      go_wp2
      go_ret
      exact ⟨by rw [HR.out]; rfl, Below.refl _ _⟩

set_option maxRecDepth 100000 in
set_option maxHeartbeats 800000 in
theorem implWrap (m key : ByteArray) (n : Int) (w : World) (ht : (key.size : Int) ≤ 1048576) :
    Calls Try.prog 27 #[.string m, .int .i64 n, .string key] w fun e w' => e = .returned (.string (str (wrapL m n key))) ∧ Below w.heap.size w w' := by
  by_cases h1 : (m.size : Int) = 32
  · by_cases h3 : (key.size : Int) = 32
    · by_cases h2 : inB n 0 562949953421311 = true
      · have HR := Lib.hid (show wrapL m n key = sumL (chaS m 0 (str (nonceL 1 n)) key) by unfold wrapL; rw [if_pos ⟨by simp [wrapB, h1, h2], h3⟩])
        have hsl := chaS_length_le m 0 (str (nonceL 1 n)) key
        go_enter Try.func27, Try.ntmps27
        go_wp2_with (first | (go_at_call 59; refine (inRange_any _ _ _ _).mono ?_; rintro e w' ⟨rfl, rfl⟩; rw [h2]) | fail)
        go_wp2_with fail
        refine (implNonce _ _ _).mono ?_
        rintro e w2 ⟨rfl, b2⟩
        go_wp2_with fail
        refine (implChaStream _ _ _ _ _ ht).mono ?_
        rintro e w3 ⟨rfl, b3⟩
        have x3 := b2.trans (b3.mono b2.size)
        generalize chaS m 0 (str (nonceL 1 n)) key = st at *
        go_wp2_with fail
        refine (summed_any _ _ (by omega)).mono ?_
        rintro e w9 ⟨rfl, b9⟩
        have x9 := x3.trans (b9.mono x3.size)
        go_wp2
        go_ret
        exact ⟨by rw [HR.out]; rfl, x9⟩
      · have h2' : inB n 0 562949953421311 = false := by simpa using h2
        have HR := Lib.hid (show wrapL m n key = [] by unfold wrapL; rw [if_neg (by intro h; simp [wrapB, h2'] at h)])
        go_enter Try.func27, Try.ntmps27
        go_wp2_with (go_at_call 59; refine (inRange_any _ _ _ _).mono ?_; rintro e w' ⟨rfl, rfl⟩; rw [h2'])
        go_ret
        exact ⟨by rw [HR.out]; rfl, Below.refl _ _⟩
    · have HR := Lib.hid (show wrapL m n key = [] by unfold wrapL; rw [if_neg (by intro h; exact h3 h.2)])
      go_enter Try.func27, Try.ntmps27
      go_wp2
      go_ret
      exact ⟨by rw [HR.out]; rfl, Below.refl _ _⟩
  · have HR := Lib.hid (show wrapL m n key = [] by unfold wrapL; rw [if_neg (by intro h; simp [wrapB, h1] at h)])
    by_cases h3 : (key.size : Int) = 32
    all_goals
      go_enter Try.func27, Try.ntmps27
      go_wp2
      go_ret
      exact ⟨by rw [HR.out]; rfl, Below.refl _ _⟩
end Go.Proofs.Ytoflclofcnpjlaa


/- Walks: ChaBlock of the reference. -/
import Derived.Test.YtfbbdnicplbmdaaChaB
import Derived.Test.YtfbbdnicplbmdaaChaK
set_option linter.unusedVariables false
set_option linter.unusedSimpArgs false
namespace Go.Proofs.Ytfbbdnicplbmdaa
open Go.RowKit Sp
attribute [local go_sem] str_size str_append
set_option maxRecDepth 100000 in
set_option maxHeartbeats 800000 in
/-- ChaBlock of the reference, at every input. -/
theorem specChaBlock (key nonce : ByteArray) (c : Int) (w : World) :
    Calls Try.prog 162 #[.string key, .int .i64 c, .string nonce] w fun e w' => e = .returned (.string (str (chaB key c nonce))) ∧ Below w.heap.size w w' := by
  by_cases hok : chaOk key c nonce = true
  · obtain ⟨h1, h2, h3, n, rfl, h4⟩ := chaOk_parts hok
    rw [chaOk_yes hok, Int.toNat_natCast]
    go_enter Try.func162, Try.ntmps162
    go_wp2_with (first | (go_at_call 104; refine (l1In_any _ _ _ _).mono ?_; rintro e w' ⟨rfl, rfl⟩; rw [h3]) | (go_at_call 186; refine (l3Block_any _ _ _ _ h1 h2 h4).mono ?_; rintro e w1 ⟨rfl, b1⟩))
    go_ret
    exact ⟨rfl, b1⟩
  · have hok' : chaOk key c nonce = false := by simpa using hok
    rw [chaOk_not hok']
    by_cases k1 : (key.size : Int) = 32
    · by_cases k2 : (nonce.size : Int) = 12
      · have h3 : inB c 0 4294967295 = false := by
          cases hc : inB c 0 4294967295 with
          | false => rfl
          | true =>
            have : chaOk key c nonce = true := by simp [chaOk, hc]; omega
            rw [this] at hok'; cases hok'
        go_enter Try.func162, Try.ntmps162
        go_wp2_with (go_at_call 104; refine (l1In_any _ _ _ _).mono ?_; rintro e w' ⟨rfl, rfl⟩; rw [h3])
        go_ret
        exact ⟨rfl, Below.refl _ _⟩
      · go_enter Try.func162, Try.ntmps162
        go_wp2
        go_ret
        exact ⟨rfl, Below.refl _ _⟩
    · go_enter Try.func162, Try.ntmps162
      go_wp2
      go_ret
      exact ⟨rfl, Below.refl _ _⟩

end Go.Proofs.Ytfbbdnicplbmdaa

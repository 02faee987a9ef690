/- Walk: the law of BloomOf. -/
import Derived.Test.YtajjefpopjdfaaaBloomQ
import Derived.Test.YtajjefpopjdfaaaOpen
set_option linter.unusedVariables false
set_option linter.unusedSimpArgs false
namespace Go.Proofs.Ytajjefpopjdfaaa
open Go.ChangeShapes Go.WideShapes Go.Deep Go.RowKit Sp
theorem sum_le {l : List ByteArray} {m : Int} (h : sumSz strSz l ≤ m) : ∀ x ∈ l, (x.size : Int) ≤ m := by
  intro x hx
  obtain ⟨i, hi, rfl⟩ := List.getElem_of_mem hx
  have h1 := sumSz_step strSz l i hi
  have h2 := sumSz_take_le strSz_nonneg l (i + 1)
  have h3 := sumSz_nonneg strSz_nonneg (l.take i)
  simp only [strSz] at h1 h2 h3
  omega
set_option maxRecDepth 100000 in
theorem openStrs {H : Type} {enc : TypeId × Value → H} {w : World} {base b0 : Nat} {spare : Nat → Bool} {held : Bool} {r : Reach} {v : Value} {d : DataW H} {p : List MemPlace} (hv : Value.okWide Try.prog w r b0 29 v) (h : DataW.Trod enc Try.prog w base spare held 29 v d p) :
    ∃ l : List ByteArray, SlT strCells 1 w v l ∧ ∀ x ∈ l, x.size ≤ maxLen := by
  obtain ⟨a, len, cap, rfl⟩ := okWide_slice Try.underlying29 hv
  obtain ⟨fuel, hf⟩ := h
  exact open_strs_at Try.underlying29 Try.underlying9 (by kernel_rfl) hf

set_option maxRecDepth 100000 in
set_option maxHeartbeats 400000 in
theorem walkFnExactBloomOf (w : World) (v : Value) (l : List ByteArray) (h : SlT strCells 1 w v l) (hok : ∀ x ∈ l, x.size ≤ maxLen) (a1 : Int) (w1 : (Lit.int .i64 a1).wf = true) :
    Calls Try.prog 4 #[v, .int .i64 a1] w fun e w' => e = .returned (.bool true) ∧ Below w.heap.size w w' := by
  have hnn := sumSz_nonneg strSz_nonneg l
  by_cases hbig : (1048576 : Int) - (l.length + sumSz strSz l) < 0
  · have hd := dec_neg hbig
    go_enter Try.func4, Try.ntmps4
    go_wp2_with (go_at_call 15; refine (szStrS_any v l hok _ _ h (by omega) (by omega)).mono ?_; rintro e w1 ⟨rfl, b1⟩; rw [hd])
    go_ret
    exact ⟨rfl, b1⟩
  · have hd := dec_pos hbig
    have hd2 : decide ((1048576 : Int) - (l.length + sumSz strSz l) < 0) = false := decide_eq_false hbig
    have hl : (l.length : Int) ≤ 1048576 := by omega
    have hsum : sumSz strSz l ≤ 1048576 := by omega
    have hks := sum_le hsum
    have HK := Lib.hid hks
    clear hks
    go_enter Try.func4, Try.ntmps4
    go_wp2_with (go_at_call 15; refine (szStrS_any v l hok _ _ h (by omega) (by omega)).mono ?_; rintro e w1 ⟨rfl, b1⟩; rw [hd])
    have h1 := h.below b1
    go_wp2_with (go_at_call 17; refine (toStrS_any v l _ h1 hl).mono ?_; rintro e w2 ⟨g, rfl, o2, b2⟩; have c2 := b1.trans (b2.mono b1.size); have h2 := h.below c2; have s2 := SlT.of_own o2 (fun _ => rfl) (by omega))
    go_wp2_with (go_at_call 16; refine (specBloomOf _ l _ _ s2 HK.out hl).mono ?_; rintro e w3 ⟨rfl, b3⟩; have c3 := c2.trans (b3.mono c2.size); have h3 := h.below c3)
    go_wp2_with (go_at_call 17; refine (toStrS_any v l _ h3 hl).mono ?_; rintro e w4 ⟨g', rfl, o4, b4⟩; have c4 := c3.trans (b4.mono c3.size); have h4 := h.below c4; have s4 := SlT.of_own o4 (fun _ => rfl) (by omega))
    go_wp2_with (go_at_call 18; refine (implBloomOf _ l _ _ s4 HK.out hl).mono ?_; rintro e w5 ⟨rfl, b5⟩; have c5 := c4.trans (b5.mono c4.size); have h5 := h.below c5; have s5 := s4.below b5)
    go_wp2_with (go_at_call 17; refine (toStrS_any v l _ h5 hl).mono ?_; rintro e w6 ⟨g'', rfl, o6, b6⟩; have c6 := c5.trans (b6.mono c5.size); have s6 := SlT.of_own o6 (fun _ => rfl) (by omega); have s5' := s5.below b6)
    go_wp2_with (go_at_call 19; refine (eqStrS_any _ _ l _ s5' s6 hl).mono ?_; rintro e w7 ⟨rfl, b7⟩; have c7 := c6.trans (b7.mono c6.size))
    go_ret
    exact ⟨rfl, c7⟩
end Go.Proofs.Ytajjefpopjdfaaa

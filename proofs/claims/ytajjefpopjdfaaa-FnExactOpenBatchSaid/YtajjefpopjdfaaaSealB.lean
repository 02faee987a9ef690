/- Walks: SealBatch of both sides; the law. -/
import Derived.Test.YtajjefpopjdfaaaShowB
import Derived.Test.YtajjefpopjdfaaaStrI
import Derived.Test.YtajjefpopjdfaaaNonce
import Derived.Test.YtajjefpopjdfaaaKOpA
set_option linter.unusedVariables false
set_option linter.unusedSimpArgs false
namespace Go.Proofs.Ytajjefpopjdfaaa
open Go.RowKit Sp Go.Sort
attribute [local go_sem] str_size str_append
namespace Sp
def placeB (b s : Int) : Bool := inB b 0 1000 && inB s 0 999999
def sealBL (key : ByteArray) (boot seq : Int) (l : List OpR) : List UInt8 := if (key.size : Int) = 32 ∧ placeB boot seq = true ∧ batchB l = true then chaS key 0 (str (nonceL 3 (boot * 1000000 + seq))) (str (showBL l)) else []
theorem showBL_len (l : List OpR) : (showBL l).length ≤ 300 := by
  unfold showBL
  split
  · rename_i h
    have h1 := opsL_len h l.length (Nat.le_refl _)
    have h2 := (batch_ops h).1
    have h3 := varL_length (l.length : Int)
    rw [List.take_length] at h1
    rw [List.length_append]; omega
  · simp
end Sp
set_option maxRecDepth 100000 in
theorem isPlace_any (b s : Int) (w : World) : Calls Try.prog 64 #[.int .i64 b, .int .i64 s] w fun e w' => e = .returned (.bool (inB b 0 1000 && inB s 0 999999)) ∧ w = w' := by
  rcases hq : inB b 0 1000 with _ | _
  all_goals
    go_enter Try.func64, Try.ntmps64
    go_wp2_with (go_at_call 43; refine (inRange_any _ _ _ _).mono ?_; rintro e w' ⟨rfl, rfl⟩; try rw [hq])
    go_ret
    exact ⟨rfl, rfl⟩
set_option maxRecDepth 100000 in
theorem l8At_any (b s : Int) (w : World) : Calls Try.prog 61 #[.int .i64 b, .int .i64 s] w fun e w' => e = .returned (.bool (inB b 0 1000 && inB s 0 999999)) ∧ w = w' := by
  rcases hq : inB b 0 1000 with _ | _
  all_goals
    go_enter Try.func61, Try.ntmps61
    go_wp2_with (go_at_call 38; refine (l1In_any _ _ _ _).mono ?_; rintro e w' ⟨rfl, rfl⟩; try rw [hq])
    go_ret
    exact ⟨rfl, rfl⟩
set_option maxRecDepth 100000 in
set_option maxHeartbeats 400000 in
theorem rowNonce_any (b s : Int) (w : World) (h1 : 0 ≤ b ∧ b ≤ 1000) (h2 : 0 ≤ s ∧ s ≤ 999999) : Calls Try.prog 66 #[.int .i64 b, .int .i64 s] w fun e w' => e = .returned (.string (str (nonceL 3 (b * 1000000 + s)))) ∧ Below w.heap.size w w' := by
  go_enter Try.func66, Try.ntmps66
  go_wp2_with fail
  refine (implNonce _ _ _).mono ?_
  rintro e w2 ⟨rfl, b2⟩
  go_wp2
  go_ret
  exact ⟨rfl, b2⟩

set_option maxRecDepth 100000 in
set_option maxHeartbeats 1600000 in
theorem specSealBatch (key : ByteArray) (boot seq : Int) (v : Value) (l : List OpR) (w : World) (h : SlT OpR.cells 3 w v l) (hl : (l.length : Int) ≤ 1048576) :
    Calls Try.prog 26 #[.string key, .int .i64 boot, .int .i64 seq, v] w fun e w' => e = .returned (.string (str (sealBL key boot seq l))) ∧ Below w.heap.size w w' := by
  have hh := h
  obtain ⟨ao, cap, rfl, hlc, hcm, hsh⟩ := h.shape
  clear hsh h
  rcases hb : batchB l with _ | _
  · have HR := Lib.hid (show sealBL key boot seq l = [] by unfold sealBL; rw [if_neg (by rw [hb]; simp)])
    rcases hp : (inB boot 0 1000 && inB seq 0 999999) with _ | _
    all_goals
      by_cases hk : (key.size : Int) = 32
      all_goals
        go_enter Try.func26, Try.ntmps26
        go_wp2_with (first | (go_at_call 11; refine (specBatchOk _ l _ hh hl).mono ?_; rintro e w1 ⟨rfl, b1⟩; rw [hb]) | (go_at_call 61; refine (l8At_any _ _ _).mono ?_; rintro e w' ⟨rfl, rfl⟩; rw [hp]))
        go_ret
        first | exact ⟨by rw [HR.out]; rfl, b1⟩ | exact ⟨by rw [HR.out]; rfl, Below.refl _ _⟩
  · by_cases hk : (key.size : Int) = 32
    · rcases hp : (inB boot 0 1000 && inB seq 0 999999) with _ | _
      · have HR := Lib.hid (show sealBL key boot seq l = [] by unfold sealBL placeB; rw [hp, if_neg (by simp)])
        go_enter Try.func26, Try.ntmps26
        go_wp2_with (first | (go_at_call 11; refine (specBatchOk _ l _ hh hl).mono ?_; rintro e w1 ⟨rfl, b1⟩; rw [hb]) | (go_at_call 61; refine (l8At_any _ _ _).mono ?_; rintro e w' ⟨rfl, rfl⟩; rw [hp]))
        go_ret
        first | exact ⟨by rw [HR.out]; rfl, b1⟩ | exact ⟨by rw [HR.out]; rfl, Below.refl _ _⟩
      · have HR := Lib.hid (show sealBL key boot seq l = chaS key 0 (str (nonceL 3 (boot * 1000000 + seq))) (str (showBL l)) by unfold sealBL placeB; rw [hp, hb, if_pos (by simp; omega)])
        have hpp := hp
        rw [Bool.and_eq_true, inB_iff, inB_iff] at hpp
        obtain ⟨hp1, hp2⟩ := hpp
        have hsl := showBL_len l
        go_enter Try.func26, Try.ntmps26
        go_wp2_with (first | (go_at_call 11; refine (specBatchOk _ l _ hh hl).mono ?_; rintro e w1 ⟨rfl, b1⟩; rw [hb]) | (go_at_call 61; refine (l8At_any _ _ _).mono ?_; rintro e w' ⟨rfl, rfl⟩; rw [hp]) | fail)
        go_wp2_with fail
        refine (specNonce _ _ _).mono ?_
        rintro e w2 ⟨rfl, b2⟩
        have x2 := b1.trans (b2.mono b1.size)
        go_wp2_with fail
        refine (specShowBatch _ l _ (hh.below x2) hl).mono ?_
        rintro e w3 ⟨rfl, b3⟩
        have x3 := x2.trans (b3.mono x2.size)
        go_wp2_with fail
        refine (specChaStream _ _ _ _ _ (by rw [str_size]; omega)).mono ?_
        rintro e w4 ⟨rfl, b4⟩
        have x4 := x3.trans (b4.mono x3.size)
        go_wp2
        go_ret
        exact ⟨by rw [HR.out]; rfl, x4⟩
    · have HR := Lib.hid (show sealBL key boot seq l = [] by unfold sealBL; rw [if_neg (by intro hx; exact hk hx.1)])
      rcases hp : (inB boot 0 1000 && inB seq 0 999999) with _ | _
      all_goals
        go_enter Try.func26, Try.ntmps26
        go_wp2_with (first | (go_at_call 11; refine (specBatchOk _ l _ hh hl).mono ?_; rintro e w1 ⟨rfl, b1⟩; rw [hb]) | (go_at_call 61; refine (l8At_any _ _ _).mono ?_; rintro e w' ⟨rfl, rfl⟩; rw [hp]))
        go_ret
        first | exact ⟨by rw [HR.out]; rfl, b1⟩ | exact ⟨by rw [HR.out]; rfl, Below.refl _ _⟩

set_option maxRecDepth 100000 in
set_option maxHeartbeats 1600000 in
theorem implSealBatch (key : ByteArray) (boot seq : Int) (v : Value) (l : List OpR) (w : World) (h : SlT OpR.cells 3 w v l) (hl : (l.length : Int) ≤ 1048576) :
    Calls Try.prog 27 #[.string key, .int .i64 boot, .int .i64 seq, v] w fun e w' => e = .returned (.string (str (sealBL key boot seq l))) ∧ Below w.heap.size w w' := by
  have hh := h
  obtain ⟨ao, cap, rfl, hlc, hcm, hsh⟩ := h.shape
  clear hsh h
  rcases hb : batchB l with _ | _
  · have HR := Lib.hid (show sealBL key boot seq l = [] by unfold sealBL; rw [if_neg (by rw [hb]; simp)])
    rcases hp : (inB boot 0 1000 && inB seq 0 999999) with _ | _
    all_goals
      by_cases hk : (key.size : Int) = 32
      all_goals
        go_enter Try.func27, Try.ntmps27
        go_wp2_with (first | (go_at_call 13; refine (implBatchOk _ l _ hh hl).mono ?_; rintro e w1 ⟨rfl, b1⟩; rw [hb]) | (go_at_call 64; refine (isPlace_any _ _ _).mono ?_; rintro e w' ⟨rfl, rfl⟩; rw [hp]))
        go_ret
        first | exact ⟨by rw [HR.out]; rfl, b1⟩ | exact ⟨by rw [HR.out]; rfl, Below.refl _ _⟩
  · by_cases hk : (key.size : Int) = 32
    · rcases hp : (inB boot 0 1000 && inB seq 0 999999) with _ | _
      · have HR := Lib.hid (show sealBL key boot seq l = [] by unfold sealBL placeB; rw [hp, if_neg (by simp)])
        go_enter Try.func27, Try.ntmps27
        go_wp2_with (first | (go_at_call 13; refine (implBatchOk _ l _ hh hl).mono ?_; rintro e w1 ⟨rfl, b1⟩; rw [hb]) | (go_at_call 64; refine (isPlace_any _ _ _).mono ?_; rintro e w' ⟨rfl, rfl⟩; rw [hp]))
        go_ret
        first | exact ⟨by rw [HR.out]; rfl, b1⟩ | exact ⟨by rw [HR.out]; rfl, Below.refl _ _⟩
      · have HR := Lib.hid (show sealBL key boot seq l = chaS key 0 (str (nonceL 3 (boot * 1000000 + seq))) (str (showBL l)) by unfold sealBL placeB; rw [hp, hb, if_pos (by simp; omega)])
        have hpp := hp
        rw [Bool.and_eq_true, inB_iff, inB_iff] at hpp
        obtain ⟨hp1, hp2⟩ := hpp
        have hsl := showBL_len l
        go_enter Try.func27, Try.ntmps27
        go_wp2_with (first | (go_at_call 13; refine (implBatchOk _ l _ hh hl).mono ?_; rintro e w1 ⟨rfl, b1⟩; rw [hb]) | (go_at_call 64; refine (isPlace_any _ _ _).mono ?_; rintro e w' ⟨rfl, rfl⟩; rw [hp]) | fail)
        go_wp2_with fail
        refine (rowNonce_any _ _ _ hp1 hp2).mono ?_
        rintro e w2 ⟨rfl, b2⟩
        have x2 := b1.trans (b2.mono b1.size)
        go_wp2_with fail
        refine (implShowBatch _ l _ (hh.below x2) hl).mono ?_
        rintro e w3 ⟨rfl, b3⟩
        have x3 := x2.trans (b3.mono x2.size)
        go_wp2_with fail
        refine (implChaStream _ _ _ _ _ (by rw [str_size]; omega)).mono ?_
        rintro e w4 ⟨rfl, b4⟩
        have x4 := x3.trans (b4.mono x3.size)
        go_wp2
        go_ret
        exact ⟨by rw [HR.out]; rfl, x4⟩
    · have HR := Lib.hid (show sealBL key boot seq l = [] by unfold sealBL; rw [if_neg (by intro hx; exact hk hx.1)])
      rcases hp : (inB boot 0 1000 && inB seq 0 999999) with _ | _
      all_goals
        go_enter Try.func27, Try.ntmps27
        go_wp2_with (first | (go_at_call 13; refine (implBatchOk _ l _ hh hl).mono ?_; rintro e w1 ⟨rfl, b1⟩; rw [hb]) | (go_at_call 64; refine (isPlace_any _ _ _).mono ?_; rintro e w' ⟨rfl, rfl⟩; rw [hp]))
        go_ret
        first | exact ⟨by rw [HR.out]; rfl, b1⟩ | exact ⟨by rw [HR.out]; rfl, Below.refl _ _⟩

set_option maxRecDepth 100000 in
set_option maxHeartbeats 800000 in
theorem walkFnExactSealBatch (w : World) (a0 : ByteArray) (w0 : a0.size ≤ maxLen) (a1 : Int) (w1 : (Lit.int .i64 a1).wf = true) (a2 : Int) (w2 : (Lit.int .i64 a2).wf = true) (v : Value) (l : List OpR) (h : SlT OpR.cells 3 w v l) (hok : ∀ x ∈ l, x.ok) :
    Calls Try.prog 7 #[.string a0, .int .i64 a1, .int .i64 a2, v] w fun e w' => e = .returned (.bool true) ∧ Below w.heap.size w w' := by
  have hnn := sumSz_nonneg OpR.sz_nonneg l
  by_cases hb1 : (1048576 : Int) < a0.size
  · go_enter Try.func7, Try.ntmps7
    go_wp2
    go_ret
    exact ⟨rfl, Below.refl _ _⟩
  by_cases hbig : (1048576 : Int) - (l.length + sumSz OpR.sz l) < 0
  · have hd := dec_neg hbig
    go_enter Try.func7, Try.ntmps7
    go_wp2_with (go_at_call 10; refine (szOpS_any v l hok _ _ h (by omega) (by omega)).mono ?_; rintro e w1 ⟨rfl, b1⟩; rw [hd])
    go_ret
    exact ⟨rfl, b1⟩
  · have hd := dec_pos hbig
    have hd2 : decide ((1048576 : Int) - (l.length + sumSz OpR.sz l) < 0) = false := decide_eq_false hbig
    have hl : (l.length : Int) ≤ 1048576 := by omega
    go_enter Try.func7, Try.ntmps7
    go_wp2_with (go_at_call 10; refine (szOpS_any v l hok _ _ h (by omega) (by omega)).mono ?_; rintro e w1 ⟨rfl, b1⟩; rw [hd])
    have h1 := h.below b1
    go_wp2_with fail
    refine (toOpS_any v l _ h1 hl).mono ?_
    rintro e w2 ⟨g, rfl, o2, b2⟩
    have c2 := b1.trans (b2.mono b1.size)
    have s2 := SlT.of_own o2 (fun _ => rfl) (by omega)
    go_wp2_with fail
    refine (specSealBatch _ _ _ _ l _ s2 hl).mono ?_
    rintro e w3 ⟨rfl, b3⟩
    have c3 := c2.trans (b3.mono c2.size)
    go_wp2_with fail
    refine (toOpS_any v l _ (h.below c3) hl).mono ?_
    rintro e w4 ⟨g', rfl, o4, b4⟩
    have c4 := c3.trans (b4.mono c3.size)
    have s4 := SlT.of_own o4 (fun _ => rfl) (by omega)
    go_wp2_with fail
    refine (implSealBatch _ _ _ _ l _ s4 hl).mono ?_
    rintro e w5 ⟨rfl, b5⟩
    have c5 := c4.trans (b5.mono c4.size)
    have s5 := s4.below b5
    go_wp2_with fail
    refine (toOpS_any v l _ (h.below c5) hl).mono ?_
    rintro e w6 ⟨g'', rfl, o6, b6⟩
    have c6 := c5.trans (b6.mono c5.size)
    have s6 := SlT.of_own o6 (fun _ => rfl) (by omega)
    go_wp2_with fail
    refine (eqOpS_any _ _ l _ (s5.below b6) s6 hl).mono ?_
    rintro e w7 ⟨rfl, b7⟩
    have c7 := c6.trans (b7.mono c6.size)
    go_wp2
    go_ret
    exact ⟨rfl, c7⟩
end Go.Proofs.Ytajjefpopjdfaaa

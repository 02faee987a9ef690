
/- Walk: the law FnNumbers. -/
import Derived.Test.YtfbbdnicplbmdaaDoorCurS
import Derived.Test.YtfbbdnicplbmdaaDoorFNumP
import Derived.Test.YtfbbdnicplbmdaaDoorBig
import Derived.Test.YtfbbdnicplbmdaaDoorVarW
import Derived.Test.YtfbbdnicplbmdaaDoorReadVarI
import Derived.Test.YtfbbdnicplbmdaaDoorFixedI
import Derived.Test.YtfbbdnicplbmdaaDoorDecW
import Derived.Test.YtfbbdnicplbmdaaDoorRDecW
import Derived.Test.YtfbbdnicplbmdaaDoorExt
import Derived.Deep.DeepCutAuto
set_option linter.unusedVariables false
set_option linter.unusedSimpArgs false
namespace Go.Proofs.YtfbbdnicplbmdaaDoor
open Go.RowKit Sp Go.Sort
theorem itoa_len (n : Int) (h : inI64 n) : ((str (Lib.itoa n)).size : Int) ≤ 100 := by
  rw [str_size]
  unfold inI64 at h
  rcases itoa_cases n with ⟨h1, he⟩ | ⟨h1, he⟩ <;> rw [he]
  · have := dec_len 20 n.toNat (by simp; omega)
    omega
  · have := dec_len 20 n.natAbs (by simp; omega)
    rw [List.length_cons]
    omega
/-- What the law's first test asks. -/
theorem var_case (n : Int) (tail : ByteArray) :
    ((0 ≤ n ∧ n ≤ 562949953421311) ∧ (str (varL n)).toList.isEmpty = false ∧ ∃ X K : Nat, readVarL (str (varL n) ++ tail).data.toList = (X, K) ∧ n = (X : Int) ∧ (str (varL n)).size = K) ∨ (¬ (0 ≤ n ∧ n ≤ 562949953421311) ∧ (str (varL n)).toList.isEmpty = true) := by
  by_cases h : 0 ≤ n ∧ n ≤ 562949953421311
  · obtain ⟨m, rfl⟩ := Int.eq_ofNat_of_zero_le h.1
    rw [varL_nat (by omega)]
    exact .inl ⟨h, emp_iff _ (varB_pos m), m, (varB m).length, var_back (by omega) tail, rfl, rfl⟩
  · rw [varL_not h]
    exact .inr ⟨h, emp_nil⟩
theorem fixed_case (n : Int) (tail : ByteArray) :
    ((0 ≤ n ∧ n < 72057594037927936) ∧ (str (fixedL n 7)).toList.isEmpty = false ∧ (str (fixedL n 7)).size = 7 ∧ ∃ X : Nat, readFixedL (str (fixedL n 7) ++ tail).data.toList 7 = (X, true) ∧ n = (X : Int)) ∨ ((n < 0 ∨ 72057594037927936 ≤ n) ∧ (str (fixedL n 7)).toList.isEmpty = true) := by
  by_cases h : 0 ≤ n ∧ n < 72057594037927936
  · obtain ⟨m, rfl⟩ := Int.eq_ofNat_of_zero_le h.1
    obtain ⟨h1, h2⟩ := fixed_back (m := m) (by omega) tail
    have hl := beB_length 7 m
    rw [h1]
    exact .inl ⟨h, emp_iff _ (by omega), by rw [str_size, hl], m, h2, rfl⟩
  · rw [fixed_not (by omega)]
    exact .inr ⟨by omega, emp_nil⟩

set_option maxRecDepth 100000 in
set_option maxHeartbeats 6400000 in
theorem walkFnNumbers (w : World) (ht : Tab w) (v : Value) (xs : List UInt8) (h : SlT bytC 1 w v xs) :
    Calls Tryd.prog 3 #[v] w fun e w' => e = .returned (.bool true) ∧ Below w.heap.size w w' := by
  by_cases hbig : 1048576 < (xs.length : Int)
  · go_enter Tryd.func3, Tryd.ntmps3
    go_wp2_with fail
    refine (big_any v xs _ h).mono ?_
    rintro e w1 ⟨rfl, rfl⟩
    rw [decide_eq_true hbig]
    go_wp2
    go_ret
    exact ⟨rfl, Below.refl _ _⟩
  go_enter Tryd.func3, Tryd.ntmps3
  go_wp2_with fail
  refine (big_any v xs _ h).mono ?_
  rintro e w1 ⟨rfl, rfl⟩
  rw [decide_eq_false (show ¬ 1048576 < (xs.length : Int) from by omega)]
  go_wp2_with fail
  refine (drawVar_any v xs _ h (by omega)).mono ?_
  rintro e w1 ⟨n, rfl, hn, x1⟩
  go_wp2_with fail
  refine (drawHex_any v xs _ (h.below x1) (by omega)).mono ?_
  rintro e w2 ⟨tail, rfl, htl, b2⟩
  have x2 := x1.trans (b2.mono x1.size)
  clear x1 b2
  go_wp2_with fail
  refine (implVar n _).mono ?_
  rintro e w3 ⟨rfl, b3⟩
  have x3 := x2.trans (b3.mono x2.size)
  clear x2 b3
  have hc := var_case n tail
  have hv := varL_length n
  have hs : ((str (varL n)).size : Int) ≤ 7 := by rw [str_size]; omega
  generalize str (varL n) = s at *
  have a1 : ¬ 9223372036854775807 < s.size + tail.size := by omega
  have a2 : ((s ++ tail).size : Int) ≤ 9223372036854775807 := by rw [ByteArray.size_append]; omega
  go_wp2_with fail
  refine (implReadVar (s ++ tail) _ a2).mono ?_
  rintro e w4 ⟨rfl, rfl⟩
  generalize readVarL (s ++ tail).data.toList = XK at *
  obtain ⟨X0, K0⟩ := XK
  dsimp only at hc ⊢
  go_upto_region 7 with fail
  go_cut [55] (fun s55 wx => s55 = .bool false ∧ Below w.heap.size w wx)
  case first =>
    rcases hc with ⟨⟨h1, h2⟩, h3, X, K, h4, h5, h6⟩ | ⟨h1, h3⟩
    · obtain ⟨rfl, rfl⟩ : X0 = X ∧ K0 = K := by simpa using h4
      clear h4 a1 a2 hv hs
      subst h5
      subst h6
      have q1 : ((X0 : Int) == X0) = true := beq_self_eq_true _
      have q2 : ((s.size : Int) == s.size) = true := beq_self_eq_true _
      go_wp2
      go_meet
      exact ⟨rfl, x3⟩
    · have hd : (decide (0 ≤ n) && decide (n ≤ 562949953421311)) = false := by
        rw [Bool.and_eq_false_iff, decide_eq_false_iff_not, decide_eq_false_iff_not]; omega
      have h1' : 0 ≤ n → ¬ n ≤ 562949953421311 := fun a b => h1 ⟨a, b⟩
      clear a1 a2 hv hs h1
      by_cases hp : 0 ≤ n
      · have hp2 := h1' hp
        go_wp2
        go_meet
        exact ⟨rfl, x3⟩
      · go_wp2
        go_meet
        exact ⟨rfl, x3⟩
  case rest =>
  clear x3 hc hv hs a1 a2
  obtain ⟨rfl, x3⟩ := hcut
  have hn2 : n ≤ 9223372036854775807 := by unfold inI64 at hn; omega
  have hn1 : -9223372036854775808 ≤ n := by unfold inI64 at hn; omega
  go_wp2_with fail
  refine (implFixed n 7 _ hn2).mono ?_
  rintro e w5 ⟨rfl, b5⟩
  have x5 := x3.trans (b5.mono x3.size)
  clear x3 b5
  have hc := fixed_case n tail
  have hv := fixedL_length_le n 7
  have hs : ((str (fixedL n 7)).size : Int) ≤ 7 := by rw [str_size]; omega
  generalize str (fixedL n 7) = t at *
  have a1 : ¬ 9223372036854775807 < t.size + tail.size := by omega
  go_wp2_with fail
  refine (implReadFixed (t ++ tail) 7 _).mono ?_
  rintro e w6 ⟨rfl, rfl⟩
  generalize readFixedL (t ++ tail).data.toList 7 = XK at *
  obtain ⟨X1, ok1⟩ := XK
  dsimp only at hc ⊢
  go_upto_region 11 with fail
  go_cut [91] (fun s91 wx => s91 = .bool false ∧ Below w.heap.size w wx)
  case first =>
    rcases hc with ⟨⟨h1, h2⟩, h3, h6, X, h4, h5⟩ | ⟨h1, h3⟩
    · obtain ⟨rfl, rfl⟩ : X1 = X ∧ ok1 = true := by simpa using h4
      clear h4 a1 hv hs hn hn1 hn2
      subst h5
      have q1 : ((X1 : Int) == X1) = true := beq_self_eq_true _
      have q2 : ¬ (X1 : Int) < 0 := by omega
      have q3 : ¬ (72057594037927936 : Int) ≤ X1 := by omega
      have q4 : ((t.size : Int) == 7) = true := by rw [h6]; rfl
      go_wp2
      go_meet
      exact ⟨rfl, x5⟩
    · clear a1 hv hs hn hn1 hn2
      by_cases hp : n < 0
      · clear h1
        go_wp2
        go_meet
        exact ⟨rfl, x5⟩
      · have hq : 72057594037927936 ≤ n := by omega
        clear h1
        go_wp2
        go_meet
        exact ⟨rfl, x5⟩
  case rest =>
  clear x5 hc hv hs a1
  obtain ⟨rfl, x5⟩ := hcut
  go_wp2_with fail
  refine (implDec n _ hn1 hn2 (tab_below ht x5)).mono ?_
  rintro e w7 ⟨rfl, b7⟩
  have x7 := x5.trans (b7.mono x5.size)
  clear x5 b7
  have hs := itoa_len n hn
  have HSD : RowKit.Hid ((str (Lib.itoa n)).data.toList = Lib.itoa n) := str_data _
  generalize str (Lib.itoa n) = di at *
  go_wp2_with fail
  refine (implReadDec di _ (by omega) (tab_below ht x7)).mono ?_
  rintro e w8 ⟨⟨d, fine, hrd, rfl⟩, b8⟩
  have x8 := x7.trans (b8.mono x7.size)
  rw [HSD.out] at hrd
  obtain ⟨hf, hd⟩ := dec_back hrd
  have HF := Lib.hid hf
  have HDD := Lib.hid hd
  clear x7 b8 hs hrd hf hd HSD
  go_upto_region 14 with fail
  go_cut [113] (fun s113 wx => s113 = .bool false ∧ Below w.heap.size w wx)
  case first =>
    clear hn hn1 hn2
    cases fine
    · have h1 : ¬ (-1000000000 < n ∧ n < 1000000000) := of_decide_eq_false HF.out.symm
      clear HF HDD
      by_cases hp : -1000000000 < n
      · have hq : ¬ n < 1000000000 := fun h => h1 ⟨hp, h⟩
        clear h1
        go_wp2
        go_meet
        exact ⟨rfl, x8⟩
      · clear h1
        go_wp2
        go_meet
        exact ⟨rfl, x8⟩
    · obtain ⟨h1, h2⟩ : -1000000000 < n ∧ n < 1000000000 := of_decide_eq_true HF.out.symm
      obtain rfl := HDD.out rfl
      clear HF HDD
      have q1 : (d == d) = true := beq_self_eq_true _
      go_wp2
      go_meet
      exact ⟨rfl, x8⟩
  case rest =>
  clear x8 HF HDD
  obtain ⟨rfl, x8⟩ := hcut
  go_wp2_with fail
  refine (implHex tail _ (by omega)).mono ?_
  rintro e w9 ⟨rfl, b9⟩
  have x9 := x8.trans (b9.mono x8.size)
  clear x8 b9
  have hl : ((str (hexL tail.data.toList)).size : Int) ≤ 1048576 := by
    rw [str_size, hexL_length]
    have : tail.data.toList.length = tail.size := by simp
    omega
  have hx : unhexV (str (hexL tail.data.toList)).data.toList = (tail.data.toList, true) := by rw [str_data, unhexV_hex]
  generalize str (hexL tail.data.toList) = hx1 at *
  have HX := Lib.hid hx
  clear hx
  go_wp2_with fail
  refine (implUnhex hx1 _ hl).mono ?_
  rintro e w10 ⟨rfl, b10⟩
  rw [HX.out]
  dsimp only
  rw [str_of]
  have x10 := x9.trans (b10.mono x9.size)
  clear x9 b10 HX hl
  go_wp2_with fail
  refine (drawReadVar_ex v xs _ (h.below x10) (by omega)).mono ?_
  rintro e w11 ⟨rfl, hu, b11⟩
  have x11 := x10.trans (b11.mono x10.size)
  clear x10 b11
  obtain ⟨u, HU⟩ : ∃ u, RowKit.Hid (drVar xs = u) := ⟨_, rfl⟩
  rw [HU.out] at hu ⊢
  have ht2 := readVar_text u.data.toList
  go_wp2_with fail
  refine (implReadVar u _ (by omega)).mono ?_
  rintro e w12 ⟨rfl, rfl⟩
  obtain ⟨⟨z, j⟩, hz⟩ : ∃ p, readVarL u.data.toList = p := ⟨_, rfl⟩
  rw [hz] at ht2 ⊢
  clear hz
  dsimp only at ht2 ⊢
  have q1 : (tail.toList == tail.toList) = true := beq_self_eq_true _
  by_cases hj : j = 0
  · subst hj
    go_wp2
    go_ret
    exact ⟨rfl, x11⟩
  · obtain ⟨h1, h2, h3⟩ := ht2 hj
    have hj' : ¬ (j : Int) = 0 := by omega
    have hj2 : ((j : Int) == 0) = false := by rw [beq_eq_false_iff_ne]; omega
    have hul : u.data.toList.length = u.size := by simp
    have hju : (j : Int) ≤ u.size := by omega
    have H2 := Lib.hid (show str (varL (z : Int)) = u.extract 0 j from by rw [h2, ext_str, List.drop_zero, Nat.sub_zero])
    clear ht2 h2 h3 hj hul
    go_wp2_with fail
    refine (implVar (z : Int) _).mono ?_
    rintro e w13 ⟨rfl, b13⟩
    rw [H2.out]
    have x13 := x11.trans (b13.mono x11.size)
    go_wp2_with fail
    refine (drawReadVar_ex v xs _ (h.below x13) (by omega)).mono ?_
    rintro e w14 ⟨rfl, _, b14⟩
    rw [HU.out]
    have x14 := x13.trans (b14.mono x13.size)
    have q2 : ((u.extract 0 j).toList == (u.extract 0 j).toList) = true := beq_self_eq_true _
    go_wp2
    go_ret
    exact ⟨rfl, x14⟩
end Go.Proofs.YtfbbdnicplbmdaaDoor


/- Walk: the law FnKeys. -/
import Derived.Test.YtfbbdnicplbmdaaKeyM1
import Derived.Test.YtfbbdnicplbmdaaSealP
import Derived.Test.YtfbbdnicplbmdaaKeyM2
import Derived.BigQuiet
import Derived.Lib.Hide
/- Walk: the laws' test of a code that is too long. -/
set_option linter.unusedVariables false
set_option linter.unusedSimpArgs false
namespace Go.Proofs.Ytfbbdnicplbmdaa
open Go.RowKit Sp Go.Sort
set_option maxRecDepth 100000 in
theorem big_any (v : Value) (xs : List UInt8) (w : World) (h : SlT bytC 1 w v xs) :
    Calls Try.prog 11 #[v] w fun e w' => e = .returned (.bool (decide (1048576 < (xs.length : Int)))) ∧ w = w' := by
  obtain ⟨ao, cap, rfl, hlc, hcm, hsh⟩ := h.shape
  go_enter Try.func11, Try.ntmps11
  go_wp2
  go_ret
  exact ⟨rfl, rfl⟩
end Go.Proofs.Ytfbbdnicplbmdaa
/- Plain: what the law of the keys asks. -/
set_option linter.unusedVariables false
set_option linter.unusedSimpArgs false
namespace Go.Proofs.Ytfbbdnicplbmdaa
open Go.RowKit Sp Go.Sort
namespace Sp
theorem stT_at (key nonce : ByteArray) (c : Nat) (t : List UInt8) : ∀ n i, i < n → (stT key nonce c t n)[i]? = some (streamAt key nonce c t i)
  | 0, i, h => by omega
  | n + 1, i, h => by
    by_cases hi : i < n
    · show (stT key nonce c t n ++ [streamAt key nonce c t n])[i]? = _
      rw [List.getElem?_append_left (by rw [stT_length]; exact hi)]
      exact stT_at key nonce c t n i hi
    · obtain rfl : i = n := by omega
      show (stT key nonce c t i ++ [streamAt key nonce c t i])[i]? = _
      rw [List.getElem?_append_right (by rw [stT_length]; exact Nat.le_refl _), stT_length, Nat.sub_self]
      rfl
theorem xor_back (a b : UInt8) : (a ^^^ b) ^^^ b = a := by
  rw [UInt8.xor_assoc, UInt8.xor_self, UInt8.xor_zero]
theorem stT_back (key nonce : ByteArray) (c : Nat) (t : List UInt8) : stT key nonce c (stT key nonce c t t.length) t.length = t := by
  apply List.ext_getElem?
  intro i
  by_cases hi : i < t.length
  · rw [stT_at _ _ _ _ _ _ hi, List.getElem?_eq_getElem hi]
    unfold streamAt
    rw [stT_at _ _ _ _ _ _ hi]
    unfold streamAt
    rw [List.getElem?_eq_getElem hi]
    simp only [Option.getD_some]
    rw [xor_back]
  · rw [List.getElem?_eq_none (by rw [stT_length]; omega), List.getElem?_eq_none (by omega)]
theorem chaS_back {key nonce : ByteArray} {c : Int} {t : ByteArray} (h : (chaOk key c nonce && chaFits c t.size) = true) : chaS key c nonce (str (chaS key c nonce t)) = t.data.toList := by
  have hl : (stT key nonce c.toNat t.data.toList t.size).length = t.size := stT_length _ _ _ _ _
  have h1 : chaS key c nonce t = stT key nonce c.toNat t.data.toList t.size := by unfold chaS; rw [if_pos h]
  have h2 : (str (chaS key c nonce t)).size = t.size := by rw [str_size, h1, hl]
  have h3 : (str (chaS key c nonce t)).data.toList = stT key nonce c.toNat t.data.toList t.size := by rw [str_data, h1]
  have e : t.data.toList.length = t.size := by simp
  have hb := stT_back key nonce c.toNat t.data.toList
  rw [e] at hb
  have h4 : chaS key c nonce (str (chaS key c nonce t)) = stT key nonce c.toNat (str (chaS key c nonce t)).data.toList (str (chaS key c nonce t)).size := by
    generalize str (chaS key c nonce t) = u at *
    unfold chaS
    rw [if_pos (by rw [h2]; exact h)]
  rw [h4, h3, h2, hb]
/-- What was opened is wrapped to the same text. -/
theorem wrap_unw {m : ByteArray} {n : Int} {s : ByteArray} (h : unwB m n s = true) : wrapL m n (str (unwT m n s)) = s.data.toList := by
  have ht : unwT m n s = chaS m 0 (str (nonceL 1 n)) (str (s.data.toList.drop 4)) := by unfold unwT; rw [if_pos h]
  simp only [unwB, Bool.and_eq_true, decide_eq_true_eq] at h
  obtain ⟨h1, h2, h3⟩ := h
  have hlen : s.data.toList.length = 36 := by have : s.data.toList.length = s.size := by simp
                                              omega
  have hd : (s.data.toList.drop 4).length = 32 := by rw [List.length_drop]; omega
  have hsz : (str (s.data.toList.drop 4)).size = 32 := by rw [str_size, hd]
  have hok : (chaOk m 0 (str (nonceL 1 n)) && chaFits 0 (str (s.data.toList.drop 4)).size) = true := by
    have := wrap_ok h1
    rw [show (0 : Int) = ((0 : Nat) : Int) from rfl, this, hsz]
    decide
  have hlk : (chaS m 0 (str (nonceL 1 n)) (str (s.data.toList.drop 4))).length = 32 := by unfold chaS; rw [if_pos hok, stT_length, hsz]
  have hk : ((str (unwT m n s)).size : Int) = 32 := by rw [str_size, ht, hlk]; rfl
  unfold wrapL
  rw [if_pos ⟨h1, hk⟩, ht, chaS_back hok, str_data]
  unfold sumL
  have h4 : fixedL (crcV (s.data.toList.drop 4)) 4 = s.data.toList.take 4 := by simpa [unsB] using h3
  rw [h4, List.take_append_drop]
theorem keyDevB_ten {d : KeyDevR} (h : keyDevB d = true) {i j : Nat} (hi : i < d.slots.length) (hj : j < d.slots.length) (he : d.slots[i].ten = d.slots[j].ten) : i = j := by
  rcases Nat.lt_trichotomy i j with h1 | h1 | h1
  · have := keyDevB_mono h h1 hj; omega
  · exact h1
  · have := keyDevB_mono h h1 hi; omega
theorem keyDevB_key {d : KeyDevR} (h : keyDevB d = true) {k : Nat} (hk : k < d.slots.length) : d.slots[k].key.size = 32 := by
  have := keyDevB_slot h hk
  simp only [slotAt, List.getElem?_eq_getElem hk, Bool.and_eq_true] at this
  have := this.1
  simp [slotB] at this
  omega
theorem wiped_law {d : KeyDevR} {n : Int} (h : wipeB d n = true) : slotKeyOf (keyWipe d n) n = ByteArray.empty ∧ slotKeyOf d n ≠ ByteArray.empty ∧ (keyWipe d n).wiped = d.wiped + 1 ∧ d.wiped < 1000000 := by
  have hw := h
  simp only [wipeB, Bool.and_eq_true, Bool.not_eq_true', decide_eq_true_eq, beq_eq_false_iff_ne] at h
  obtain ⟨h1, h2, h3⟩ := h
  have hk : keyWipe d n = ⟨d.master, others d.slots n, d.wiped + 1⟩ := by simp [keyWipe, h1, hw]
  refine ⟨?_, ?_, by rw [hk], h3⟩
  · rw [hk]
    apply slotKeyOf_miss
    intro i hi
    have hm : (others d.slots n)[i]'hi ∈ others d.slots n := List.getElem_mem _
    have := (List.mem_filter.1 hm).2
    simpa using this
  · have hx : ∃ k, ∃ hk : k < d.slots.length, d.slots[k].ten = n := by
      apply Classical.byContradiction
      intro hc
      apply h2
      unfold others
      rw [List.filter_eq_self.2]
      intro x hx
      obtain ⟨k, hk, rfl⟩ := List.getElem_of_mem hx
      have : d.slots[k].ten ≠ n := fun he => hc ⟨k, hk, he⟩
      simpa using this
    obtain ⟨k, hk, he⟩ := hx
    rw [slotKeyOf_hit h1 hk he (fun i hi hik he2 => by have := keyDevB_ten h1 hi hk (he2.trans he.symm); omega)]
    intro hc
    have := keyDevB_key h1 hk
    rw [hc] at this
    cases this
theorem added_law {d : KeyDevR} {n : Int} {key : ByteArray} (h : addB d n key = true) : slotKeyOf (keyAdd d n key) n = key ∧ keyDevB (keyAdd d n key) = true := by
  have ha := h
  simp only [addB, Bool.and_eq_true] at h
  have hk : keyAdd d n key = keyAddS d n key := by simp [keyAdd, h.1, ha]
  rw [hk]
  refine ⟨?_, h.2⟩
  have hp := posOf_le d.slots n
  have hl : posOf d.slots n < (keyAddS d n key).slots.length := by
    show posOf d.slots n < (addS d.slots n key).length
    rw [addS_length]; omega
  have hat : (keyAddS d n key).slots[posOf d.slots n] = ⟨n, key⟩ := by
    have h9 : (addS d.slots n key)[posOf d.slots n]? = some ⟨n, key⟩ := by
      unfold addS
      rw [List.getElem?_append_right (by simp; omega)]
      simp [Nat.min_eq_left hp]
    have h8 : (keyAddS d n key).slots[posOf d.slots n]? = some ⟨n, key⟩ := h9
    rw [List.getElem?_eq_getElem hl] at h8
    exact Option.some.inj h8
  rw [slotKeyOf_hit h.2 hl (by rw [hat]) (fun i hi hik he => by have := keyDevB_ten h.2 hi hl (by rw [hat]; exact he); omega), hat]
theorem notadded_law {d : KeyDevR} {n : Int} {key : ByteArray} (h : addB d n key = false) (hd : keyDevB d = true) : keyAdd d n key = d := by simp [keyAdd, h, hd]
end Sp
end Go.Proofs.Ytfbbdnicplbmdaa
/- Walks: sameKeys at equal key devices. -/
set_option linter.unusedVariables false
set_option linter.unusedSimpArgs false
namespace Go.Proofs.Ytfbbdnicplbmdaa
open Go.RowKit Sp Go.Sort

set_option maxRecDepth 100000 in
set_option maxHeartbeats 1600000 in
theorem sameKeys_eq (d : KeyDevR) (a0 b0 : Option Addr) (c0 c1 : Nat) (w : World) (hu : SlT SlotR.cells 2 w (.slice a0 d.slots.length c0) d.slots) (hv : SlT SlotR.cells 2 w (.slice b0 d.slots.length c1) d.slots) (hl : (d.slots.length : Int) ≤ 1048576) :
    Calls Try.prog 48 #[.agg #[.string d.master, .slice a0 d.slots.length c0, .int .i64 d.wiped], .agg #[.string d.master, .slice b0 d.slots.length c1, .int .i64 d.wiped]] w fun e w' => e = .returned (.bool true) ∧ Below w.heap.size w w' := by
  obtain ⟨master, l, wiped⟩ := d
  dsimp only at *
  obtain ⟨ao, cap, hau, hlc, hcm, hsh⟩ := hu.shape
  obtain ⟨bo, cbp, hav, hlc1, hcm1, hsh1⟩ := hv.shape
  obtain ⟨rfl, rfl⟩ : a0 = ao ∧ c0 = cap := by simpa using hau
  obtain ⟨rfl, rfl⟩ : b0 = bo ∧ c1 = cbp := by simpa using hav
  clear hau hav
  have BA := (Bx.new w #[.string master, .slice a0 l.length c0, .int .i64 wiped] 64).below (hal2 (w.alloc (.cells #[.string master, .slice a0 l.length c0, .int .i64 wiped] 64)) (.cells #[.string master, .slice b0 l.length c1, .int .i64 wiped] 64))
  have BB := Bx.new (w.alloc (.cells #[.string master, .slice a0 l.length c0, .int .i64 wiped] 64)) #[.string master, .slice b0 l.length c1, .int .i64 wiped] 64
  have X : Below w.heap.size w ((w.alloc (.cells #[.string master, .slice a0 l.length c0, .int .i64 wiped] 64)).alloc (.cells #[.string master, .slice b0 l.length c1, .int .i64 wiped] 64)) := ((Below.refl _ _).alloc (Nat.le_refl _) _).alloc (by simp <;> omega) _
  rw [show (w.alloc (.cells #[.string master, .slice a0 l.length c0, .int .i64 wiped] 64)).heap.size = w.heap.size + 1 from by simp] at BB
  have q1 : (master.toList == master.toList) = true := beq_self_eq_true _
  have q2 : (wiped == wiped) = true := beq_self_eq_true _
  go_enter Try.func48, Try.ntmps48
  go_upto_region 1 with fail
  generalize (w.alloc (.cells #[.string master, .slice a0 l.length c0, .int .i64 wiped] 64)).alloc (.cells #[.string master, .slice b0 l.length c1, .int .i64 wiped] 64) = W1 at *
  have y0 := BA.cell 0 _ rfl
  have y1 := BA.cell 1 _ rfl
  have y2 := BA.cell 2 _ rfl
  have z0 := BB.cell 0 _ rfl
  have z1 := BB.cell 1 _ rfl
  have z2 := BB.cell 2 _ rfl
  go_upto_region 4 with fail
  clear y0 y1 y2 z0 z1 z2 q1 q2
  go_loopw [5] (fun i wr => ∃ k : Nat, i = .int .i64 k ∧ k ≤ l.length ∧ Below W1.heap.size W1 wr) (fun i _ => l.length - (intOf i).toNat)
  case atStart => exact ⟨0, rfl, Nat.zero_le _, Below.refl _ _⟩
  case round =>
    obtain ⟨k, rfl, hk, xr1⟩ := hrel
    have xr := X.trans (xr1.mono X.size)
    have BAr := BA.below xr1
    have BBr := BB.below xr1
    have y1 := BAr.cell 1 _ rfl
    have z1 := BBr.cell 1 _ rfl
    by_cases hlt : k < l.length
    · obtain ⟨b, off, rfl, hb, hc⟩ := hsh (by omega)
      obtain ⟨b', off', rfl, hb', hc'⟩ := hsh1 (by omega)
      have k0 : wr.cell? ⟨b, off + k * 2, none⟩ = some (.int .i64 l[k].ten) := (xr.cell (p := ⟨b, off + k * 2, none⟩) hb).trans (hc k hlt 0 _ rfl)
      have k1 : wr.cell? ⟨b, off + k * 2 + 1, none⟩ = some (.string l[k].key) := (xr.cell (p := ⟨b, off + k * 2 + 1, none⟩) hb).trans (hc k hlt 1 _ rfl)
      have m0 : wr.cell? ⟨b', off' + k * 2, none⟩ = some (.int .i64 l[k].ten) := (xr.cell (p := ⟨b', off' + k * 2, none⟩) hb').trans (hc' k hlt 0 _ rfl)
      have m1 : wr.cell? ⟨b', off' + k * 2 + 1, none⟩ = some (.string l[k].key) := (xr.cell (p := ⟨b', off' + k * 2 + 1, none⟩) hb').trans (hc' k hlt 1 _ rfl)
      clear hc hc' hsh hsh1
      generalize l[k].ten = f0 at *
      generalize l[k].key = f1 at *
      go_wp2_with fail
      go_quiet (fail)
      go_wp2
      go_roundw
      case rel => exact ⟨k + 1, by go_num, hlt, below_drewN xr1 _⟩
      case measure => simp [intOf]; omega
    · go_wp2
      go_ret
      exact ⟨rfl, xr⟩
end Go.Proofs.Ytfbbdnicplbmdaa
/- Walks: OpenFile and Unwrap of both sides. -/
set_option linter.unusedVariables false
set_option linter.unusedSimpArgs false
namespace Go.Proofs.Ytfbbdnicplbmdaa
open Go.RowKit Sp Go.Sort
attribute [local go_sem] str_size str_append
namespace Sp
def unsOk (s : ByteArray) : Bool := decide (4 ≤ (s.size : Int)) && unsB s
def unsT (s : ByteArray) : List UInt8 := if unsOk s then s.data.toList.drop 4 else []
end Sp
theorem ext_tail (s : ByteArray) : s.extract 4 s.size = str (s.data.toList.drop 4) := by
  rw [ext_str, List.take_of_length_le (by simp)]
theorem ext_four (s : ByteArray) : s.extract 0 4 = str (s.data.toList.take 4) := by rw [ext_str, List.drop_zero, Nat.sub_zero]

set_option maxRecDepth 100000 in
set_option maxHeartbeats 1600000 in
theorem unsummed_any (s : ByteArray) (w : World) (hs : (s.size : Int) ≤ 1048576) :
    Calls Try.prog 107 #[.string s] w fun e w' => e = .returned (.tuple #[.string (str (unsT s)), .bool (unsOk s)]) ∧ Below w.heap.size w w' := by
  by_cases h4 : (s.size : Int) < 4
  · have hg : decide ((s.size : Int) < 4) = true := decide_eq_true h4
    have ho : unsOk s = false := by simp [unsOk]; omega
    have HT := Lib.hid (show unsT s = [] by unfold unsT; rw [ho]; rfl)
    have HO := Lib.hid ho
    clear ho
    go_enter Try.func107, Try.ntmps107
    go_wp2
    refine wp_region_quiet_below (by kernel_rfl) (by kernel_rfl) ?_
    repeat (go_big_quiet_step (fail))
    refine wpQuiet_nil ?_
    intro w4 hw'
    have x4 : RowKit.Below w.heap.size w w4 := by obtain ⟨p, rfl⟩ := hw'; exact below_regrown _ _ _
    clear hw'
    go_wp2
    go_ret2
    exact ⟨by rw [HT.out, HO.out]; rfl, x4⟩
  · have hg : decide ((s.size : Int) < 4) = false := decide_eq_false h4
    have ht := ext_tail s
    have hf := ext_four s
    have hob : unsOk s = (fixedL (crcV (s.data.toList.drop 4)) 4 == s.data.toList.take 4) := by simp [unsOk, unsB]; omega
    have hts : unsT s = if unsOk s then s.data.toList.drop 4 else [] := rfl
    have hl4 : (s.data.toList.drop 4).length ≤ s.size := by simp
    have hcb := crcV_bd (s.data.toList.drop 4)
    generalize s.data.toList.drop 4 = L4 at *
    generalize s.data.toList.take 4 = L0 at *
    have cC : ∀ d os, Calls Try.prog 159 #[.string (str L4)] (grow (redrawn w d) os) fun e w'' => e = .returned (.int .i64 (crcV L4)) ∧ ∃ p : Regrown, w'' = grow (redrawn w p.d) p.os := fun d os => Calls.regrown_of ((implCrc _ _ (by rw [str_size]; omega)).mono (by rintro e w' ⟨rfl, rfl⟩; exact ⟨by rw [str_data], Below.refl _ _⟩))
    have cF : ∀ d os, Calls Try.prog 150 #[.int .i64 (crcV L4), .int .i64 4] (grow (redrawn w d) os) fun e w'' => e = .returned (.string (str (fixedL (crcV L4) 4))) ∧ ∃ p : Regrown, w'' = grow (redrawn w p.d) p.os := fun d os => Calls.regrown_of (implFixed _ _ _ (by omega))
    have HT := Lib.hid hts
    have HO := Lib.hid hob
    clear hts hob
    go_enter Try.func107, Try.ntmps107
    go_wp2
    refine wp_region_quiet_below (by kernel_rfl) (by kernel_rfl) ?_
    iterate 6 (go_big_quiet_step (fail))
    go_big_quiet_step (exact cC _ _)
    go_big_quiet_step (exact cF _ _)
    repeat (go_big_quiet_step (fail))
    refine wpQuiet_nil ?_
    intro w4 hw'
    have x4 : RowKit.Below w.heap.size w w4 := by obtain ⟨p, rfl⟩ := hw'; exact below_regrown _ _ _
    clear hw' cC cF
    have hcmp : ((str (fixedL (crcV L4) 4)).toList == (str L0).toList) = (fixedL (crcV L4) 4 == L0) := by rw [str_toList, str_toList]
    rcases hb : (fixedL (crcV L4) 4 == L0) with _ | _
    all_goals
      rw [hb] at hcmp
      have HB := Lib.hid hb
      clear hb
      simp only [hcmp, Bool.not_false, Bool.not_true]
      clear hcmp
      go_wp2
      go_ret2
      exact ⟨by rw [HT.out, HO.out, HB.out]; rfl, x4⟩

def fkR (a : List UInt8) (b : Bool) : Value := .tuple #[.string (str a), .bool b]

set_option maxRecDepth 100000 in
set_option maxHeartbeats 1600000 in
theorem specUnwrap (m s : ByteArray) (n : Int) (w : World) (hs : (s.size : Int) ≤ 1048576) :
    Calls Try.prog 37 #[.string m, .int .i64 n, .string s] w fun e w' => e = .returned (.tuple #[.string (str (unwT m n s)), .bool (unwB m n s)]) ∧ Below w.heap.size w w' := by
  have hto : unwT m n s = if unwB m n s then chaS m 0 (str (nonceL 1 n)) (str (s.data.toList.drop 4)) else [] := rfl
  by_cases h36 : (s.size : Int) = 36
  · by_cases hm : (m.size : Int) = 32
    · by_cases hi : inB n 0 562949953421311 = true
      · have hw : wrapB m n = true := by simp [wrapB, hm, hi]
        have hlaw := unwrap_law hw h36
        have ht := ext_tail s
        have hdl : (s.data.toList.drop 4).length ≤ s.size := by simp
        have hsl := chaS_length_le m 0 (str (nonceL 1 n)) (str (s.data.toList.drop 4))
        rw [str_size] at hsl
        generalize s.data.toList.drop 4 = L4 at *
        have cN : ∀ d os, Calls Try.prog 112 #[.int .i64 1, .int .i64 n] (grow (redrawn w d) os) fun e w'' => e = .returned (.string (str (nonceL 1 n))) ∧ ∃ p : Regrown, w'' = grow (redrawn w p.d) p.os := fun d os => Calls.regrown_of (specNonce _ _ _)
        have cS : ∀ d os, Calls Try.prog 111 #[.string m, .int .i64 0, .string (str (nonceL 1 n)), .string (str L4)] (grow (redrawn w d) os) fun e w'' => e = .returned (.string (str (chaS m 0 (str (nonceL 1 n)) (str L4)))) ∧ ∃ p : Regrown, w'' = grow (redrawn w p.d) p.os := fun d os => Calls.regrown_of (specChaStream _ _ _ _ _ (by rw [str_size]; omega))
        generalize chaS m 0 (str (nonceL 1 n)) (str L4) = T at *
        have HL := Lib.hid hlaw
        have HT := Lib.hid hto
        clear hlaw hto hw
        go_enter Try.func37, Try.ntmps37
        go_wp2_with (first | (go_at_call 104; refine (l1In_any _ _ _ _).mono ?_; rintro e w' ⟨rfl, rfl⟩; rw [hi]) | fail)
        refine wp_region_quiet_below (by kernel_rfl) (by kernel_rfl) ?_
        iterate 2 (go_big_quiet_step (fail))
        go_big_quiet_step (exact cN _ _)
        iterate 2 (go_big_quiet_step (fail))
        go_big_quiet_step (exact cS _ _)
        repeat (go_big_quiet_step (fail))
        refine wpQuiet_nil ?_
        intro w4 hw'
        have x4 : RowKit.Below w.heap.size w w4 := by obtain ⟨p, rfl⟩ := hw'; exact below_regrown _ _ _
        clear hw' cN cS
        go_wp2_with fail
        refine (specWrap _ _ _ _ (by rw [str_size]; omega)).mono ?_
        rintro e w5 ⟨rfl, b5⟩
        have x5 := x4.trans (b5.mono x4.size)
        have hcmp : ((str (wrapL m n (str T))).toList == s.toList) = unwB m n s := by rw [str_toList, toList_data]; exact HL.out
        generalize wrapL m n (str T) = S at *
        rcases hb : unwB m n s with _ | _
        all_goals
          rw [hb] at hcmp
          have HB := Lib.hid hb
          clear hb
          go_wp2
          go_ret2
          exact ⟨by rw [HT.out, HB.out]; rfl, x5⟩
      · have hi' : inB n 0 562949953421311 = false := by simpa using hi
        have ho : unwB m n s = false := by simp [unwB, wrapB, hi']
        have HT := Lib.hid hto
        have HO := Lib.hid ho
        clear hto ho
        go_enter Try.func37, Try.ntmps37
        go_wp2_with (go_at_call 104; refine (l1In_any _ _ _ _).mono ?_; rintro e w' ⟨rfl, rfl⟩; rw [hi'])
        go_ret2
        exact ⟨by rw [HT.out, HO.out]; rfl, Below.refl _ _⟩
    · have ho : unwB m n s = false := by simp [unwB, wrapB, hm]
      have HT := Lib.hid hto
      have HO := Lib.hid ho
      clear hto ho
      go_enter Try.func37, Try.ntmps37
      go_wp2
      go_ret2
      exact ⟨by rw [HT.out, HO.out]; rfl, Below.refl _ _⟩
  · have ho : unwB m n s = false := by simp [unwB, h36]
    have HT := Lib.hid hto
    have HO := Lib.hid ho
    clear hto ho
    go_enter Try.func37, Try.ntmps37
    go_wp2
    go_ret2
    exact ⟨by rw [HT.out, HO.out]; rfl, Below.refl _ _⟩

set_option maxRecDepth 100000 in
set_option maxHeartbeats 1600000 in
theorem implUnwrap (m s : ByteArray) (n : Int) (w : World) (hs : (s.size : Int) ≤ 1048576) :
    Calls Try.prog 36 #[.string m, .int .i64 n, .string s] w fun e w' => e = .returned (.tuple #[.string (str (unwT m n s)), .bool (unwB m n s)]) ∧ Below w.heap.size w w' := by
  go_enter Try.func36, Try.ntmps36
  go_wp2_with fail
  refine (unsummed_any s _ hs).mono ?_
  rintro e w2 ⟨rfl, x2⟩
  have hto : unwT m n s = if unwB m n s then chaS m 0 (str (nonceL 1 n)) (str (s.data.toList.drop 4)) else [] := rfl
  by_cases hu : unsOk s = true
  · have huT : unsT s = s.data.toList.drop 4 := by unfold unsT; rw [hu]; rfl
    have hu2 : 4 ≤ (s.size : Int) ∧ unsB s = true := by simpa [unsOk] using hu
    have hl4 : ((s.data.toList.drop 4).length : Int) = s.size - 4 := by rw [List.length_drop]; simp; omega
    rw [hu, huT]
    by_cases h36 : (s.size : Int) = 36
    · have hL : ((s.data.toList.drop 4).length : Int) = 32 := by omega
      by_cases hm : (m.size : Int) = 32
      · rcases hi : inB n 0 562949953421311 with _ | _
        · have ho : unwB m n s = false := by simp [unwB, wrapB, hi]
          generalize s.data.toList.drop 4 = L4 at *
          have HT := Lib.hid hto
          have HO := Lib.hid ho
          clear hto ho hu huT
          go_wp2_with (go_at_call 108; refine (inRange_any _ _ _ _).mono ?_; rintro e w' ⟨rfl, rfl⟩; rw [hi])
          go_ret2
          exact ⟨by rw [HT.out, HO.out]; rfl, x2⟩
        · have ho : unwB m n s = true := by simp [unwB, wrapB, hi, hm, h36, hu2.2]
          generalize s.data.toList.drop 4 = L4 at *
          have HT := Lib.hid hto
          have HO := Lib.hid ho
          clear hto ho hu huT
          go_wp2_with (first | (go_at_call 108; refine (inRange_any _ _ _ _).mono ?_; rintro e w' ⟨rfl, rfl⟩; rw [hi]) | fail)
          go_wp2_with fail
          refine (implNonce _ _ _).mono ?_
          rintro e w3 ⟨rfl, b3⟩
          have x3 := x2.trans (b3.mono x2.size)
          go_wp2_with fail
          refine (implChaStream _ _ _ _ _ (by rw [str_size]; omega)).mono ?_
          rintro e w4 ⟨rfl, b4⟩
          have x4 := x3.trans (b4.mono x3.size)
          go_wp2
          go_ret2
          exact ⟨by rw [HT.out, HO.out]; rfl, x4⟩
      · have ho : unwB m n s = false := by simp [unwB, wrapB, hm]
        generalize s.data.toList.drop 4 = L4 at *
        have HT := Lib.hid hto
        have HO := Lib.hid ho
        clear hto ho hu huT
        go_wp2
        go_ret2
        exact ⟨by rw [HT.out, HO.out]; rfl, x2⟩
    · have hL : ¬ ((s.data.toList.drop 4).length : Int) = 32 := by omega
      have ho : unwB m n s = false := by simp [unwB, h36]
      generalize s.data.toList.drop 4 = L4 at *
      have HT := Lib.hid hto
      have HO := Lib.hid ho
      clear hto ho hu huT
      go_wp2
      go_ret2
      exact ⟨by rw [HT.out, HO.out]; rfl, x2⟩
  · have hu' : unsOk s = false := by simpa using hu
    have ho : unwB m n s = false := by
      by_cases h4 : (s.size : Int) = 36
      · have h44 : 4 ≤ (s.size : Int) := by omega
        have : unsB s = false := by simpa [unsOk, h44] using hu'
        simp [unwB, this]
      · simp [unwB, h4]
    have HT := Lib.hid hto
    have HO := Lib.hid ho
    rw [hu']
    clear hu hu' ho hto
    go_wp2
    go_ret2
    exact ⟨by rw [HT.out, HO.out]; rfl, x2⟩
end Go.Proofs.Ytfbbdnicplbmdaa
/- Walk: KeyAdd of the program. -/
set_option linter.unusedVariables false
set_option linter.unusedSimpArgs false
namespace Go.Proofs.Ytfbbdnicplbmdaa
open Go.RowKit Sp Go.Sort

set_option maxRecDepth 100000 in
set_option maxHeartbeats 3200000 in
theorem implKeyAdd (d : KeyDevR) (n : Int) (key : ByteArray) (ad : Option Addr) (cap : Nat) (w : World) (h0 : SlT SlotR.cells 2 w (.slice ad d.slots.length cap) d.slots) (l0 : (d.slots.length : Int) ≤ 1048576) :
    Calls Try.prog 43 #[.agg #[.string d.master, .slice ad d.slots.length cap, .int .i64 d.wiped], .int .i64 n, .string key] w fun e w' => ∃ v', e = .returned (.tuple #[v', .bool (addB d n key)]) ∧ RowKeyDev w.heap.size w'.heap.size w' v' (keyAdd d n key) ∧ Below w.heap.size w w' := by
  have hb2 : ∀ o₁ o₂ : Obj, RowKit.Below w.heap.size w ((w.alloc o₁).alloc o₂) := fun o₁ o₂ => ((Below.refl _ _).alloc (Nat.le_refl _) _).alloc (by simp <;> omega) _
  have hI : IsKeyDev w (.agg #[.string d.master, .slice ad d.slots.length cap, .int .i64 d.wiped]) d := ⟨_, rfl, h0⟩
  rcases hd : keyDevB d with _ | _
  · have HR := Lib.hid (show keyAdd d n key = noKeys from by simp [keyAdd, hd])
    have HB := Lib.hid (show addB d n key = false from by simp [addB, hd])
    go_enter Try.func43, Try.ntmps43
    go_wp2_with (go_at_call 115; refine (implKeyOk _ d _ (hI.below (hb2 _ _)) l0).mono ?_; rintro e w1 ⟨rfl, b1⟩; rw [hd]; have x1 := Below.trans (hb2 _ _) (b1.mono (Below.size (hb2 _ _))); have z1 : w.heap.size + 1 < w1.heap.size := Nat.lt_of_lt_of_le (by simp) b1.size; obtain ⟨hc, hf⟩ := bcell b1; have cA1 := fun o => hc w.heap.size o (by first | omega | (simp <;> omega)); have fA1 := fun o => hf w.heap.size o (by first | omega | (simp <;> omega)); have cR1 := fun o => hc (w.heap.size + 1) o (by first | omega | (simp <;> omega)); have fR1 := fun o => hf (w.heap.size + 1) o (by first | omega | (simp <;> omega)); clear hc hf)
    go_wp2
    refine bodyPost_ret (v := .tuple #[.agg #[.string ByteArray.empty, .slice none 0 0, .int .i64 0], .bool false]) (by simp [results, Try.results43, go_sem, cA1, cR1] <;> rfl) rfl ?_
    rw [HR.out, HB.out]
    refine ⟨_, rfl, ?_, ?_⟩
    · exact ⟨_, rfl, Row.nil _ _ _⟩
    · repeat (refine Below.setCell ?_ (by simp <;> omega) _)
      exact x1
  have hwr := keyDevB_heads hd
  have hple := posOf_le d.slots n
  have lS : ((keyAddS d n key).slots.length : Int) ≤ 1048576 := by rw [show (keyAddS d n key).slots.length = d.slots.length + 1 from addS_length _ _ _]; omega
  rcases slot_dec d.slots n with ⟨k, hk, he, hno⟩ | hno
  · have HJ : ∀ j, IsSlot d.slots n j → j = k := fun j => isSlot_hit hk he hno
    have hd2 := keyAdd_dup (key := key) hk he
    have HR := Lib.hid (show keyAdd d n key = d from by simp [keyAdd, addB, hd, hd2])
    have HB := Lib.hid (show addB d n key = false from by simp [addB, hd2])
    have hk0 : (0 : Int) ≤ (k : Int) := by omega
    clear he hno hd2
    go_enter Try.func43, Try.ntmps43
    go_wp2_with (first | (go_at_call 115; refine (implKeyOk _ d _ (hI.below (hb2 _ _)) l0).mono ?_; rintro e w1 ⟨rfl, b1⟩; rw [hd]; have x1 := Below.trans (hb2 _ _) (b1.mono (Below.size (hb2 _ _))); have z1 : w.heap.size + 1 < w1.heap.size := Nat.lt_of_lt_of_le (by simp) b1.size; obtain ⟨hc, hf⟩ := bcell b1; have cA1 := fun o => hc w.heap.size o (by first | omega | (simp <;> omega)); have fA1 := fun o => hf w.heap.size o (by first | omega | (simp <;> omega)); have cR1 := fun o => hc (w.heap.size + 1) o (by first | omega | (simp <;> omega)); have fR1 := fun o => hf (w.heap.size + 1) o (by first | omega | (simp <;> omega)); clear hc hf) | (go_at_call 117; refine (slotOf_any _ d _ _ (hI.below x1) l0).mono ?_; rintro e w3 ⟨j, rfl, hj, b3⟩; obtain rfl := HJ _ hj; clear hj; have x3 := x1.trans (b3.mono x1.size); have z3 := b3.size; obtain ⟨hc, hf⟩ := bcell b3; have cA3 := fun o => hc w.heap.size o (by first | omega | (simp <;> omega)); have fA3 := fun o => hf w.heap.size o (by first | omega | (simp <;> omega)); have cR3 := fun o => hc (w.heap.size + 1) o (by first | omega | (simp <;> omega)); have fR3 := fun o => hf (w.heap.size + 1) o (by first | omega | (simp <;> omega)); clear hc hf) | (go_at_call 116; refine (copyKeys_row d ad cap _ (h0.below x3) l0).mono ?_; rintro e w2 ⟨v2, rfl, ⟨s1, rfl, r2⟩, b2⟩; obtain ⟨ao, cp, rfl⟩ := r2.form; have x2 := x3.trans (b2.mono x3.size); have z2 := b2.size; obtain ⟨hc, hf⟩ := bcell b2; have cA2 := fun o => hc w.heap.size o (by first | omega | (simp <;> omega)); have fA2 := fun o => hf w.heap.size o (by first | omega | (simp <;> omega)); have cR2 := fun o => hc (w.heap.size + 1) o (by first | omega | (simp <;> omega)); have fR2 := fun o => hf (w.heap.size + 1) o (by first | omega | (simp <;> omega)); clear hc hf))
    go_wp2
    refine bodyPost_ret (v := .tuple #[.agg #[.string d.master, .slice ao d.slots.length cp, .int .i64 d.wiped], .bool false]) (by simp [results, Try.results43, go_sem, cR1, cR2, cR3]) rfl ?_
    rw [HR.out, HB.out]
    refine ⟨_, rfl, ?_, ?_⟩
    · refine ⟨_, rfl, Row.of_own (n := d.slots.length) (own_mono (base := w.heap.size + 1 + 1) ?_ (by omega)) rfl⟩
      repeat (refine own_other ?_ _ (by simp <;> omega) _)
      exact own_mono r2.1 (by omega)
    · repeat (refine Below.setCell ?_ (by simp <;> omega) _)
      exact x2
  · have HJ : ∀ j, IsSlot d.slots n j → j = -1 := fun j => isSlot_none hno
    clear hno
    go_enter Try.func43, Try.ntmps43
    go_upto_region 6 with (first | (go_at_call 115; refine (implKeyOk _ d _ (hI.below (hb2 _ _)) l0).mono ?_; rintro e w1 ⟨rfl, b1⟩; rw [hd]; have x1 := Below.trans (hb2 _ _) (b1.mono (Below.size (hb2 _ _))); have z1 : w.heap.size + 1 < w1.heap.size := Nat.lt_of_lt_of_le (by simp) b1.size; obtain ⟨hc, hf⟩ := bcell b1; have cA1 := fun o => hc w.heap.size o (by first | omega | (simp <;> omega)); have fA1 := fun o => hf w.heap.size o (by first | omega | (simp <;> omega)); have cR1 := fun o => hc (w.heap.size + 1) o (by first | omega | (simp <;> omega)); have fR1 := fun o => hf (w.heap.size + 1) o (by first | omega | (simp <;> omega)); clear hc hf) | (go_at_call 117; refine (slotOf_any _ d _ _ (hI.below x1) l0).mono ?_; rintro e w3 ⟨j, rfl, hj, b3⟩; obtain rfl := HJ _ hj; clear hj; have x3 := x1.trans (b3.mono x1.size); have z3 := b3.size; obtain ⟨hc, hf⟩ := bcell b3; have cA3 := fun o => hc w.heap.size o (by first | omega | (simp <;> omega)); have fA3 := fun o => hf w.heap.size o (by first | omega | (simp <;> omega)); have cR3 := fun o => hc (w.heap.size + 1) o (by first | omega | (simp <;> omega)); have fR3 := fun o => hf (w.heap.size + 1) o (by first | omega | (simp <;> omega)); clear hc hf) | (go_at_call 116; refine (copyKeys_row d ad cap _ (h0.below x3) l0).mono ?_; rintro e w2 ⟨v2, rfl, ⟨s1, rfl, r2⟩, b2⟩; obtain ⟨ao, cp, rfl⟩ := r2.form; have x2 := x3.trans (b2.mono x3.size); have z2 := b2.size; obtain ⟨hc, hf⟩ := bcell b2; have cA2 := fun o => hc w.heap.size o (by first | omega | (simp <;> omega)); have fA2 := fun o => hf w.heap.size o (by first | omega | (simp <;> omega)); have cR2 := fun o => hc (w.heap.size + 1) o (by first | omega | (simp <;> omega)); have fR2 := fun o => hf (w.heap.size + 1) o (by first | omega | (simp <;> omega)); clear hc hf))
    have ks : ∀ k, (Value.slice ao d.slots.length cp).ownBlock = some k → k < w2.heap.size := r2.2
    have hx0 : (w2.alloc (.cells #[.string d.master, .slice ao d.slots.length cp, .int .i64 d.wiped] 64)).cell? ⟨w2.heap.size, 0, none⟩ = some (.string d.master) := by simp [go_sem]
    have hx1 : (w2.alloc (.cells #[.string d.master, .slice ao d.slots.length cp, .int .i64 d.wiped] 64)).cell? ⟨w2.heap.size, 1, none⟩ = some (.slice ao d.slots.length cp) := by simp [go_sem]
    have hx2 : (w2.alloc (.cells #[.string d.master, .slice ao d.slots.length cp, .int .i64 d.wiped] 64)).cell? ⟨w2.heap.size, 2, none⟩ = some (.int .i64 d.wiped) := by simp [go_sem]
    have hxf : ∀ o, (w2.alloc (.cells #[.string d.master, .slice ao d.slots.length cp, .int .i64 d.wiped] 64)).frozen? ⟨w2.heap.size, o, none⟩ = false := fun o => by simp [go_sem]
    have hsz : (w2.alloc (.cells #[.string d.master, .slice ao d.slots.length cp, .int .i64 d.wiped] 64)).heap.size = w2.heap.size + 1 := by simp
    have oA := (own_mono (base' := w.heap.size + 1 + 1) r2.1 (by omega)).alloc (.cells #[.string d.master, .slice ao d.slots.length cp, .int .i64 d.wiped] 64)
    have xW := x2.alloc x2.size (.cells #[.string d.master, .slice ao d.slots.length cp, .int .i64 d.wiped] 64)
    have hbW := hal' w2 (.cells #[.string d.master, .slice ao d.slots.length cp, .int .i64 d.wiped] 64)
    have rA0 : (w2.alloc (.cells #[.string d.master, .slice ao d.slots.length cp, .int .i64 d.wiped] 64)).cell? ⟨w.heap.size, 0, none⟩ = some (.string d.master) := by rw [(bcell hbW).1 w.heap.size 0 (by omega), cA2, cA3, cA1]; simp [go_sem]
    have rA1 : (w2.alloc (.cells #[.string d.master, .slice ao d.slots.length cp, .int .i64 d.wiped] 64)).cell? ⟨w.heap.size, 1, none⟩ = some (.slice ad d.slots.length cap) := by rw [(bcell hbW).1 w.heap.size 1 (by omega), cA2, cA3, cA1]; simp [go_sem]
    have rA2 : (w2.alloc (.cells #[.string d.master, .slice ao d.slots.length cp, .int .i64 d.wiped] 64)).cell? ⟨w.heap.size, 2, none⟩ = some (.int .i64 d.wiped) := by rw [(bcell hbW).1 w.heap.size 2 (by omega), cA2, cA3, cA1]; simp [go_sem]
    have rR0 : (w2.alloc (.cells #[.string d.master, .slice ao d.slots.length cp, .int .i64 d.wiped] 64)).cell? ⟨w.heap.size + 1, 0, none⟩ = some (.string ByteArray.empty) := by rw [(bcell hbW).1 (w.heap.size + 1) 0 (by omega), cR2, cR3, cR1]; simp [go_sem] <;> rfl
    have rR1 : (w2.alloc (.cells #[.string d.master, .slice ao d.slots.length cp, .int .i64 d.wiped] 64)).cell? ⟨w.heap.size + 1, 1, none⟩ = some (.slice none 0 0) := by rw [(bcell hbW).1 (w.heap.size + 1) 1 (by omega), cR2, cR3, cR1]; simp [go_sem]
    have rR2 : (w2.alloc (.cells #[.string d.master, .slice ao d.slots.length cp, .int .i64 d.wiped] 64)).cell? ⟨w.heap.size + 1, 2, none⟩ = some (.int .i64 0) := by rw [(bcell hbW).1 (w.heap.size + 1) 2 (by omega), cR2, cR3, cR1]; simp [go_sem]
    have rF : ∀ o, (w2.alloc (.cells #[.string d.master, .slice ao d.slots.length cp, .int .i64 d.wiped] 64)).frozen? ⟨w.heap.size + 1, o, none⟩ = false := fun o => by rw [(bcell hbW).2 (w.heap.size + 1) o (by omega), fR2, fR3, fR1]; simp [go_sem]
    generalize (w2.alloc (.cells #[.string d.master, .slice ao d.slots.length cp, .int .i64 d.wiped] 64)) = W at hx0 hx1 hx2 hxf hsz oA xW rA0 rA1 rA2 rR0 rR1 rR2 rF ⊢
    clear hbW cA1 cR1 fA1 fR1 cA2 cR2 fA2 fR2 cA3 cR3 fA3 fR3
    have hS : SlT SlotR.cells 2 W (.slice ao d.slots.length cp) d.slots := SlT.of_own oA (fun _ => rfl) (by decide)
    go_wp2
    go_loopw [9] (fun i wr => ∃ k : Nat, k ≤ posOf d.slots n ∧ i = .int .i64 k ∧ RowKit.Below W.heap.size W wr) (fun i _ => d.slots.length - (intOf i).toNat)
    case atStart => exact ⟨0, by omega, rfl, Below.refl _ _⟩
    case round =>
      obtain ⟨k, hk, rfl, hbl⟩ := hrel
      obtain ⟨hc, hf⟩ := bcell hbl
      have hzw := hbl.size
      have xe : RowKit.Below w.heap.size w wr := xW.trans (hbl.mono xW.size)
      have pA0 := (hc w.heap.size 0 (by omega)).trans rA0
      have pA1 := (hc w.heap.size 1 (by omega)).trans rA1
      have pA2 := (hc w.heap.size 2 (by omega)).trans rA2
      have pX0 := (hc w2.heap.size 0 (by omega)).trans hx0
      have pX1 := (hc w2.heap.size 1 (by omega)).trans hx1
      have pX2 := (hc w2.heap.size 2 (by omega)).trans hx2
      have pR0 := (hc (w.heap.size + 1) 0 (by omega)).trans rR0
      have pR1 := (hc (w.heap.size + 1) 1 (by omega)).trans rR1
      have pR2 := (hc (w.heap.size + 1) 2 (by omega)).trans rR2
      have pXf := fun o => (hf w2.heap.size o (by omega)).trans (hxf o)
      have pRf := fun o => (hf (w.heap.size + 1) o (by omega)).trans (rF o)
      have hSw := hS.below hbl
      have oX := own_below oA hbl
      clear hc hf
      by_cases hq : k < posOf d.slots n
      · have hlt : k < d.slots.length := by omega
        obtain ⟨bo', cp', hv, hlc, hcm, hsh⟩ := hSw.shape
        obtain ⟨bk, off, hbk, hbs, hcc⟩ := hsh (by omega)
        obtain rfl : ao = some ⟨bk, off, none⟩ := by simp at hv; rw [hv.1, hbk]
        have e0 := hcc k hlt 0 _ rfl
        have hten := posOf_lt d.slots n k hlt hq
        simp only [Nat.add_zero] at e0
        clear hcc hsh hv hbk
        go_wp2
        go_roundw
        case rel => exact ⟨k + 1, by omega, by go_num, by first | exact hbl | exact hbl.drew⟩
        case measure => simp [intOf]; omega
      · obtain rfl : k = posOf d.slots n := by omega
        have neV : ∀ b, b < w.heap.size + 1 + 1 ∨ w2.heap.size ≤ b → (Value.slice ao d.slots.length cp).ownBlock ≠ some b := fun b hb e => by have h1 := (oX.lt _ e).1; have h2 := ks _ e; omega
        by_cases hlt : posOf d.slots n < d.slots.length
        · obtain ⟨bo', cp', hv, hlc, hcm, hsh⟩ := hSw.shape
          obtain ⟨bk, off, hbk, hbs, hcc⟩ := hsh (by omega)
          obtain rfl : ao = some ⟨bk, off, none⟩ := by simp at hv; rw [hv.1, hbk]
          have e0 := hcc (posOf d.slots n) hlt 0 _ rfl
          have hten := posOf_at d.slots n hlt
          have hng : ¬ d.slots[posOf d.slots n].ten < n := by omega
          simp only [Nat.add_zero] at e0
          clear hcc hsh hv hbk
          go_upto_region 9 with fail
          have hIns : Calls Try.prog 121 #[.slice (some ⟨bk, off, none⟩) d.slots.length cp, .int .i64 (posOf d.slots n), .slice (some ⟨wr.heap.size, 0, none⟩) 1 1] (wr.alloc (.cells #[.int .i64 n, .string key] 150)) fun e w' => ∃ a4 c4, e = .returned (.slice a4 (addS d.slots n key).length c4) ∧ w'.ownsRow (w.heap.size + 1 + 1) 150 2 (.slice a4 (addS d.slots n key).length c4) (addS d.slots n key).length ((addS d.slots n key).map SlotR.cells).flatten ∧ (Value.slice a4 (addS d.slots n key).length c4).ownBlock ≠ some w2.heap.size ∧ wr.heap.size ≤ w'.heap.size ∧ Below w.heap.size w w' ∧ (∀ b, b < wr.heap.size → b < w.heap.size + 1 + 1 ∨ w2.heap.size ≤ b → ∀ j, w'.cell? ⟨b, j, none⟩ = wr.cell? ⟨b, j, none⟩ ∧ w'.frozen? ⟨b, j, none⟩ = wr.frozen? ⟨b, j, none⟩) := by
            refine (insertKeySlot_any d.slots _ (w.heap.size + 1 + 1) (wr.alloc (.cells #[.int .i64 n, .string key] 150)) (by simp; omega) (oX.alloc _) (by omega) (posOf d.slots n) hple ⟨n, key⟩ wr.heap.size 2 150 (fun t u hu => ?_) (by simp) (neV _ (by omega)) (by rw [World.shape?, heap_alloc_new]; rfl) (by simp [go_sem]) (by simp [go_sem])).mono ?_
            · have := cells_new wr #[.int .i64 n, .string key] 150 t u hu
              rwa [add_none, Nat.zero_add] at this
            rintro e w4 ⟨v4, rfl, o4, g4, p4⟩
            have o4' : w4.ownsRow (w.heap.size + 1 + 1) 150 2 v4 (addS d.slots n key).length ((addS d.slots n key).map SlotR.cells).flatten := by rw [addS_length]; exact o4
            obtain ⟨a4, c4, rfl⟩ := (Row.of_own o4' rfl).form
            have z4 := g4.size
            have hal4 := hal' wr (.cells #[.int .i64 n, .string key] 150)
            simp only [World.size_alloc] at z4 p4
            refine ⟨a4, c4, rfl, o4', ?_, by omega, (xe.trans (hal4.mono xe.size)).grown g4 (by simp; omega) (fun j hj => (by have := (oX.lt j hj).1; omega)), fun b hb hh j => ?_⟩
            · rcases p4 with h | h
              · rw [h]; exact neV _ (by omega)
              · rw [h]; simp; omega
            · have hg := gcell g4 (b := b) (by simp; omega) (neV _ hh)
              exact ⟨(hg.1 j).trans ((bcell hal4).1 b j hb), (hg.2 j).trans ((bcell hal4).2 b j hb)⟩
          clear rR0 rR1 rR2 rF hx0 hx1 hx2 hxf rA0 rA1 rA2 hSw hS oA
          go_upto_region 10 with (go_at_call 121; refine hIns.mono ?_; rintro e w4 ⟨a4, c4, rfl, o4, hfar, z4, x4, hK⟩; have yA0 := (hK w.heap.size (by omega) (by omega) 0).1.trans pA0; have yA1 := (hK w.heap.size (by omega) (by omega) 1).1.trans pA1; have yA2 := (hK w.heap.size (by omega) (by omega) 2).1.trans pA2; have yX0 := (hK w2.heap.size (by omega) (by omega) 0).1.trans pX0; have yX1 := (hK w2.heap.size (by omega) (by omega) 1).1.trans pX1; have yX2 := (hK w2.heap.size (by omega) (by omega) 2).1.trans pX2; have yR0 := (hK (w.heap.size + 1) (by omega) (by omega) 0).1.trans pR0; have yR1 := (hK (w.heap.size + 1) (by omega) (by omega) 1).1.trans pR1; have yR2 := (hK (w.heap.size + 1) (by omega) (by omega) 2).1.trans pR2; have yXf := fun o => (hK w2.heap.size (by omega) (by omega) o).2.trans (pXf o); have yRf := fun o => (hK (w.heap.size + 1) (by omega) (by omega) o).2.trans (pRf o); clear hK hIns pA0 pA1 pA2 pX0 pX1 pX2 pR0 pR1 pR2 pXf pRf)
          have oS := own_far o4 ⟨w2.heap.size, 1, none⟩ (.slice a4 (addS d.slots n key).length c4) hfar
          have hIS : IsKeyDev (w4.setCell ⟨w2.heap.size, 1, none⟩ (.slice a4 (addS d.slots n key).length c4)) (.agg #[.string d.master, .slice a4 (addS d.slots n key).length c4, .int .i64 d.wiped]) (keyAddS d n key) := ⟨_, rfl, SlT.of_own oS (fun _ => rfl) (by decide)⟩
          have xS := Below.setCell x4 (p := ⟨w2.heap.size, 1, none⟩) (by simp <;> omega) (.slice a4 (addS d.slots n key).length c4)
          have zS : (w4.setCell ⟨w2.heap.size, 1, none⟩ (.slice a4 (addS d.slots n key).length c4)).heap.size = w4.heap.size := by simp
          have neA : w.heap.size ≠ w2.heap.size := by omega
          have neR : w.heap.size + 1 ≠ w2.heap.size := by omega
          have neR' : ¬ w2.heap.size = w.heap.size + 1 := by omega
          have neR'' : ¬ w.heap.size + 1 = w2.heap.size := by omega
          have tA0 := (sc_far (w := w4) (i := 1) (j := 0) (u := .slice a4 (addS d.slots n key).length c4) neA).trans yA0
          have tA1 := (sc_far (w := w4) (i := 1) (j := 1) (u := .slice a4 (addS d.slots n key).length c4) neA).trans yA1
          have tA2 := (sc_far (w := w4) (i := 1) (j := 2) (u := .slice a4 (addS d.slots n key).length c4) neA).trans yA2
          have tR0 := (sc_far (w := w4) (i := 1) (j := 0) (u := .slice a4 (addS d.slots n key).length c4) neR).trans yR0
          have tR1 := (sc_far (w := w4) (i := 1) (j := 1) (u := .slice a4 (addS d.slots n key).length c4) neR).trans yR1
          have tR2 := (sc_far (w := w4) (i := 1) (j := 2) (u := .slice a4 (addS d.slots n key).length c4) neR).trans yR2
          have tX0 := (sc_near (w := w4) (a := w2.heap.size) (i := 1) (j := 0) (u := .slice a4 (addS d.slots n key).length c4) (by decide)).trans yX0
          have tX1 := sc_same (u := .slice a4 (addS d.slots n key).length c4) yX1
          have tX2 := (sc_near (w := w4) (a := w2.heap.size) (i := 1) (j := 2) (u := .slice a4 (addS d.slots n key).length c4) (by decide)).trans yX2
          have tRf := fun o => (sc_frz (w := w4) (p := ⟨w2.heap.size, 1, none⟩) (u := .slice a4 (addS d.slots n key).length c4)).trans (yRf o)
          rcases hd2 : keyDevB (keyAddS d n key) with _ | _
          · have HR := Lib.hid (show keyAdd d n key = d from by simp [keyAdd, addB, hd, hd2])
            have HB := Lib.hid (show addB d n key = false from by simp [addB, hd2])
            go_wp2_with (first | (go_at_call 115; refine (implKeyOk _ (keyAddS d n key) _ hIS lS).mono ?_; rintro e w5 ⟨rfl, b5⟩; rw [hd2]; have x5 := xS.trans (b5.mono xS.size); have z5 := b5.size; rw [zS] at z5; obtain ⟨hc, hf⟩ := bcell b5; have sA0 := (hc w.heap.size 0 (by rw [zS]; omega)).trans tA0; have sA1 := (hc w.heap.size 1 (by rw [zS]; omega)).trans tA1; have sA2 := (hc w.heap.size 2 (by rw [zS]; omega)).trans tA2; have sX0 := (hc w2.heap.size 0 (by rw [zS]; omega)).trans tX0; have sX1 := (hc w2.heap.size 1 (by rw [zS]; omega)).trans tX1; have sX2 := (hc w2.heap.size 2 (by rw [zS]; omega)).trans tX2; have sR0 := (hc (w.heap.size + 1) 0 (by rw [zS]; omega)).trans tR0; have sR1 := (hc (w.heap.size + 1) 1 (by rw [zS]; omega)).trans tR1; have sR2 := (hc (w.heap.size + 1) 2 (by rw [zS]; omega)).trans tR2; have sRf := fun o => (hf (w.heap.size + 1) o (by rw [zS]; omega)).trans (tRf o); clear hc hf tA0 tA1 tA2 tR0 tR1 tR2 tX0 tX1 tX2 tRf yA0 yA1 yA2 yX0 yX1 yX2 yR0 yR1 yR2 yXf yRf) | (go_at_call 116; refine (copyKeys_row d ad cap _ (h0.below x5) l0).mono ?_; rintro e w6 ⟨v6, rfl, ⟨s6, rfl, r6⟩, b6⟩; obtain ⟨a6, c6, rfl⟩ := r6.form; have x6 := x5.trans (b6.mono x5.size); have z6 := b6.size; obtain ⟨hc, hf⟩ := bcell b6; have q0 := (hc (w.heap.size + 1) 0 (by omega)).trans sR0; have q1 := (hc (w.heap.size + 1) 1 (by omega)).trans sR1; have q2 := (hc (w.heap.size + 1) 2 (by omega)).trans sR2; have qf := fun o => (hf (w.heap.size + 1) o (by omega)).trans (sRf o); clear hc hf sR0 sR1 sR2 sRf))
            go_wp2
            refine bodyPost_ret (v := .tuple #[.agg #[.string d.master, .slice a6 d.slots.length c6, .int .i64 d.wiped], .bool false]) (by simp [results, Try.results43, go_sem, q0, q1, q2]) rfl ?_
            rw [HR.out, HB.out]
            refine ⟨_, rfl, ?_, ?_⟩
            · refine ⟨_, rfl, Row.of_own (n := d.slots.length) (own_mono (base := w.heap.size + 1 + 1) ?_ (by omega)) rfl⟩
              repeat (refine own_other ?_ _ (by simp <;> omega) _)
              exact own_mono r6.1 (by omega)
            · repeat (refine Below.setCell ?_ (by simp <;> omega) _)
              exact x6
          · have HR := Lib.hid (show keyAdd d n key = keyAddS d n key from by simp [keyAdd, addB, hd, hd2])
            have HB := Lib.hid (show addB d n key = true from by simp [addB, hd, hd2])
            go_wp2_with (go_at_call 115; refine (implKeyOk _ (keyAddS d n key) _ hIS lS).mono ?_; rintro e w5 ⟨rfl, b5⟩; rw [hd2]; have x5 := xS.trans (b5.mono xS.size); have z5 := b5.size; rw [zS] at z5; obtain ⟨hc, hf⟩ := bcell b5; have sA0 := (hc w.heap.size 0 (by rw [zS]; omega)).trans tA0; have sA1 := (hc w.heap.size 1 (by rw [zS]; omega)).trans tA1; have sA2 := (hc w.heap.size 2 (by rw [zS]; omega)).trans tA2; have sX0 := (hc w2.heap.size 0 (by rw [zS]; omega)).trans tX0; have sX1 := (hc w2.heap.size 1 (by rw [zS]; omega)).trans tX1; have sX2 := (hc w2.heap.size 2 (by rw [zS]; omega)).trans tX2; have sR0 := (hc (w.heap.size + 1) 0 (by rw [zS]; omega)).trans tR0; have sR1 := (hc (w.heap.size + 1) 1 (by rw [zS]; omega)).trans tR1; have sR2 := (hc (w.heap.size + 1) 2 (by rw [zS]; omega)).trans tR2; have sRf := fun o => (hf (w.heap.size + 1) o (by rw [zS]; omega)).trans (tRf o); clear hc hf tA0 tA1 tA2 tR0 tR1 tR2 tX0 tX1 tX2 tRf yA0 yA1 yA2 yX0 yX1 yX2 yR0 yR1 yR2 yXf yRf)
            go_wp2
            refine bodyPost_ret (v := .tuple #[.agg #[.string d.master, .slice a4 (addS d.slots n key).length c4, .int .i64 d.wiped], .bool true]) (by simp [results, Try.results43, go_sem, sX0, sX1, sX2, sR0, sR1, sR2, neR', neR'']) rfl ?_
            rw [HR.out, HB.out]
            refine ⟨_, rfl, ?_, ?_⟩
            · refine ⟨_, rfl, Row.of_own (n := (addS d.slots n key).length) (own_mono (base := w.heap.size + 1 + 1) ?_ (by omega)) rfl⟩
              repeat (refine own_other ?_ _ (by simp <;> omega) _)
              exact own_below oS b5
            · repeat (refine Below.setCell ?_ (by simp <;> omega) _)
              exact x5
        · have hpe : posOf d.slots n = d.slots.length := by omega
          have HPE := Lib.hid hpe
          have hng : ¬ ((posOf d.slots n : Int) < d.slots.length) := by omega
          clear hpe hlt
          go_upto_region 9 with fail
          have hIns : Calls Try.prog 121 #[.slice ao d.slots.length cp, .int .i64 (posOf d.slots n), .slice (some ⟨wr.heap.size, 0, none⟩) 1 1] (wr.alloc (.cells #[.int .i64 n, .string key] 150)) fun e w' => ∃ a4 c4, e = .returned (.slice a4 (addS d.slots n key).length c4) ∧ w'.ownsRow (w.heap.size + 1 + 1) 150 2 (.slice a4 (addS d.slots n key).length c4) (addS d.slots n key).length ((addS d.slots n key).map SlotR.cells).flatten ∧ (Value.slice a4 (addS d.slots n key).length c4).ownBlock ≠ some w2.heap.size ∧ wr.heap.size ≤ w'.heap.size ∧ Below w.heap.size w w' ∧ (∀ b, b < wr.heap.size → b < w.heap.size + 1 + 1 ∨ w2.heap.size ≤ b → ∀ j, w'.cell? ⟨b, j, none⟩ = wr.cell? ⟨b, j, none⟩ ∧ w'.frozen? ⟨b, j, none⟩ = wr.frozen? ⟨b, j, none⟩) := by
            refine (insertKeySlot_any d.slots _ (w.heap.size + 1 + 1) (wr.alloc (.cells #[.int .i64 n, .string key] 150)) (by simp; omega) (oX.alloc _) (by omega) (posOf d.slots n) hple ⟨n, key⟩ wr.heap.size 2 150 (fun t u hu => ?_) (by simp) (neV _ (by omega)) (by rw [World.shape?, heap_alloc_new]; rfl) (by simp [go_sem]) (by simp [go_sem])).mono ?_
            · have := cells_new wr #[.int .i64 n, .string key] 150 t u hu
              rwa [add_none, Nat.zero_add] at this
            rintro e w4 ⟨v4, rfl, o4, g4, p4⟩
            have o4' : w4.ownsRow (w.heap.size + 1 + 1) 150 2 v4 (addS d.slots n key).length ((addS d.slots n key).map SlotR.cells).flatten := by rw [addS_length]; exact o4
            obtain ⟨a4, c4, rfl⟩ := (Row.of_own o4' rfl).form
            have z4 := g4.size
            have hal4 := hal' wr (.cells #[.int .i64 n, .string key] 150)
            simp only [World.size_alloc] at z4 p4
            refine ⟨a4, c4, rfl, o4', ?_, by omega, (xe.trans (hal4.mono xe.size)).grown g4 (by simp; omega) (fun j hj => (by have := (oX.lt j hj).1; omega)), fun b hb hh j => ?_⟩
            · rcases p4 with h | h
              · rw [h]; exact neV _ (by omega)
              · rw [h]; simp; omega
            · have hg := gcell g4 (b := b) (by simp; omega) (neV _ hh)
              exact ⟨(hg.1 j).trans ((bcell hal4).1 b j hb), (hg.2 j).trans ((bcell hal4).2 b j hb)⟩
          clear rR0 rR1 rR2 rF hx0 hx1 hx2 hxf rA0 rA1 rA2 hSw hS oA
          go_upto_region 10 with (go_at_call 121; refine hIns.mono ?_; rintro e w4 ⟨a4, c4, rfl, o4, hfar, z4, x4, hK⟩; have yA0 := (hK w.heap.size (by omega) (by omega) 0).1.trans pA0; have yA1 := (hK w.heap.size (by omega) (by omega) 1).1.trans pA1; have yA2 := (hK w.heap.size (by omega) (by omega) 2).1.trans pA2; have yX0 := (hK w2.heap.size (by omega) (by omega) 0).1.trans pX0; have yX1 := (hK w2.heap.size (by omega) (by omega) 1).1.trans pX1; have yX2 := (hK w2.heap.size (by omega) (by omega) 2).1.trans pX2; have yR0 := (hK (w.heap.size + 1) (by omega) (by omega) 0).1.trans pR0; have yR1 := (hK (w.heap.size + 1) (by omega) (by omega) 1).1.trans pR1; have yR2 := (hK (w.heap.size + 1) (by omega) (by omega) 2).1.trans pR2; have yXf := fun o => (hK w2.heap.size (by omega) (by omega) o).2.trans (pXf o); have yRf := fun o => (hK (w.heap.size + 1) (by omega) (by omega) o).2.trans (pRf o); clear hK hIns pA0 pA1 pA2 pX0 pX1 pX2 pR0 pR1 pR2 pXf pRf)
          have oS := own_far o4 ⟨w2.heap.size, 1, none⟩ (.slice a4 (addS d.slots n key).length c4) hfar
          have hIS : IsKeyDev (w4.setCell ⟨w2.heap.size, 1, none⟩ (.slice a4 (addS d.slots n key).length c4)) (.agg #[.string d.master, .slice a4 (addS d.slots n key).length c4, .int .i64 d.wiped]) (keyAddS d n key) := ⟨_, rfl, SlT.of_own oS (fun _ => rfl) (by decide)⟩
          have xS := Below.setCell x4 (p := ⟨w2.heap.size, 1, none⟩) (by simp <;> omega) (.slice a4 (addS d.slots n key).length c4)
          have zS : (w4.setCell ⟨w2.heap.size, 1, none⟩ (.slice a4 (addS d.slots n key).length c4)).heap.size = w4.heap.size := by simp
          have neA : w.heap.size ≠ w2.heap.size := by omega
          have neR : w.heap.size + 1 ≠ w2.heap.size := by omega
          have neR' : ¬ w2.heap.size = w.heap.size + 1 := by omega
          have neR'' : ¬ w.heap.size + 1 = w2.heap.size := by omega
          have tA0 := (sc_far (w := w4) (i := 1) (j := 0) (u := .slice a4 (addS d.slots n key).length c4) neA).trans yA0
          have tA1 := (sc_far (w := w4) (i := 1) (j := 1) (u := .slice a4 (addS d.slots n key).length c4) neA).trans yA1
          have tA2 := (sc_far (w := w4) (i := 1) (j := 2) (u := .slice a4 (addS d.slots n key).length c4) neA).trans yA2
          have tR0 := (sc_far (w := w4) (i := 1) (j := 0) (u := .slice a4 (addS d.slots n key).length c4) neR).trans yR0
          have tR1 := (sc_far (w := w4) (i := 1) (j := 1) (u := .slice a4 (addS d.slots n key).length c4) neR).trans yR1
          have tR2 := (sc_far (w := w4) (i := 1) (j := 2) (u := .slice a4 (addS d.slots n key).length c4) neR).trans yR2
          have tX0 := (sc_near (w := w4) (a := w2.heap.size) (i := 1) (j := 0) (u := .slice a4 (addS d.slots n key).length c4) (by decide)).trans yX0
          have tX1 := sc_same (u := .slice a4 (addS d.slots n key).length c4) yX1
          have tX2 := (sc_near (w := w4) (a := w2.heap.size) (i := 1) (j := 2) (u := .slice a4 (addS d.slots n key).length c4) (by decide)).trans yX2
          have tRf := fun o => (sc_frz (w := w4) (p := ⟨w2.heap.size, 1, none⟩) (u := .slice a4 (addS d.slots n key).length c4)).trans (yRf o)
          rcases hd2 : keyDevB (keyAddS d n key) with _ | _
          · have HR := Lib.hid (show keyAdd d n key = d from by simp [keyAdd, addB, hd, hd2])
            have HB := Lib.hid (show addB d n key = false from by simp [addB, hd2])
            go_wp2_with (first | (go_at_call 115; refine (implKeyOk _ (keyAddS d n key) _ hIS lS).mono ?_; rintro e w5 ⟨rfl, b5⟩; rw [hd2]; have x5 := xS.trans (b5.mono xS.size); have z5 := b5.size; rw [zS] at z5; obtain ⟨hc, hf⟩ := bcell b5; have sA0 := (hc w.heap.size 0 (by rw [zS]; omega)).trans tA0; have sA1 := (hc w.heap.size 1 (by rw [zS]; omega)).trans tA1; have sA2 := (hc w.heap.size 2 (by rw [zS]; omega)).trans tA2; have sX0 := (hc w2.heap.size 0 (by rw [zS]; omega)).trans tX0; have sX1 := (hc w2.heap.size 1 (by rw [zS]; omega)).trans tX1; have sX2 := (hc w2.heap.size 2 (by rw [zS]; omega)).trans tX2; have sR0 := (hc (w.heap.size + 1) 0 (by rw [zS]; omega)).trans tR0; have sR1 := (hc (w.heap.size + 1) 1 (by rw [zS]; omega)).trans tR1; have sR2 := (hc (w.heap.size + 1) 2 (by rw [zS]; omega)).trans tR2; have sRf := fun o => (hf (w.heap.size + 1) o (by rw [zS]; omega)).trans (tRf o); clear hc hf tA0 tA1 tA2 tR0 tR1 tR2 tX0 tX1 tX2 tRf yA0 yA1 yA2 yX0 yX1 yX2 yR0 yR1 yR2 yXf yRf) | (go_at_call 116; refine (copyKeys_row d ad cap _ (h0.below x5) l0).mono ?_; rintro e w6 ⟨v6, rfl, ⟨s6, rfl, r6⟩, b6⟩; obtain ⟨a6, c6, rfl⟩ := r6.form; have x6 := x5.trans (b6.mono x5.size); have z6 := b6.size; obtain ⟨hc, hf⟩ := bcell b6; have q0 := (hc (w.heap.size + 1) 0 (by omega)).trans sR0; have q1 := (hc (w.heap.size + 1) 1 (by omega)).trans sR1; have q2 := (hc (w.heap.size + 1) 2 (by omega)).trans sR2; have qf := fun o => (hf (w.heap.size + 1) o (by omega)).trans (sRf o); clear hc hf sR0 sR1 sR2 sRf))
            go_wp2
            refine bodyPost_ret (v := .tuple #[.agg #[.string d.master, .slice a6 d.slots.length c6, .int .i64 d.wiped], .bool false]) (by simp [results, Try.results43, go_sem, q0, q1, q2]) rfl ?_
            rw [HR.out, HB.out]
            refine ⟨_, rfl, ?_, ?_⟩
            · refine ⟨_, rfl, Row.of_own (n := d.slots.length) (own_mono (base := w.heap.size + 1 + 1) ?_ (by omega)) rfl⟩
              repeat (refine own_other ?_ _ (by simp <;> omega) _)
              exact own_mono r6.1 (by omega)
            · repeat (refine Below.setCell ?_ (by simp <;> omega) _)
              exact x6
          · have HR := Lib.hid (show keyAdd d n key = keyAddS d n key from by simp [keyAdd, addB, hd, hd2])
            have HB := Lib.hid (show addB d n key = true from by simp [addB, hd, hd2])
            go_wp2_with (go_at_call 115; refine (implKeyOk _ (keyAddS d n key) _ hIS lS).mono ?_; rintro e w5 ⟨rfl, b5⟩; rw [hd2]; have x5 := xS.trans (b5.mono xS.size); have z5 := b5.size; rw [zS] at z5; obtain ⟨hc, hf⟩ := bcell b5; have sA0 := (hc w.heap.size 0 (by rw [zS]; omega)).trans tA0; have sA1 := (hc w.heap.size 1 (by rw [zS]; omega)).trans tA1; have sA2 := (hc w.heap.size 2 (by rw [zS]; omega)).trans tA2; have sX0 := (hc w2.heap.size 0 (by rw [zS]; omega)).trans tX0; have sX1 := (hc w2.heap.size 1 (by rw [zS]; omega)).trans tX1; have sX2 := (hc w2.heap.size 2 (by rw [zS]; omega)).trans tX2; have sR0 := (hc (w.heap.size + 1) 0 (by rw [zS]; omega)).trans tR0; have sR1 := (hc (w.heap.size + 1) 1 (by rw [zS]; omega)).trans tR1; have sR2 := (hc (w.heap.size + 1) 2 (by rw [zS]; omega)).trans tR2; have sRf := fun o => (hf (w.heap.size + 1) o (by rw [zS]; omega)).trans (tRf o); clear hc hf tA0 tA1 tA2 tR0 tR1 tR2 tX0 tX1 tX2 tRf yA0 yA1 yA2 yX0 yX1 yX2 yR0 yR1 yR2 yXf yRf)
            go_wp2
            refine bodyPost_ret (v := .tuple #[.agg #[.string d.master, .slice a4 (addS d.slots n key).length c4, .int .i64 d.wiped], .bool true]) (by simp [results, Try.results43, go_sem, sX0, sX1, sX2, sR0, sR1, sR2, neR', neR'']) rfl ?_
            rw [HR.out, HB.out]
            refine ⟨_, rfl, ?_, ?_⟩
            · refine ⟨_, rfl, Row.of_own (n := (addS d.slots n key).length) (own_mono (base := w.heap.size + 1 + 1) ?_ (by omega)) rfl⟩
              repeat (refine own_other ?_ _ (by simp <;> omega) _)
              exact own_below oS b5
            · repeat (refine Below.setCell ?_ (by simp <;> omega) _)
              exact x5
end Go.Proofs.Ytfbbdnicplbmdaa
set_option linter.unusedVariables false
set_option linter.unusedSimpArgs false
namespace Go.Proofs.Ytfbbdnicplbmdaa
open Go.RowKit Sp Go.Sort
theorem unwT_len (m : ByteArray) (n : Int) (s : ByteArray) : ((str (unwT m n s)).size : Int) ≤ s.size := by
  rw [str_size]
  unfold unwT
  split
  · unfold chaS
    split
    · rw [stT_length, str_size, List.length_drop]
      have : s.data.toList.length = s.size := by simp
      omega
    · simp
  · simp

theorem isKD {w : World} {a0 : Option Addr} {c0 : Nat} {l : List SlotR} (m : ByteArray) (x : Int) (h : SlT SlotR.cells 2 w (.slice a0 l.length c0) l) : IsKeyDev w (.agg #[.string m, .slice a0 l.length c0, .int .i64 x]) ⟨m, l, x⟩ := ⟨_, rfl, h⟩
set_option maxRecDepth 100000 in
set_option maxHeartbeats 6400000 in
theorem walkFnKeys (w : World) (v : Value) (xs : List UInt8) (h : SlT bytC 1 w v xs) :
    Calls Try.prog 5 #[v] w fun e w' => e = .returned (.bool true) ∧ Below w.heap.size w w' := by
  by_cases hbig : 1048576 < (xs.length : Int)
  · go_enter Try.func5, Try.ntmps5
    go_wp2_with fail
    refine (big_any v xs _ h).mono ?_
    rintro e w1 ⟨rfl, rfl⟩
    rw [decide_eq_true hbig]
    go_wp2
    go_ret
    exact ⟨rfl, Below.refl _ _⟩
  go_enter Try.func5, Try.ntmps5
  go_wp2_with fail
  refine (big_any v xs _ h).mono ?_
  rintro e w1 ⟨rfl, rfl⟩
  rw [decide_eq_false (show ¬ 1048576 < (xs.length : Int) from by omega)]
  go_wp2_with fail
  refine (drawUnwrap_any v xs _ h (by omega)).mono ?_
  rintro e w1 ⟨m, n, s, rfl, hs, x1⟩
  have hk := unwT_len m n s
  have hk2 : ((str (unwT m n s)).size : Int) ≤ 1048576 := by omega
  have hlaw := Lib.hid (@wrap_unw m n s)
  go_wp2_with fail
  refine (implUnwrap m s n _ hs).mono ?_
  rintro e w2 ⟨rfl, b2⟩
  have x2 := x1.trans (b2.mono x1.size)
  clear x1 b2
  go_wp2_with fail
  refine (specUnwrap m s n _ hs).mono ?_
  rintro e w3 ⟨rfl, b3⟩
  have x3 := x2.trans (b3.mono x2.size)
  clear x2 b3
  have HW : RowKit.Hid (unwB m n s = true → str (wrapL m n (str (unwT m n s))) = s) := fun hh => by rw [hlaw.out hh, str_of]
  clear hlaw hk
  generalize str (unwT m n s) = key0 at *
  generalize unwB m n s = is0 at *
  have q0 : (s.toList == s.toList) = true := beq_self_eq_true _
  go_upto_region 6 with fail
  go_cut [58] (fun s58 wx => s58 = .bool false ∧ Below w.heap.size w wx)
  case first =>
    cases is0
    · go_wp2
      go_meet
      exact ⟨rfl, x3⟩
    · have HW2 := Lib.hid (HW.out rfl)
      go_wp2_with fail
      refine (implWrap m key0 n _ hk2).mono ?_
      rintro e w4 ⟨rfl, b4⟩
      rw [HW2.out]
      go_wp2
      go_meet
      exact ⟨rfl, x3.trans (b4.mono x3.size)⟩
  case rest =>
  clear HW hk2 q0 x3
  obtain ⟨rfl, x4⟩ := hcut
  go_wp2_with fail
  refine (drawKeyWipe_any v xs _ (h.below x4) (by omega)).mono ?_
  rintro e w5 ⟨a0, c0, ⟨dm, dl, dw⟩, t, rfl, hI, hdl, hdw, b5⟩
  dsimp only at hI hdl hdw ⊢
  have sd5 := hI.s1
  dsimp only at sd5
  have x5 := x4.trans (b5.mono x4.size)
  have l0 : (dl.length : Int) ≤ 1048576 := by omega
  clear hI x4 b5 hs
  have BD := Bx.new w5 #[.string dm, .slice a0 dl.length c0, .int .i64 dw] 64
  have b6 := hal2 w5 (.cells #[.string dm, .slice a0 dl.length c0, .int .i64 dw] 64)
  have x6 := x5.trans (b6.mono x5.size)
  go_upto_region 9 with fail
  generalize w5.alloc (.cells #[.string dm, .slice a0 dl.length c0, .int .i64 dw] 64) = w6 at *
  have sd6 := sd5.below b6
  clear sd5 b6 x5
  have D_0 := BD.cell 0 _ rfl
  have D_1 := BD.cell 1 _ rfl
  have D_2 := BD.cell 2 _ rfl
  go_wp2_with fail
  refine (implKeyWipe ⟨dm, dl, dw⟩ t a0 c0 _ sd6 l0).mono ?_
  rintro e w7 ⟨vx, rfl, ⟨xo, rfl, rx⟩, b7⟩
  have x7 := x6.trans (b7.mono x6.size)
  have sd7 := sd6.below b7
  have BD0 := BD.below b7
  clear BD
  have BD := BD0
  clear BD0
  clear D_0 D_1 D_2 sd6 b7 x6
  have HLW := Lib.hid (@wiped_law ⟨dm, dl, dw⟩ t)
  obtain ⟨⟨xm, xl, xw⟩, hX⟩ : ∃ X, keyWipe ⟨dm, dl, dw⟩ t = X := ⟨_, rfl⟩
  have hxl : (xl.length : Int) ≤ 1048576 := by have := keyWipe_len ⟨dm, dl, dw⟩ t l0; rw [hX] at this; exact this
  rw [hX] at rx HLW ⊢
  clear hX
  dsimp only at rx HLW ⊢
  obtain ⟨xq, xp, rfl⟩ := rx.form
  have sx7 := rx.slT (fun _ => rfl) (by decide)
  clear rx
  have BX := Bx.new w7 #[.string xm, .slice xq xl.length xp, .int .i64 xw] 64
  have b8 := hal2 w7 (.cells #[.string xm, .slice xq xl.length xp, .int .i64 xw] 64)
  have x8 := x7.trans (b8.mono x7.size)
  go_upto_region 10 with fail
  generalize w7.alloc (.cells #[.string xm, .slice xq xl.length xp, .int .i64 xw] 64) = w8 at *
  have sd8 := sd7.below b8
  have sx8 := sx7.below b8
  have BD0 := BD.below b8
  clear BD
  have BD := BD0
  clear BD0
  clear sd7 sx7 b8 x7
  have D_0 := BD.cell 0 _ rfl
  have D_1 := BD.cell 1 _ rfl
  have D_2 := BD.cell 2 _ rfl
  go_wp2_with fail
  refine (specKeyWipe ⟨dm, dl, dw⟩ t a0 c0 _ sd8 l0).mono ?_
  rintro e w9 ⟨vy, rfl, ⟨yo, rfl, ry⟩, b9⟩
  obtain ⟨ya, yp, rfl, hyz⟩ := ry.shape
  clear hyz
  have x9 := x8.trans (b9.mono x8.size)
  have sd9 := sd8.below b9
  have sx9 := sx8.below b9
  have BD0 := BD.below b9
  clear BD
  have BD := BD0
  clear BD0
  have BX0 := BX.below b9
  clear BX
  have BX := BX0
  clear BX0
  clear D_0 D_1 D_2 sd8 sx8 b9 x8 ry
  generalize (keyWipe ⟨dm, dl, dw⟩ t).master = ym at *
  generalize (keyWipe ⟨dm, dl, dw⟩ t).slots.length = yn at *
  generalize (keyWipe ⟨dm, dl, dw⟩ t).wiped = yw at *
  generalize wipeB ⟨dm, dl, dw⟩ t = bw at *
  have BZ := Bx.new w9 #[.string ym, .slice ya yn yp, .int .i64 yw] 64
  have b10 := hal2 w9 (.cells #[.string ym, .slice ya yn yp, .int .i64 yw] 64)
  have x10 := x9.trans (b10.mono x9.size)
  go_upto_region 11 with fail
  generalize w9.alloc (.cells #[.string ym, .slice ya yn yp, .int .i64 yw] 64) = w10 at *
  have sd10 := sd9.below b10
  have sx10 := sx9.below b10
  have BD0 := BD.below b10
  clear BD
  have BD := BD0
  clear BD0
  have BX0 := BX.below b10
  clear BX
  have BX := BX0
  clear BX0
  clear sd9 sx9 b10 x9 BZ
  go_wp2_with fail
  refine (drawKeyAdd_any v xs _ (h.below x10) (by omega)).mono ?_
  rintro e w11 ⟨a1, c1, ⟨em, el, ew⟩, who, key, rfl, hI, hel, hew, hkey, b11⟩
  dsimp only at hI hel hew ⊢
  have se11 := hI.s1
  dsimp only at se11
  have x11 := x10.trans (b11.mono x10.size)
  have sd11 := sd10.below b11
  have sx11 := sx10.below b11
  have k0 : (el.length : Int) ≤ 1048576 := by omega
  have BD0 := BD.below b11
  clear BD
  have BD := BD0
  clear BD0
  have BX0 := BX.below b11
  clear BX
  have BX := BX0
  clear BX0
  clear hI x10 b11 sd10 sx10
  have BE := Bx.new w11 #[.string em, .slice a1 el.length c1, .int .i64 ew] 64
  have b12 := hal2 w11 (.cells #[.string em, .slice a1 el.length c1, .int .i64 ew] 64)
  have x12 := x11.trans (b12.mono x11.size)
  go_upto_region 12 with fail
  generalize w11.alloc (.cells #[.string em, .slice a1 el.length c1, .int .i64 ew] 64) = w12 at *
  have sd12 := sd11.below b12
  have sx12 := sx11.below b12
  have se12 := se11.below b12
  have BD0 := BD.below b12
  clear BD
  have BD := BD0
  clear BD0
  have BX0 := BX.below b12
  clear BX
  have BX := BX0
  clear BX0
  clear sd11 sx11 se11 b12 x11
  have E_0 := BE.cell 0 _ rfl
  have E_1 := BE.cell 1 _ rfl
  have E_2 := BE.cell 2 _ rfl
  go_wp2_with fail
  refine (implKeyAdd ⟨em, el, ew⟩ who key a1 c1 _ se12 k0).mono ?_
  rintro e w13 ⟨vy, rfl, ⟨yq, rfl, ry⟩, b13⟩
  have x13 := x12.trans (b13.mono x12.size)
  have sd13 := sd12.below b13
  have sx13 := sx12.below b13
  have se13 := se12.below b13
  have BD0 := BD.below b13
  clear BD
  have BD := BD0
  clear BD0
  have BX0 := BX.below b13
  clear BX
  have BX := BX0
  clear BX0
  have BE0 := BE.below b13
  clear BE
  have BE := BE0
  clear BE0
  clear E_0 E_1 E_2 sd12 sx12 se12 b13 x12
  have HLA := Lib.hid (@added_law ⟨em, el, ew⟩ who key)
  have HLN := Lib.hid (@notadded_law ⟨em, el, ew⟩ who key)
  have HLE : RowKit.Hid (addB ⟨em, el, ew⟩ who key = true → keyDevB ⟨em, el, ew⟩ = true) := fun hh => by simp only [addB, Bool.and_eq_true] at hh; exact hh.1
  obtain ⟨⟨ym, yl, yw⟩, hY⟩ : ∃ Y, keyAdd ⟨em, el, ew⟩ who key = Y := ⟨_, rfl⟩
  have hyl : (yl.length : Int) ≤ 1048576 := by have := keyAdd_len ⟨em, el, ew⟩ who key k0; rw [hY] at this; exact this
  rw [hY] at ry HLA HLN ⊢
  clear hY
  dsimp only at ry ⊢
  obtain ⟨yo, yp, rfl⟩ := ry.form
  have sy13 := ry.slT (fun _ => rfl) (by decide)
  clear ry
  have BY := Bx.new w13 #[.string ym, .slice yo yl.length yp, .int .i64 yw] 64
  have b14 := hal2 w13 (.cells #[.string ym, .slice yo yl.length yp, .int .i64 yw] 64)
  have x14 := x13.trans (b14.mono x13.size)
  go_upto_region 13 with fail
  generalize w13.alloc (.cells #[.string ym, .slice yo yl.length yp, .int .i64 yw] 64) = w14 at *
  have sd14 := sd13.below b14
  have sx14 := sx13.below b14
  have se14 := se13.below b14
  have sy14 := sy13.below b14
  have BD0 := BD.below b14
  clear BD
  have BD := BD0
  clear BD0
  have BX0 := BX.below b14
  clear BX
  have BX := BX0
  clear BX0
  have BE0 := BE.below b14
  clear BE
  have BE := BE0
  clear BE0
  clear sd13 sx13 se13 sy13 b14 x13
  have E_0 := BE.cell 0 _ rfl
  have E_1 := BE.cell 1 _ rfl
  have E_2 := BE.cell 2 _ rfl
  go_wp2_with fail
  refine (specKeyAdd ⟨em, el, ew⟩ who key a1 c1 _ se14 k0).mono ?_
  rintro e w15 ⟨vz, rfl, ⟨zo, rfl, rz⟩, b15⟩
  obtain ⟨za, zp, rfl, hzz⟩ := rz.shape
  clear hzz
  have x15 := x14.trans (b15.mono x14.size)
  have sd15 := sd14.below b15
  have sx15 := sx14.below b15
  have se15 := se14.below b15
  have sy15 := sy14.below b15
  have BD0 := BD.below b15
  clear BD
  have BD := BD0
  clear BD0
  have BX0 := BX.below b15
  clear BX
  have BX := BX0
  clear BX0
  have BE0 := BE.below b15
  clear BE
  have BE := BE0
  clear BE0
  have BY0 := BY.below b15
  clear BY
  have BY := BY0
  clear BY0
  clear E_0 E_1 E_2 sd14 sx14 se14 sy14 b15 x14 rz
  generalize (keyAdd ⟨em, el, ew⟩ who key).master = zm at *
  generalize (keyAdd ⟨em, el, ew⟩ who key).slots.length = zn at *
  generalize (keyAdd ⟨em, el, ew⟩ who key).wiped = zw at *
  generalize addB ⟨em, el, ew⟩ who key = ba at *
  have BZ := Bx.new w15 #[.string zm, .slice za zn zp, .int .i64 zw] 64
  have b16 := hal2 w15 (.cells #[.string zm, .slice za zn zp, .int .i64 zw] 64)
  have x16 := x15.trans (b16.mono x15.size)
  go_upto_region 14 with fail
  generalize w15.alloc (.cells #[.string zm, .slice za zn zp, .int .i64 zw] 64) = w16 at *
  have sd16 := sd15.below b16
  have sx16 := sx15.below b16
  have se16 := se15.below b16
  have sy16 := sy15.below b16
  have BD0 := BD.below b16
  clear BD
  have BD := BD0
  clear BD0
  have BX0 := BX.below b16
  clear BX
  have BX := BX0
  clear BX0
  have BE0 := BE.below b16
  clear BE
  have BE := BE0
  clear BE0
  have BY0 := BY.below b16
  clear BY
  have BY := BY0
  clear BY0
  clear sd15 sx15 se15 sy15 b16 x15 BZ
  go_upto_region 16 with fail
  have iX16 : IsKeyDev w16 (.agg #[.string xm, .slice xq xl.length xp, .int .i64 xw]) ⟨xm, xl, xw⟩ := ⟨_, rfl, sx16⟩
  have iD16 : IsKeyDev w16 (.agg #[.string dm, .slice a0 dl.length c0, .int .i64 dw]) ⟨dm, dl, dw⟩ := ⟨_, rfl, sd16⟩
  go_cut [124] (fun s124 wx => s124 = .bool false ∧ Below w16.heap.size w16 wx)
  case first =>
    cases bw
    · go_wp2
      go_meet
      exact ⟨rfl, Below.refl _ _⟩
    · obtain ⟨h1, h2, h3, h4⟩ := HLW.out rfl
      subst h3
      have H1 := Lib.hid h1
      have hw1 : IntKind.i64.wrap (dw + 1) = dw + 1 := by unfold inI64 at hdw; rw [IntKind.wrap_i64]; omega
      have hqq : (dw + 1 == dw + 1) = true := beq_self_eq_true _
      clear h1 HLW h4
      have D_0 := BD.cell 0 _ rfl
      have D_1 := BD.cell 1 _ rfl
      have D_2 := BD.cell 2 _ rfl
      have X_0 := BX.cell 0 _ rfl
      have X_1 := BX.cell 1 _ rfl
      have X_2 := BX.cell 2 _ rfl
      go_wp2_with fail
      refine (implKeyOf _ ⟨xm, xl, dw + 1⟩ t _ iX16 hxl).mono ?_
      rintro e w17 ⟨rfl, b17⟩
      rw [H1.out]
      have iD17 := iD16.below b17
      have BD0 := BD.below b17
      clear BD
      have BD := BD0
      clear BD0
      have BX0 := BX.below b17
      clear BX
      have BX := BX0
      clear BX0
      clear D_0 D_1 D_2 X_0 X_1 X_2
      have D_0 := BD.cell 0 _ rfl
      have D_1 := BD.cell 1 _ rfl
      have D_2 := BD.cell 2 _ rfl
      have X_0 := BX.cell 0 _ rfl
      have X_1 := BX.cell 1 _ rfl
      have X_2 := BX.cell 2 _ rfl
      go_wp2_with fail
      refine (specKeyOf _ ⟨dm, dl, dw⟩ t _ iD17 l0).mono ?_
      rintro e w18 ⟨rfl, b18⟩
      generalize slotKeyOf ⟨dm, dl, dw⟩ t = kd at *
      have BD0 := BD.below b18
      clear BD
      have BD := BD0
      clear BD0
      have BX0 := BX.below b18
      clear BX
      have BX := BX0
      clear BX0
      clear D_0 D_1 D_2 X_0 X_1 X_2
      have D_0 := BD.cell 0 _ rfl
      have D_1 := BD.cell 1 _ rfl
      have D_2 := BD.cell 2 _ rfl
      have X_0 := BX.cell 0 _ rfl
      have X_1 := BX.cell 1 _ rfl
      have X_2 := BX.cell 2 _ rfl
      have hk1 : (kd.toList == []) = false := by
        rw [beq_eq_false_iff_ne]
        intro hc
        apply h2
        exact ByteArray.ext (by have : kd.toList = kd.data.toList := by rw [← str_toList kd.data.toList, str_of]
                                rw [this] at hc
                                simpa using hc)
      have hk2 : kd.toList.isEmpty = false := by rw [← hk1]; cases kd.toList <;> rfl
      go_wp2
      go_meet
      exact ⟨rfl, b17.trans (b18.mono b17.size)⟩
  case rest =>
  obtain ⟨rfl, bC⟩ := hcut
  have xC := x16.trans (bC.mono x16.size)
  have seC := se16.below bC
  have syC := sy16.below bC
  have BE0 := BE.below bC
  clear BE
  have BE := BE0
  clear BE0
  have BY0 := BY.below bC
  clear BY
  have BY := BY0
  clear BY0
  clear iX16 iD16 sd16 sx16 se16 sy16 BD BX x16 HLW bC
  go_upto_region 18 with fail
  have iYC := isKD ym yw syC
  go_cut [137] (fun s137 wx => s137 = .bool false ∧ Below w.heap.size w wx ∧ SlT SlotR.cells 2 wx (.slice a1 el.length c1) el ∧ SlT SlotR.cells 2 wx (.slice yo yl.length yp) yl ∧ Bx wx w11.heap.size #[.string em, .slice a1 el.length c1, .int .i64 ew] ∧ Bx wx w13.heap.size #[.string ym, .slice yo yl.length yp, .int .i64 yw])
  case first =>
    cases ba
    · go_wp2
      go_meet
      exact ⟨rfl, xC, seC, syC, BE, BY⟩
    · obtain ⟨h1, h2⟩ := HLA.out rfl
      have H1 := Lib.hid h1
      have H2 := Lib.hid h2
      have hqq : (key.toList == key.toList) = true := beq_self_eq_true _
      clear h1 h2 HLA HLN
      have Y_0 := BY.cell 0 _ rfl
      have Y_1 := BY.cell 1 _ rfl
      have Y_2 := BY.cell 2 _ rfl
      go_wp2_with fail
      refine (implKeyOf _ ⟨ym, yl, yw⟩ who _ iYC hyl).mono ?_
      rintro e w17 ⟨rfl, b17⟩
      rw [H1.out]
      have iY17 := IsKeyDev.below iYC b17
      have BE0 := BE.below b17
      clear BE
      have BE := BE0
      clear BE0
      have BY0 := BY.below b17
      clear BY
      have BY := BY0
      clear BY0
      clear Y_0 Y_1 Y_2
      have Y_0 := BY.cell 0 _ rfl
      have Y_1 := BY.cell 1 _ rfl
      have Y_2 := BY.cell 2 _ rfl
      go_wp2_with fail
      refine (specKeyOk _ ⟨ym, yl, yw⟩ _ iY17 hyl).mono ?_
      rintro e w18 ⟨rfl, b18⟩
      rw [H2.out]
      have BE0 := BE.below b18
      clear BE
      have BE := BE0
      clear BE0
      have BY0 := BY.below b18
      clear BY
      have BY := BY0
      clear BY0
      clear Y_0 Y_1 Y_2
      have b8 := b17.trans (b18.mono b17.size)
      have x8 := xC.trans (b8.mono xC.size)
      have s8 := seC.below b8
      have t8 := syC.below b8
      go_wp2
      go_meet
      exact ⟨rfl, x8, s8, t8, BE, BY⟩
  case rest =>
  clear xC seC syC BE BY iYC HLA
  obtain ⟨rfl, xC, seC, syC, BE, BY⟩ := hcut
  have iEC := isKD em ew seC
  have E_0 := BE.cell 0 _ rfl
  have E_1 := BE.cell 1 _ rfl
  have E_2 := BE.cell 2 _ rfl
  go_wp2_with fail
  refine (specKeyOk _ ⟨em, el, ew⟩ _ iEC k0).mono ?_
  rintro e w17 ⟨rfl, b17⟩
  have xD := xC.trans (b17.mono xC.size)
  have seD := seC.below b17
  have syD := syC.below b17
  have BE0 := BE.below b17
  clear BE
  have BE := BE0
  clear BE0
  have BY0 := BY.below b17
  clear BY
  have BY := BY0
  clear BY0
  clear E_0 E_1 E_2 xC seC syC iEC b17
  cases ba
  · have HLN2 := HLN.out rfl
    clear HLN HLE
    generalize keyDevB ⟨em, el, ew⟩ = ok at *
    cases ok
    · go_wp2
      go_ret
      exact ⟨rfl, xD⟩
    · have hh := HLN2 rfl
      simp only [KeyDevR.mk.injEq] at hh
      obtain ⟨rfl, rfl, rfl⟩ := hh
      clear HLN2
      have E_0 := BE.cell 0 _ rfl
      have E_1 := BE.cell 1 _ rfl
      have E_2 := BE.cell 2 _ rfl
      have Y_0 := BY.cell 0 _ rfl
      have Y_1 := BY.cell 1 _ rfl
      have Y_2 := BY.cell 2 _ rfl
      go_wp2_with fail
      refine (sameKeys_eq ⟨ym, yl, yw⟩ yo a1 yp c1 _ syD seD k0).mono ?_
      rintro e w18 ⟨rfl, b18⟩
      go_wp2
      go_ret
      exact ⟨rfl, xD.trans (b18.mono xD.size)⟩
  · rw [HLE.out rfl]
    clear HLE HLN
    go_wp2
    go_ret
    exact ⟨rfl, xD⟩
end Go.Proofs.Ytfbbdnicplbmdaa

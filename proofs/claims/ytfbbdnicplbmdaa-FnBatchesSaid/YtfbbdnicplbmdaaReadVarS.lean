
/- Walks: ReadVar of the reference. -/
import Derived.Test.YtfbbdnicplbmdaaReadVarI
import Derived.WalkKit
import Derived.WalkSpells
import Derived.WalkLawsBesides
import Derived.BigQuiet
import Derived.Lib.QuietBelow
import Derived.Lib.Hide
import Derived.Lib.Strings
set_option linter.unusedVariables false
set_option linter.unusedSimpArgs false
namespace Go.Proofs.Ytfbbdnicplbmdaa
open Go.RowKit Sp Go.Sort

def SVInv (l : List UInt8) (k : Nat) : Prop := ∀ j, 1 ≤ j → j < k → j ≤ l.length → can (l.take j) = false
theorem SVInv.step {l : List UInt8} {k : Nat} (h : SVInv l k) (hc : can (l.take k) = false) : SVInv l (k + 1) := by
  intro j h1 h2 h3
  by_cases hj : j = k
  · rw [hj]; exact hc
  · exact h j h1 (by omega) h3
theorem SVInv.fin {l : List UInt8} {k : Nat} (h : SVInv l k) (hk : 7 < k ∨ l.length < k) : readVarL l = (0, 0) :=
  readVarL_none fun j h1 h2 h3 => h j h1 (by omega) h3
theorem eq_can (s : ByteArray) (j : Nat) : ((str (varB (val (s.data.toList.take j)))).toList == (s.extract 0 j).toList) = can (s.data.toList.take j) := by
  rw [str_toList, Lib.extract_toList, List.drop_zero, Nat.sub_zero, Bool.eq_iff_iff, beq_iff_eq, can_iff]
theorem val_back {s : ByteArray} {k j : Nat} (hk : k ≤ s.size) (hj : j < k) (hp : k - 1 - j < s.size) :
    val ((s.data.toList.take k).drop (k - (j + 1))) = s[k - 1 - j].toNat % 128 + 128 * val ((s.data.toList.take k).drop (k - j)) := by
  have hl : k - (j + 1) < (s.data.toList.take k).length := by simp; omega
  rw [List.drop_eq_getElem_cons hl, val]
  have e1 : (s.data.toList.take k)[k - (j + 1)] = s[k - 1 - j] := by
    rw [List.getElem_take]; show s[k - (j + 1)] = _; congr 1; omega
  rw [e1, show k - (j + 1) + 1 = k - j from by omega]
theorem val_le6 {l : List UInt8} (h : l.length ≤ 6) : val l ≤ 4398046511103 := by
  have h1 := val_lt l
  have h2 : 128 ^ l.length ≤ 128 ^ 6 := Nat.pow_le_pow_right (by omega) h
  omega

set_option maxRecDepth 100000 in
set_option maxHeartbeats 400000 in
theorem specReadVar (s : ByteArray) (w : World) (hs : (s.size : Int) ≤ 9223372036854775807) :
    Calls Try.prog 152 #[.string s] w fun e w' => e = .returned (.tuple #[.int .i64 ((readVarL s.data.toList).1 : Nat), .int .i64 ((readVarL s.data.toList).2 : Nat)]) ∧ Below w.heap.size w w' := by
  go_enter Try.func152, Try.ntmps152
  go_wp2
  go_loopw [4] (fun i wr => ∃ k : Nat, (k : Int) ≤ 8 ∧ 1 ≤ k ∧ i = .int .i64 k ∧ SVInv s.data.toList k ∧ Below w.heap.size w wr) (fun i _ => 8 - (intOf i).toNat)
  case atStart => exact ⟨1, by omega, by omega, rfl, by intro j h1 h2; omega, Below.refl _ _⟩
  case round =>
    obtain ⟨k, hk, hk1, rfl, hinv, hbl⟩ := hrel
    by_cases h7 : (k : Int) ≤ 7
    · by_cases hks : (k : Int) ≤ s.size
      · go_wp2
        obtain ⟨wo, rfl⟩ : ∃ wo : World, wo = wr := ⟨_, rfl⟩
        go_loop [5, 6] (fun n i => ∃ j : Nat, j ≤ k ∧ i = .int .i64 ((k : Int) - 1 - j) ∧ n = .int .i64 (val ((s.data.toList.take k).drop (k - j)) : Nat)) (fun _ i => (intOf i + 1).toNat)
        case atStart => exact ⟨0, by omega, by simp, by simp [val]⟩
        case round =>
          obtain ⟨j, hj, rfl, rfl⟩ := hrel
          by_cases hjk : j < k
          · have hp : k - 1 - j < s.size := by omega
            have hv := val_back (s := s) (by omega) hjk hp
            have hb := val_le6 (l := (s.data.toList.take k).drop (k - j)) (by simp; omega)
            have HV := Lib.hid hv
            have hby : (s[k - 1 - j].toNat : Int) ≤ 255 := by have := s[k - 1 - j].toNat_lt; omega
            clear hv
            generalize val ((s.data.toList.take k).drop (k - j)) = x at *
            go_wp2
            go_round
            case rel => exact ⟨j + 1, by omega, by go_num, by rw [HV.out]; go_num⟩
            case measure => simp [intOf]; omega
          · obtain rfl : j = k := by omega
            have hx := val_lt7 (l := s.data.toList.take j) (by simp; omega)
            have hx' : (val (s.data.toList.take j) : Int) ≤ 562949953421311 := by omega
            have cV : ∀ d os, Calls Try.prog 131 #[.int .i64 (val (s.data.toList.take j) : Nat)] (grow (redrawn wo d) os) fun e w'' => e = .returned (.string (str (varB (val (s.data.toList.take j))))) ∧ ∃ p : Regrown, w'' = grow (redrawn wo p.d) p.os := fun d os => Calls.regrown_of (specVar_any _ _ hx')
            clear hx
            go_wp2
            refine wp_region_quiet_below (by kernel_rfl) (by kernel_rfl) ?_
            repeat (go_big_quiet_step (exact cV _ _))
            refine wpQuiet_nil ?_
            intro w2 hw'
            have hb2 : RowKit.Below wo.heap.size wo w2 := by obtain ⟨p, rfl⟩ := hw'; exact below_regrown _ _ _
            have hb3 : RowKit.Below w.heap.size w w2 := hbl.trans (hb2.mono hbl.size)
            clear hw' cV hx'
            rw [eq_can s j]
            cases hc : can (s.data.toList.take j) with
            | true =>
              have HR := Lib.hid (readVarL_can (s := s.data.toList) hk1 (by omega) (by simp; omega) hc)
              clear hc
              go_wp2
              go_ret2
              exact ⟨by rw [HR.out]; rfl, hb3⟩
            | false =>
              have hinv2 : SVInv s.data.toList (j + 1) := hinv.step hc
              clear hc
              go_wp2
              go_roundw
              case rel => exact ⟨j + 1, by omega, by omega, by go_num, hinv2, hb3⟩
              case measure => simp [intOf]; omega
      · go_wp2
        go_ret2
        exact ⟨by rw [hinv.fin (.inr (by simp; omega))]; rfl, hbl⟩
    · go_wp2
      go_ret2
      exact ⟨by rw [hinv.fin (.inl (by omega))]; rfl, hbl⟩
end Go.Proofs.Ytfbbdnicplbmdaa

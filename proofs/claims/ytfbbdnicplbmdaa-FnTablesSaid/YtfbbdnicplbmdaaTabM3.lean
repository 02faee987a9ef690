
/- Walks: TableGet of the reference and of the program. -/
import Derived.Test.YtfbbdnicplbmdaaTabM2
import Derived.Deep.QuietTactic
import Derived.BigQuiet
import Derived.Test.YtfbbdnicplbmdaaRBlkP
import Derived.Test.YtfbbdnicplbmdaaTabM1
import Derived.Test.YtfbbdnicplbmdaaKEntA
import Derived.Test.YtfbbdnicplbmdaaRdX
import Derived.Lib.QuietBelow
import Derived.Test.YtfbbdnicplbmdaaShelf
import Derived.Deep.DeepCutAuto
import Derived.Deep.RegionHeld3
import Derived.Test.YtfbbdnicplbmdaaTakeW
import Derived.Test.YtfbbdnicplbmdaaBloomM
/- Walks: l12Same of the reference; slices.Equal at parts and sameTable of the program. -/
set_option linter.unusedVariables false
set_option linter.unusedSimpArgs false
namespace Go.Proofs.Ytfbbdnicplbmdaa
open Go.RowKit Sp Go.Sort

set_option maxRecDepth 100000 in
set_option maxHeartbeats 1600000 in
theorem l12Same_any (s t : Value) (a b : TabR) (w : World) (ha : IsTable w s a) (hb : IsTable w t b) (la : (a.parts.length : Int) ≤ 1048576) (lb : (b.parts.length : Int) ≤ 1048576) :
    Calls Try.prog 75 #[s, t] w fun e w' => e = .returned (.bool (tabEq a b)) ∧ Below w.heap.size w w' := by
  obtain ⟨u, rfl, hu⟩ := ha
  obtain ⟨v, rfl, hv⟩ := hb
  obtain ⟨ao, cap, rfl, hlc, hcm, hsh⟩ := hu.shape
  obtain ⟨bo, cbp, rfl, hlc1, hcm1, hsh1⟩ := hv.shape
  have hb2 : ∀ o₁ o₂ : Obj, RowKit.Below w.heap.size w ((w.alloc o₁).alloc o₂) := fun o₁ o₂ => ((Below.refl _ _).alloc (Nat.le_refl _) _).alloc (by simp <;> omega) _
  rcases e1 : (a.bloom.toList == b.bloom.toList) with _ | _
  · have e1' : (a.bloom.toList != b.bloom.toList) = true := by simp [bne, e1]
    have HR := Lib.hid (show tabEq a b = false from by simp only [tabEq, e1, Bool.false_and])
    go_enter Try.func75, Try.ntmps75
    go_wp2
    go_ret
    exact ⟨by rw [HR.out]; rfl, hb2 _ _⟩
  have e1' : (a.bloom.toList != b.bloom.toList) = false := by simp [bne, e1]
  rcases e2 : (a.top == b.top) with _ | _
  · have e2' : (a.top != b.top) = true := by simp [bne, e2]
    have HR := Lib.hid (show tabEq a b = false from by simp only [tabEq, e2, Bool.false_and, Bool.and_false])
    go_enter Try.func75, Try.ntmps75
    go_wp2
    go_ret
    exact ⟨by rw [HR.out]; rfl, hb2 _ _⟩
  have e2' : (a.top != b.top) = false := by simp [bne, e2]
  by_cases hl : a.parts.length = b.parts.length
  rotate_left
  · have e3 : ((a.parts.length : Int) != (b.parts.length : Int)) = true := by rw [bne_iff_ne]; omega
    have HR := Lib.hid (show tabEq a b = false from by simp only [tabEq, partsEq_len hl, Bool.and_false])
    go_enter Try.func75, Try.ntmps75
    go_wp2
    go_ret
    exact ⟨by rw [HR.out]; rfl, hb2 _ _⟩
  have e3 : ((a.parts.length : Int) != (b.parts.length : Int)) = false := by rw [hl]; simp
  have HR := Lib.hid (show tabEq a b = partsEq a.parts b.parts from by simp only [tabEq, e1, e2, Bool.true_and])
  have HL := Lib.hid hl
  have hle : a.parts.length ≤ b.parts.length := by omega
  clear hl
  go_enter Try.func75, Try.ntmps75
  go_wp2
  have xb := hb2 (.cells #[.slice ao a.parts.length cap, .string a.bloom, .int .i64 a.top] 26) (.cells #[.slice bo b.parts.length cbp, .string b.bloom, .int .i64 b.top] 26)
  have BA := (Bx.new w #[.slice ao a.parts.length cap, .string a.bloom, .int .i64 a.top] 26).below ((Below.refl _ _).alloc (Nat.le_refl _) (.cells #[.slice bo b.parts.length cbp, .string b.bloom, .int .i64 b.top] 26))
  have BB := Bx.new (w.alloc (.cells #[.slice ao a.parts.length cap, .string a.bloom, .int .i64 a.top] 26)) #[.slice bo b.parts.length cbp, .string b.bloom, .int .i64 b.top] 26
  rw [show (w.alloc (.cells #[.slice ao a.parts.length cap, .string a.bloom, .int .i64 a.top] 26)).heap.size = w.heap.size + 1 from by simp] at BB
  generalize ((w.alloc (.cells #[.slice ao a.parts.length cap, .string a.bloom, .int .i64 a.top] 26)).alloc (.cells #[.slice bo b.parts.length cbp, .string b.bloom, .int .i64 b.top] 26)) = W0 at *
  go_loopw [5] (fun i wr => ∃ k : Nat, i = .int .i64 k ∧ k ≤ a.parts.length ∧ RowKit.Hid (partsEq a.parts b.parts = partsEq (a.parts.drop k) (b.parts.drop k)) ∧ RowKit.Below W0.heap.size W0 wr) (fun i _ => a.parts.length - (intOf i).toNat)
  case atStart => exact ⟨0, rfl, Nat.zero_le _, Lib.hid (by simp), Below.refl _ _⟩
  case round =>
    obtain ⟨k, rfl, hk, HP, xr⟩ := hrel
    have CA := BA.below xr
    have CB := BB.below xr
    have a0 := CA.cell 0 _ rfl
    have b0 := CB.cell 0 _ rfl
    by_cases hlt : k < a.parts.length
    · have hltb : k < b.parts.length := by omega
      have hltI : (k : Int) < (a.parts.length : Int) := by omega
      have hltbI : (k : Int) < (b.parts.length : Int) := by omega
      obtain ⟨b1, o1, rfl, hb1, hc⟩ := hsh (by omega)
      obtain ⟨b2, o2, rfl, hb2', hc'⟩ := hsh1 (by omega)
      have xw : RowKit.Below w.heap.size w wr := xb.trans (xr.mono xb.size)
      have k0 : wr.cell? ⟨b1, o1 + k * 2, none⟩ = some (.string a.parts[k].last) := (xw.cell (p := ⟨b1, o1 + k * 2, none⟩) hb1).trans (hc k hlt 0 _ rfl)
      have k1 : wr.cell? ⟨b1, o1 + k * 2 + 1, none⟩ = some (.string a.parts[k].text) := (xw.cell (p := ⟨b1, o1 + k * 2 + 1, none⟩) hb1).trans (hc k hlt 1 _ rfl)
      have m0 : wr.cell? ⟨b2, o2 + k * 2, none⟩ = some (.string b.parts[k].last) := (xw.cell (p := ⟨b2, o2 + k * 2, none⟩) hb2').trans (hc' k hltb 0 _ rfl)
      have m1 : wr.cell? ⟨b2, o2 + k * 2 + 1, none⟩ = some (.string b.parts[k].text) := (xw.cell (p := ⟨b2, o2 + k * 2 + 1, none⟩) hb2').trans (hc' k hltb 1 _ rfl)
      have HE := Lib.hid (partsEq_drop hlt hltb)
      clear hc hc' hsh hsh1 hu hv
      rcases f1 : (a.parts[k].last.toList == b.parts[k].last.toList) with _ | _
      · have HF := Lib.hid (show partEq a.parts[k] b.parts[k] = false from by simp only [partEq, f1, Bool.false_and])
        have f1' : (a.parts[k].last.toList != b.parts[k].last.toList) = true := by simp [bne, f1]
        generalize a.parts[k].last = p0 at *
        generalize a.parts[k].text = p1 at *
        generalize b.parts[k].last = q0 at *
        generalize b.parts[k].text = q1 at *
        go_wp2_with fail
        go_quiet (fail)
        go_wp2
        go_ret
        exact ⟨by rw [HR.out, HP.out, HE.out, HF.out]; rfl, below_drewN xw _⟩
      have f1' : (a.parts[k].last.toList != b.parts[k].last.toList) = false := by simp [bne, f1]
      rcases f2 : (a.parts[k].text.toList == b.parts[k].text.toList) with _ | _
      · have HF := Lib.hid (show partEq a.parts[k] b.parts[k] = false from by simp only [partEq, f1, f2, Bool.true_and])
        have f2' : (a.parts[k].text.toList != b.parts[k].text.toList) = true := by simp [bne, f2]
        generalize a.parts[k].last = p0 at *
        generalize a.parts[k].text = p1 at *
        generalize b.parts[k].last = q0 at *
        generalize b.parts[k].text = q1 at *
        go_wp2_with fail
        go_quiet (fail)
        go_wp2
        go_ret
        exact ⟨by rw [HR.out, HP.out, HE.out, HF.out]; rfl, below_drewN xw _⟩
      · have HF := Lib.hid (show partEq a.parts[k] b.parts[k] = true from by simp only [partEq, f1, f2, Bool.true_and])
        have f2' : (a.parts[k].text.toList != b.parts[k].text.toList) = false := by simp [bne, f2]
        generalize a.parts[k].last = p0 at *
        generalize a.parts[k].text = p1 at *
        generalize b.parts[k].last = q0 at *
        generalize b.parts[k].text = q1 at *
        go_wp2_with fail
        go_quiet (fail)
        go_wp2
        go_roundw
        case rel => exact ⟨k + 1, by go_num, hlt, Lib.hid (by rw [HP.out, HE.out, HF.out, Bool.true_and]), below_drewN xr _⟩
        case measure => simp [intOf]; omega
    · obtain rfl : k = a.parts.length := by omega
      have HX := Lib.hid (partsEq_end HL.out)
      go_wp2
      go_ret
      exact ⟨by rw [HR.out, HP.out, HX.out]; rfl, xb.trans (xr.mono xb.size)⟩

set_option maxRecDepth 100000 in
set_option maxHeartbeats 1600000 in
theorem equalParts_any (s t : Value) (a b : List PartR) (w : World) (hu : SlT PartR.cells 2 w s a) (hv : SlT PartR.cells 2 w t b) (la : (a.length : Int) ≤ 1048576) (lb : (b.length : Int) ≤ 1048576) :
    Calls Try.prog 141 #[s, t] w fun e w' => e = .returned (.bool (partsEq a b)) ∧ Below w.heap.size w w' := by
  obtain ⟨ao, cap, rfl, hlc, hcm, hsh⟩ := hu.shape
  obtain ⟨bo, cbp, rfl, hlc1, hcm1, hsh1⟩ := hv.shape
  by_cases hl : a.length = b.length
  rotate_left
  · have e3 : ((a.length : Int) != (b.length : Int)) = true := by rw [bne_iff_ne]; omega
    have HR := Lib.hid (partsEq_len hl)
    go_enter Try.func141, Try.ntmps141
    go_wp2
    go_ret
    exact ⟨by rw [HR.out]; rfl, Below.refl _ _⟩
  have e3 : ((a.length : Int) != (b.length : Int)) = false := by rw [hl]; simp
  have HL := Lib.hid hl
  have hle : a.length ≤ b.length := by omega
  clear hl
  go_enter Try.func141, Try.ntmps141
  go_wp2
  go_loopw [13] (fun i wr => ∃ k : Nat, i = .int .i64 k ∧ k ≤ a.length ∧ RowKit.Hid (partsEq a b = partsEq (a.drop k) (b.drop k)) ∧ RowKit.Below w.heap.size w wr) (fun i _ => a.length - (intOf i).toNat)
  case atStart => exact ⟨0, rfl, Nat.zero_le _, Lib.hid (by simp), Below.refl _ _⟩
  case round =>
    obtain ⟨k, rfl, hk, HP, xw⟩ := hrel
    by_cases hlt : k < a.length
    · have hltb : k < b.length := by omega
      have hltI : (k : Int) < (a.length : Int) := by omega
      have hltbI : (k : Int) < (b.length : Int) := by omega
      obtain ⟨b1, o1, rfl, hb1, hc⟩ := hsh (by omega)
      obtain ⟨b2, o2, rfl, hb2', hc'⟩ := hsh1 (by omega)
      have k0 : wr.cell? ⟨b1, o1 + k * 2, none⟩ = some (.string a[k].last) := (xw.cell (p := ⟨b1, o1 + k * 2, none⟩) hb1).trans (hc k hlt 0 _ rfl)
      have k1 : wr.cell? ⟨b1, o1 + k * 2 + 1, none⟩ = some (.string a[k].text) := (xw.cell (p := ⟨b1, o1 + k * 2 + 1, none⟩) hb1).trans (hc k hlt 1 _ rfl)
      have m0 : wr.cell? ⟨b2, o2 + k * 2, none⟩ = some (.string b[k].last) := (xw.cell (p := ⟨b2, o2 + k * 2, none⟩) hb2').trans (hc' k hltb 0 _ rfl)
      have m1 : wr.cell? ⟨b2, o2 + k * 2 + 1, none⟩ = some (.string b[k].text) := (xw.cell (p := ⟨b2, o2 + k * 2 + 1, none⟩) hb2').trans (hc' k hltb 1 _ rfl)
      have HE := Lib.hid (partsEq_drop hlt hltb)
      clear hc hc' hsh hsh1 hu hv
      rcases f1 : (a[k].last.toList == b[k].last.toList) with _ | _
      · have HF := Lib.hid (show partEq a[k] b[k] = false from by simp only [partEq, f1, Bool.false_and])
        have f1' : (a[k].last.toList != b[k].last.toList) = true := by simp [bne, f1]
        generalize a[k].last = p0 at *
        generalize a[k].text = p1 at *
        generalize b[k].last = q0 at *
        generalize b[k].text = q1 at *
        go_wp2_with fail
        go_quiet (fail)
        go_wp2
        go_ret
        exact ⟨by rw [HP.out, HE.out, HF.out]; rfl, below_drewN xw _⟩
      have f1' : (a[k].last.toList != b[k].last.toList) = false := by simp [bne, f1]
      rcases f2 : (a[k].text.toList == b[k].text.toList) with _ | _
      · have HF := Lib.hid (show partEq a[k] b[k] = false from by simp only [partEq, f1, f2, Bool.true_and])
        have f2' : (a[k].text.toList != b[k].text.toList) = true := by simp [bne, f2]
        generalize a[k].last = p0 at *
        generalize a[k].text = p1 at *
        generalize b[k].last = q0 at *
        generalize b[k].text = q1 at *
        go_wp2_with fail
        go_quiet (fail)
        go_wp2
        go_ret
        exact ⟨by rw [HP.out, HE.out, HF.out]; rfl, below_drewN xw _⟩
      · have HF := Lib.hid (show partEq a[k] b[k] = true from by simp only [partEq, f1, f2, Bool.true_and])
        have f2' : (a[k].text.toList != b[k].text.toList) = false := by simp [bne, f2]
        generalize a[k].last = p0 at *
        generalize a[k].text = p1 at *
        generalize b[k].last = q0 at *
        generalize b[k].text = q1 at *
        go_wp2_with fail
        go_quiet (fail)
        go_wp2
        go_roundw
        case rel => exact ⟨k + 1, by go_num, hlt, Lib.hid (by rw [HP.out, HE.out, HF.out, Bool.true_and]), below_drewN xw _⟩
        case measure => simp [intOf]; omega
    · obtain rfl : k = a.length := by omega
      have HX := Lib.hid (partsEq_end HL.out)
      go_wp2
      go_ret
      exact ⟨by rw [HP.out, HX.out]; rfl, xw⟩

set_option maxRecDepth 100000 in
set_option maxHeartbeats 1600000 in
theorem sameTable_any (s t : Value) (a b : TabR) (w : World) (ha : IsTable w s a) (hb : IsTable w t b) (la : (a.parts.length : Int) ≤ 1048576) (lb : (b.parts.length : Int) ≤ 1048576) :
    Calls Try.prog 71 #[s, t] w fun e w' => e = .returned (.bool (tabEq a b)) ∧ Below w.heap.size w w' := by
  obtain ⟨u, rfl, hu⟩ := ha
  obtain ⟨v, rfl, hv⟩ := hb
  obtain ⟨ao, cap, rfl, hlc, hcm, hsh⟩ := hu.shape
  obtain ⟨bo, cbp, rfl, hlc1, hcm1, hsh1⟩ := hv.shape
  have hb2 : ∀ o₁ o₂ : Obj, RowKit.Below w.heap.size w ((w.alloc o₁).alloc o₂) := fun o₁ o₂ => ((Below.refl _ _).alloc (Nat.le_refl _) _).alloc (by simp <;> omega) _
  rcases e1 : (a.bloom.toList == b.bloom.toList) with _ | _
  · have HR := Lib.hid (show tabEq a b = false from by simp only [tabEq, e1, Bool.false_and])
    go_enter Try.func71, Try.ntmps71
    go_wp2
    go_ret
    exact ⟨by rw [HR.out]; rfl, hb2 _ _⟩
  rcases e2 : (a.top == b.top) with _ | _
  · have HR := Lib.hid (show tabEq a b = false from by simp only [tabEq, e2, Bool.false_and, Bool.and_false])
    go_enter Try.func71, Try.ntmps71
    go_wp2
    go_ret
    exact ⟨by rw [HR.out]; rfl, hb2 _ _⟩
  have HR := Lib.hid (show tabEq a b = partsEq a.parts b.parts from by simp only [tabEq, e1, e2, Bool.true_and])
  clear hsh hsh1
  go_enter Try.func71, Try.ntmps71
  go_wp2_with (go_at_call 141; refine (equalParts_any _ _ a.parts b.parts _ (hu.below (hb2 _ _)) (hv.below (hb2 _ _)) la lb).mono ?_; rintro e w1 ⟨rfl, b1⟩)
  go_ret
  exact ⟨by rw [HR.out]; rfl, (hb2 _ _).trans (b1.mono (hb2 _ _).size)⟩
end Go.Proofs.Ytfbbdnicplbmdaa
/- Walks: ReadBlock of the reference. -/
set_option linter.unusedVariables false
set_option linter.unusedSimpArgs false
namespace Go.Proofs.Ytfbbdnicplbmdaa
open Go.RowKit Sp Go.Sort
theorem u8_one (x : UInt8) : ((x.toNat : Int) == 1) = (x == 1) := by
  rw [Bool.eq_iff_iff, beq_iff_eq, beq_iff_eq]
  constructor
  · intro h; exact UInt8.toNat_inj.1 (by show x.toNat = 1; omega)
  · rintro rfl; rfl

set_option maxRecDepth 100000 in
set_option maxHeartbeats 1600000 in
theorem specReadBlock (s : ByteArray) (L : List EntR) (b : Bool) (hC : BlkC s L b) (w : World) (hs : (s.size : Int) ≤ 1048576) :
    Calls Try.prog 74 #[.string s] w fun e w' => ∃ v', e = .returned (.tuple #[v', .bool b]) ∧ SlT EntR.cells 4 w' v' L ∧ Below w.heap.size w w' := by
  have h0 : (w.alloc (.cells #[] 30)).ownsRow w.heap.size 30 4 (.slice (some ⟨w.heap.size, 0, none⟩) 0 0) 0 [] := World.ownsRow_lit w #[] 0 (Nat.le_refl _) (by simp [maxLen]) rfl
  have x0 : Below w.heap.size w (w.alloc (.cells #[] 30)) := (Below.refl _ _).alloc (Nat.le_refl _) _
  have hnil : ∀ (W : World) (a : Addr), SlT EntR.cells 4 W (.slice (some a) 0 0) ([] : List EntR) := fun W a => ⟨some a, 0, rfl, Nat.le_refl _, by decide, fun h => absurd h (by simp)⟩
  by_cases h2 : s.size < 2
  · obtain rfl : b = false := by
      cases b
      · rfl
      · have := (hC.end_eq rfl).2; omega
    obtain rfl : L = [] := (hC.no rfl).1
    go_enter Try.func74, Try.ntmps74
    go_wp2
    refine bodyPost_ret (v := .tuple #[.slice (some ⟨w.heap.size, 0, none⟩) 0 0, .bool false]) (by simp [results, Try.results74, go_sem]) rfl ⟨_, rfl, hnil _ _, x0⟩
  · have HST := Lib.hid (KI.start s L b)
    have W1 : IntKind.i64.wrap ((s.size : Int) - 2) = (s.size : Int) - 2 := by rw [IntKind.wrap_i64]; omega
    have hee := endOf_le s
    obtain ⟨en, hen⟩ : ∃ en, en = endOf s := ⟨_, rfl⟩
    rw [← hen] at hee
    have HE := Lib.hid hen
    have hen2 : (readFixedL (s.extract (s.size - 2) s.size).data.toList 2).1 = en := hen.symm
    clear hen
    go_enter Try.func74, Try.ntmps74
    go_wp2_with fail
    refine (specReadFixed (s.extract (s.size - 2) s.size) 2 _).mono ?_
    rintro e wq ⟨rfl, rfl⟩
    rw [hen2]
    clear hen2
    generalize (readFixedL (s.extract (s.size - 2) s.size).data.toList 2).2 = okx at *
    go_wp2
    go_loopw [4, 7, 8] (fun o a lv wr => ∃ (k p : Nat) (l : List EntR) (last : ByteArray) (ao : Option Addr) (cp : Nat), o = .slice ao k cp ∧ a = .int .i64 p ∧ lv = .string last ∧ RowKit.Hid (KI s L b k l p false last) ∧ wr.ownsRow w.heap.size 30 4 o k (l.map EntR.cells).flatten ∧ Below w.heap.size w wr) (fun o _ _ _ => 16 - (match o with | .slice _ n _ => n | _ => 0))
    case atStart => exact ⟨0, 0, [], _, _, _, rfl, rfl, rfl, HST, h0, x0⟩
    case round =>
      clear HST h0 x0
      obtain ⟨k, p, l, last, ao, cp, rfl, rfl, rfl, HB, ho, xb⟩ := hrel
      have hp := HB.out.ps
      have hk6 := HB.out.six
      by_cases hgo : p < en
      · by_cases hen : (en : Int) ≤ (s.size : Int) - 2
        · by_cases hk16 : k < 16
          · rcases h1 : takeV s p with _ | ⟨n, p1⟩
            · obtain rfl : b = false := HB.out.s1 hC (HE.out ▸ hgo) h1
              obtain rfl : L = [] := (hC.no rfl).1
              have hv' : tkV s (p : Int) = none := by rw [tkV_nat]; exact h1
              clear h1 HB
              go_wp2_with fail
              refine (vars1_none s p _ hs hv').mono ?_
              rintro e w1 ⟨g, c, rfl, b1⟩
              have x1 := xb.trans (b1.mono xb.size)
              clear hv'
              go_wp2
              refine bodyPost_ret (v := .tuple #[.slice (some ⟨w1.heap.size, 0, none⟩) 0 0, .bool false]) (by simp [results, Try.results74, go_sem]) rfl ⟨_, rfl, hnil _ _, x1.alloc x1.size _⟩
            · have H1 := Lib.hid h1
              have hv' : tkV s (p : Int) = some (n, p1) := by rw [tkV_nat]; exact h1
              have hq1 := (takeV_some h1).2.2.2
              clear h1
              go_wp2_with fail
              refine (vars1_some s p n p1 _ hs hv').mono ?_
              rintro e w1 ⟨g, c, rfl, c1, g0, g1, b1⟩
              have x1 := xb.trans (b1.mono xb.size)
              have o1 := own_below ho b1
              have hp1 : ¬ (p1 : Int) < 0 := by omega
              clear hv' b1 ho g0
              by_cases hn : last.size < n
              · obtain rfl : b = false := HB.out.over hC (HE.out ▸ hgo) (rdNum_some H1.out) hn
                obtain rfl : L = [] := (hC.no rfl).1
                clear HB
                go_wp2
                refine bodyPost_ret (v := .tuple #[.slice (some ⟨w1.heap.size, 0, none⟩) 0 0, .bool false]) (by simp [results, Try.results74, go_sem]) rfl ⟨_, rfl, hnil _ _, x1.alloc x1.size _⟩
              · go_wp2_with fail
                refine (take_any s (p1 : Int) _ hs).mono ?_
                rintro e w2 ⟨rfl, b2⟩
                have x2 := x1.trans (b2.mono x1.size)
                have o2 := own_below o1 b2
                have c2 := (b2.cell (p := ⟨g, 0, none⟩) g1).trans c1
                have g2 := Nat.lt_of_lt_of_le g1 b2.size
                have T2 := tkP_bd s (p1 : Int)
                clear c1 o1 b2 g1
                rcases h2 : tkP s (p1 : Int) with ⟨ky, e2⟩
                rw [h2] at T2
                have H2 := Lib.hid h2
                clear h2
                simp only at T2 ⊢
                rcases h3 : tkV s e2 with _ | ⟨q, p3⟩
                · obtain rfl : b = false := HB.out.s2 hC (HE.out ▸ hgo) H1.out H2.out h3
                  obtain rfl : L = [] := (hC.no rfl).1
                  clear HB
                  go_wp2_with fail
                  refine (vars1_none s e2 _ hs h3).mono ?_
                  rintro e w3 ⟨g', c', rfl, b3⟩
                  have x3 := x2.trans (b3.mono x2.size)
                  clear h3
                  go_wp2
                  refine bodyPost_ret (v := .tuple #[.slice (some ⟨w3.heap.size, 0, none⟩) 0 0, .bool false]) (by simp [results, Try.results74, go_sem]) rfl ⟨_, rfl, hnil _ _, x3.alloc x3.size _⟩
                · have H3 := Lib.hid h3
                  have hp3 : p3 ≤ s.size ∧ q ≤ 562949953421311 := by
                    obtain ⟨pp, _, hh⟩ := tkV_some h3
                    have := takeV_some hh
                    exact ⟨this.2.2.2, this.2.1⟩
                  go_wp2_with fail
                  refine (vars1_some s e2 q p3 _ hs h3).mono ?_
                  rintro e w3 ⟨g', c', rfl, d4, _, gd, b3⟩
                  have x4 := x2.trans (b3.mono x2.size)
                  have o4 := own_below o2 b3
                  have c4 := (b3.cell (p := ⟨g, 0, none⟩) g2).trans c2
                  have g4 := Nat.lt_of_lt_of_le g2 b3.size
                  have hp30 : ¬ (p3 : Int) < 0 := by omega
                  clear h3 c2 o2 b3 g2
                  by_cases h4 : p3 < s.size
                  · have W3 : IntKind.i64.wrap ((p3 : Int) + 1) = (p3 : Int) + 1 := by rw [IntKind.wrap_i64]; omega
                    have hu := u8_one s[p3]
                    rcases hd : (s[p3] == 1) with _ | _
                    · have HD := Lib.hid hd
                      rw [hd] at hu
                      clear hd
                      go_wp2_with fail
                      refine (take_any s ((p3 : Int) + 1) _ hs).mono ?_
                      rintro e w5 ⟨rfl, b5⟩
                      have x5 := x4.trans (b5.mono x4.size)
                      have o5 := own_below o4 b5
                      have c5 := (b5.cell (p := ⟨g, 0, none⟩) g4).trans c4
                      have d5 := (b5.cell (p := ⟨g', 0, none⟩) gd).trans d4
                      have T5 := tkP_bd s ((p3 : Int) + 1)
                      clear c4 d4 o4 b5
                      rcases h5 : tkP s ((p3 : Int) + 1) with ⟨vl, e5⟩
                      rw [h5] at T5
                      have H5 := Lib.hid h5
                      clear h5
                      simp only at T5 ⊢
                      by_cases he5 : e5 < 0
                      · obtain rfl : b = false := HB.out.s5 hC (HE.out ▸ hgo) H1.out H2.out H3.out H5.out he5
                        obtain rfl : L = [] := (hC.no rfl).1
                        clear HB
                        go_wp2
                        refine bodyPost_ret (v := .tuple #[.slice (some ⟨w5.heap.size, 0, none⟩) 0 0, .bool false]) (by simp [results, Try.results74, go_sem]) rfl ⟨_, rfl, hnil _ _, x5.alloc x5.size _⟩
                      · obtain ⟨p5, rfl⟩ : ∃ p5 : Nat, e5 = (p5 : Int) := ⟨e5.toNat, by omega⟩
                        have HN := Lib.hid (HB.out.sstep hC hs (HE.out ▸ hgo) hk16 H1.out H2.out H3.out h4 H5.out)
                        rw [HD.out] at HN
                        have hls := HB.out.ls
                        clear HB
                        have i1 : (n : Int) ≤ last.size := by omega
                        have i2 : ¬ 9223372036854775807 < ((last.extract 0 n).size : Int) + (ky.size : Int) := by rw [ByteArray.size_extract]; omega
                        have i3 : ¬ 9223372036854775807 < (last.extract 0 n).size + ky.size := by rw [ByteArray.size_extract]; omega
                        go_wp2_with (at_builtin; go_loud (refine app_new rfl rfl Try.underlying33 info_Ent rfl (by decide) o5 rfl 1 (by simp [Act.eval]) rfl (by simp [Value.oneCell']) (by omega) x5 (Nat.le_refl _) x5.size ?_; intro v8 w8 r8 x8 g8))
                        obtain ⟨gg, cap, rfl⟩ := own_sl r8 (by omega)
                        go_roundw
                        case rel => exact ⟨k + 1, p5, _, _, _, _, rfl, rfl, rfl, HN, by simpa [EntR.cells] using r8, x8⟩
                        case measure => simp [intOf]; omega
                    · have HD := Lib.hid hd
                      rw [hd] at hu
                      clear hd
                      go_wp2_with fail
                      refine (take_any s ((p3 : Int) + 1) _ hs).mono ?_
                      rintro e w5 ⟨rfl, b5⟩
                      have x5 := x4.trans (b5.mono x4.size)
                      have o5 := own_below o4 b5
                      have c5 := (b5.cell (p := ⟨g, 0, none⟩) g4).trans c4
                      have d5 := (b5.cell (p := ⟨g', 0, none⟩) gd).trans d4
                      have T5 := tkP_bd s ((p3 : Int) + 1)
                      clear c4 d4 o4 b5
                      rcases h5 : tkP s ((p3 : Int) + 1) with ⟨vl, e5⟩
                      rw [h5] at T5
                      have H5 := Lib.hid h5
                      clear h5
                      simp only at T5 ⊢
                      by_cases he5 : e5 < 0
                      · obtain rfl : b = false := HB.out.s5 hC (HE.out ▸ hgo) H1.out H2.out H3.out H5.out he5
                        obtain rfl : L = [] := (hC.no rfl).1
                        clear HB
                        go_wp2
                        refine bodyPost_ret (v := .tuple #[.slice (some ⟨w5.heap.size, 0, none⟩) 0 0, .bool false]) (by simp [results, Try.results74, go_sem]) rfl ⟨_, rfl, hnil _ _, x5.alloc x5.size _⟩
                      · obtain ⟨p5, rfl⟩ : ∃ p5 : Nat, e5 = (p5 : Int) := ⟨e5.toNat, by omega⟩
                        have HN := Lib.hid (HB.out.sstep hC hs (HE.out ▸ hgo) hk16 H1.out H2.out H3.out h4 H5.out)
                        rw [HD.out] at HN
                        have hls := HB.out.ls
                        clear HB
                        have i1 : (n : Int) ≤ last.size := by omega
                        have i2 : ¬ 9223372036854775807 < ((last.extract 0 n).size : Int) + (ky.size : Int) := by rw [ByteArray.size_extract]; omega
                        have i3 : ¬ 9223372036854775807 < (last.extract 0 n).size + ky.size := by rw [ByteArray.size_extract]; omega
                        go_wp2_with (at_builtin; go_loud (refine app_new rfl rfl Try.underlying33 info_Ent rfl (by decide) o5 rfl 1 (by simp [Act.eval]) rfl (by simp [Value.oneCell']) (by omega) x5 (Nat.le_refl _) x5.size ?_; intro v8 w8 r8 x8 g8))
                        obtain ⟨gg, cap, rfl⟩ := own_sl r8 (by omega)
                        go_roundw
                        case rel => exact ⟨k + 1, p5, _, _, _, _, rfl, rfl, rfl, HN, by simpa [EntR.cells] using r8, x8⟩
                        case measure => simp [intOf]; omega
                  · obtain rfl : b = false := HB.out.s3 hC (HE.out ▸ hgo) H1.out H2.out H3.out h4
                    obtain rfl : L = [] := (hC.no rfl).1
                    clear HB
                    go_wp2
                    refine bodyPost_ret (v := .tuple #[.slice (some ⟨w3.heap.size, 0, none⟩) 0 0, .bool false]) (by simp [results, Try.results74, go_sem]) rfl ⟨_, rfl, hnil _ _, x4.alloc x4.size _⟩
          · have HF := Lib.hid (HB.out.fin hC (by omega) (fun _ => .inr (.inr hk16)))
            have HL := Lib.hid HB.out.len
            obtain rfl : k = l.length := HL.out.symm
            clear HB
            have hs2 : SlT EntR.cells 4 wr (.slice ao l.length cp) l := SlT.of_own ho (fun _ => rfl) (by decide)
            have hl6 : (l.length : Int) ≤ 1048576 := by omega
            by_cases h0 : l.length = 0
            · exact absurd h0 (by omega)
            · have hlen0 : decide (l.length ≠ 0) = true := by simpa using h0
              have HF2 := Lib.hid (show b = (showBlkL l == s.data.toList) ∧ (b = true → L = l) from ⟨by rw [HF.out.1, hlen0, Bool.not_false, Bool.true_and, Bool.true_and], HF.out.2⟩)
              have hcmp : ((str (showBlkL l)).toList == s.toList) = (showBlkL l == s.data.toList) := by rw [str_toList, toList_data]
              clear HF hlen0
              go_wp2_with fail
              refine (specShowBlock _ l _ hs2 hl6).mono ?_
              rintro e w2 ⟨rfl, b2⟩
              have x2 := xb.trans (b2.mono xb.size)
              have hs3 := hs2.below b2
              clear hs2 b2
              rcases hq : (showBlkL l == s.data.toList) with _ | _
              · obtain rfl : b = false := by rw [HF2.out.1, hq]
                obtain rfl : L = [] := (hC.no rfl).1
                rw [hq] at hcmp
                clear hq
                go_wp2
                refine bodyPost_ret (v := .tuple #[.slice (some ⟨w2.heap.size, 0, none⟩) 0 0, .bool false]) (by simp [results, Try.results74, go_sem]) rfl ⟨_, rfl, hnil _ _, x2.alloc x2.size _⟩
              · obtain rfl : b = true := by rw [HF2.out.1, hq]
                have HLL := Lib.hid (HF2.out.2 rfl)
                rw [hq] at hcmp
                clear hq
                go_wp2
                refine bodyPost_ret (v := .tuple #[.slice ao l.length cp, .bool true]) (by simp [results, Try.results74, go_sem]) rfl ⟨_, rfl, ?_, x2⟩
                rw [HLL.out]
                exact hs3
        · have HF := Lib.hid (HB.out.fin hC (by omega) (fun hb => by exfalso; have := (hC.end_eq hb).2; have := HE.out; omega))
          have HL := Lib.hid HB.out.len
          obtain rfl : k = l.length := HL.out.symm
          clear HB
          have hs2 : SlT EntR.cells 4 wr (.slice ao l.length cp) l := SlT.of_own ho (fun _ => rfl) (by decide)
          have hl6 : (l.length : Int) ≤ 1048576 := by omega
          by_cases h0 : l.length = 0
          · obtain rfl : l = [] := List.eq_nil_of_length_eq_zero h0
            obtain rfl : b = false := by rw [HF.out.1]; rfl
            obtain rfl : L = [] := (hC.no rfl).1
            clear h0
            go_wp2
            refine bodyPost_ret (v := .tuple #[.slice (some ⟨wr.heap.size, 0, none⟩) 0 0, .bool false]) (by simp [results, Try.results74, go_sem]) rfl ⟨_, rfl, hnil _ _, xb.alloc xb.size _⟩
          · have hlen0 : decide (l.length ≠ 0) = true := by simpa using h0
            have HF2 := Lib.hid (show b = (showBlkL l == s.data.toList) ∧ (b = true → L = l) from ⟨by rw [HF.out.1, hlen0, Bool.not_false, Bool.true_and, Bool.true_and], HF.out.2⟩)
            have hcmp : ((str (showBlkL l)).toList == s.toList) = (showBlkL l == s.data.toList) := by rw [str_toList, toList_data]
            clear HF hlen0
            go_wp2_with fail
            refine (specShowBlock _ l _ hs2 hl6).mono ?_
            rintro e w2 ⟨rfl, b2⟩
            have x2 := xb.trans (b2.mono xb.size)
            have hs3 := hs2.below b2
            clear hs2 b2
            rcases hq : (showBlkL l == s.data.toList) with _ | _
            · obtain rfl : b = false := by rw [HF2.out.1, hq]
              obtain rfl : L = [] := (hC.no rfl).1
              rw [hq] at hcmp
              clear hq
              go_wp2
              refine bodyPost_ret (v := .tuple #[.slice (some ⟨w2.heap.size, 0, none⟩) 0 0, .bool false]) (by simp [results, Try.results74, go_sem]) rfl ⟨_, rfl, hnil _ _, x2.alloc x2.size _⟩
            · obtain rfl : b = true := by rw [HF2.out.1, hq]
              have HLL := Lib.hid (HF2.out.2 rfl)
              rw [hq] at hcmp
              clear hq
              go_wp2
              refine bodyPost_ret (v := .tuple #[.slice ao l.length cp, .bool true]) (by simp [results, Try.results74, go_sem]) rfl ⟨_, rfl, ?_, x2⟩
              rw [HLL.out]
              exact hs3
      · have HF := Lib.hid (HB.out.fin hC (by omega) (fun _ => .inr (.inl (HE.out ▸ hgo))))
        have HL := Lib.hid HB.out.len
        obtain rfl : k = l.length := HL.out.symm
        clear HB
        have hs2 : SlT EntR.cells 4 wr (.slice ao l.length cp) l := SlT.of_own ho (fun _ => rfl) (by decide)
        have hl6 : (l.length : Int) ≤ 1048576 := by omega
        by_cases h0 : l.length = 0
        · obtain rfl : l = [] := List.eq_nil_of_length_eq_zero h0
          obtain rfl : b = false := by rw [HF.out.1]; rfl
          obtain rfl : L = [] := (hC.no rfl).1
          clear h0
          go_wp2
          refine bodyPost_ret (v := .tuple #[.slice (some ⟨wr.heap.size, 0, none⟩) 0 0, .bool false]) (by simp [results, Try.results74, go_sem]) rfl ⟨_, rfl, hnil _ _, xb.alloc xb.size _⟩
        · have hlen0 : decide (l.length ≠ 0) = true := by simpa using h0
          have HF2 := Lib.hid (show b = (showBlkL l == s.data.toList) ∧ (b = true → L = l) from ⟨by rw [HF.out.1, hlen0, Bool.not_false, Bool.true_and, Bool.true_and], HF.out.2⟩)
          have hcmp : ((str (showBlkL l)).toList == s.toList) = (showBlkL l == s.data.toList) := by rw [str_toList, toList_data]
          clear HF hlen0
          go_wp2_with fail
          refine (specShowBlock _ l _ hs2 hl6).mono ?_
          rintro e w2 ⟨rfl, b2⟩
          have x2 := xb.trans (b2.mono xb.size)
          have hs3 := hs2.below b2
          clear hs2 b2
          rcases hq : (showBlkL l == s.data.toList) with _ | _
          · obtain rfl : b = false := by rw [HF2.out.1, hq]
            obtain rfl : L = [] := (hC.no rfl).1
            rw [hq] at hcmp
            clear hq
            go_wp2
            refine bodyPost_ret (v := .tuple #[.slice (some ⟨w2.heap.size, 0, none⟩) 0 0, .bool false]) (by simp [results, Try.results74, go_sem]) rfl ⟨_, rfl, hnil _ _, x2.alloc x2.size _⟩
          · obtain rfl : b = true := by rw [HF2.out.1, hq]
            have HLL := Lib.hid (HF2.out.2 rfl)
            rw [hq] at hcmp
            clear hq
            go_wp2
            refine bodyPost_ret (v := .tuple #[.slice ao l.length cp, .bool true]) (by simp [results, Try.results74, go_sem]) rfl ⟨_, rfl, ?_, x2⟩
            rw [HLL.out]
            exact hs3
end Go.Proofs.Ytfbbdnicplbmdaa
/- Walks: ReadBlock of the program. -/
set_option linter.unusedVariables false
set_option linter.unusedSimpArgs false
namespace Go.Proofs.Ytfbbdnicplbmdaa
open Go.RowKit Sp Go.Sort

set_option maxRecDepth 100000 in
set_option maxHeartbeats 1600000 in
theorem implReadBlock (s : ByteArray) (L : List EntR) (b : Bool) (hC : BlkC s L b) (w : World) (hs : (s.size : Int) ≤ 1048576) :
    Calls Try.prog 69 #[.string s] w fun e w' => ∃ v', e = .returned (.tuple #[v', .bool b]) ∧ Row EntR.cells 30 4 w.heap.size w'.heap.size w' v' L ∧ Below w.heap.size w w' := by
  by_cases h2 : s.size < 2
  · obtain rfl : b = false := by
      cases b
      · rfl
      · have := (hC.end_eq rfl).2; omega
    obtain rfl : L = [] := (hC.no rfl).1
    go_enter Try.func69, Try.ntmps69
    go_wp2
    refine bodyPost_ret (v := .tuple #[.slice none 0 0, .bool false]) (by simp [results, Try.results69, go_sem]) rfl ⟨_, rfl, Row.nil _ _ _, Below.refl _ _⟩
  · have r0 : Rd (w.alloc (.cells #[.string s, .int .i64 0, .bool false] 114)) w.heap.size s 0 false := ⟨114, heap_alloc_new w _⟩
    have b0 : Below w.heap.size w (w.alloc (.cells #[.string s, .int .i64 0, .bool false] 114)) := (Below.refl _ _).alloc (Nat.le_refl _) _
    have HST := Lib.hid (KI.start s L b)
    have W1 : IntKind.i64.wrap ((s.size : Int) - 2) = (s.size : Int) - 2 := by rw [IntKind.wrap_i64]; omega
    have hee := endOf_le s
    obtain ⟨en, hen⟩ : ∃ en, en = endOf s := ⟨_, rfl⟩
    rw [← hen] at hee
    have HE := Lib.hid hen
    have hen2 : (readFixedL (s.extract (s.size - 2) s.size).data.toList 2).1 = en := hen.symm
    clear hen
    go_enter Try.func69, Try.ntmps69
    go_wp2_with fail
    refine (implReadFixed (s.extract (s.size - 2) s.size) 2 _).mono ?_
    rintro e wq ⟨rfl, rfl⟩
    rw [hen2]
    clear hen2
    generalize (readFixedL (s.extract (s.size - 2) s.size).data.toList 2).2 = okx at *
    go_wp2_with fail
    go_loopw [7, 8] (fun o lv wr => ∃ (k p : Nat) (l : List EntR) (bad : Bool) (last : ByteArray) (ao : Option Addr) (cp : Nat), o = .slice ao k cp ∧ lv = .string last ∧ RowKit.Hid (KI s L b k l p bad last) ∧ Rd wr w.heap.size s p bad ∧ wr.ownsRow (w.heap.size + 1) 30 4 o k (l.map EntR.cells).flatten ∧ Below w.heap.size w wr) (fun o _ _ => 16 - (match o with | .slice _ n _ => n | _ => 0))
    case atStart => exact ⟨0, 0, [], false, _, none, 0, rfl, rfl, HST, r0, World.ownsRow_nil _ _ _ _, b0⟩
    case round =>
      clear HST r0 b0
      obtain ⟨k, p, l, bad, last, ao, cp, rfl, rfl, HB, hr, ho, xb⟩ := hrel
      obtain ⟨c0, c1, c2, zf⟩ := hr.facts
      have hp := HB.out.ps
      have h16' := HB.out.six
      have zr := hr.lt
      by_cases hgo : p < en ∧ bad = false ∧ k < 16
      · obtain ⟨hpe, rfl, h16⟩ := hgo
        have hls := HB.out.ls
        go_wp2_with fail
        refine (number_any w.heap.size p s false _ hr hp hs).mono ?_
        rintro e w1 ⟨rfl, r1, t1⟩
        have x1 := below_touch xb t1 (Nat.le_refl _) xb.size
        have o1 := own_grown ho t1 (fun k hk e => by have := (ho.lt _ hk).1; have := Option.some.inj e; omega)
        have d1 := rdNum_bdI s p false hp
        clear hr t1 ho c0 c1 c2 zf
        rcases h1 : rdNum s p false with ⟨n, p1, b1⟩
        rw [h1] at r1 d1
        have H1 := Lib.hid h1
        clear h1
        simp only at r1 d1 ⊢
        by_cases hn : last.size < n
        · obtain rfl : b = false := HB.out.over hC (HE.out ▸ hpe) H1.out hn
          obtain rfl : L = [] := (hC.no rfl).1
          clear HB
          go_wp2
          refine bodyPost_ret (v := .tuple #[.slice none 0 0, .bool false]) (by simp [results, Try.results69, go_sem]) rfl ⟨_, rfl, Row.nil _ _ _, x1⟩
        · have i1 : (n : Int) ≤ last.size := by omega
          have d2 := rdShort_bd s p1 b1 d1.1
          rcases h2 : rdShort s p1 b1 with ⟨ky, p2, b2⟩
          have R2 := short_rd w.heap.size p1 s b1
          rw [h2] at d2 R2
          have H2 := Lib.hid h2
          clear h2
          simp only at d2 R2
          have i2 : ¬ 9223372036854775807 < min n last.size + ky.size := by omega
          have hR2 := Lib.hid R2
          clear R2
          go_upto_region 11 with fail
          go_cut [10] (fun s10 wx => ∃ bo, s10 = .pointer (some ⟨bo, 0, none⟩) ∧ w1.heap.size ≤ bo ∧ Bx wx bo #[.string (last.extract 0 n ++ ky), .int .i64 0, .bool false, .string ByteArray.empty] ∧ Rd wx w.heap.size s p2 b2 ∧ wx.ownsRow (w.heap.size + 1) 30 4 (.slice ao k cp) k (l.map EntR.cells).flatten ∧ Below w.heap.size w wx)
          case first =>
            have rA : Rd w1.drew w.heap.size s p1 b1 := r1
            have rZ0 : Rd (w1.alloc (.cells #[.string ⟨#[]⟩, .int .i64 0, .bool false, .string ⟨#[]⟩] 30)) w.heap.size s p1 b1 := r1.below ((Below.refl w1.heap.size w1).alloc (Nat.le_refl _) _)
            have rZ : Rd (w1.alloc (.cells #[.string ⟨#[]⟩, .int .i64 0, .bool false, .string ⟨#[]⟩] 30)).drew w.heap.size s p1 b1 := rZ0
            have BZ : Bx (w1.alloc (.cells #[.string ⟨#[]⟩, .int .i64 0, .bool false, .string ⟨#[]⟩] 30)).drew w1.heap.size #[.string ⟨#[]⟩, .int .i64 0, .bool false, .string ⟨#[]⟩] := Bx.new w1 _ _
            have oZ : (w1.alloc (.cells #[.string ⟨#[]⟩, .int .i64 0, .bool false, .string ⟨#[]⟩] 30)).drew.ownsRow (w.heap.size + 1) 30 4 (.slice ao k cp) k (l.map EntR.cells).flatten := (o1.alloc _).drew
            have xZ : Below w.heap.size w (w1.alloc (.cells #[.string ⟨#[]⟩, .int .i64 0, .bool false, .string ⟨#[]⟩] 30)).drew := (x1.alloc x1.size _).drew
            have xA : Below w.heap.size w w1.drew := x1.drew
            have oA : w1.drew.ownsRow (w.heap.size + 1) 30 4 (.slice ao k cp) k (l.map EntR.cells).flatten := o1.drew
            have z1 := r1.lt
            have hb9 : (Value.slice ao k cp).ownBlock ≠ some w1.heap.size := fun e => by have := (o1.lt _ e).2; omega
            go_region_law (go_simp; go_at_call 81; first | (refine (hR2.out _ rA d1.1 hs).mono ?_; rintro e w2 ⟨rfl, r2, t2⟩; have o2 := own_grown oA t2 (fun k hk e => by have := (oA.lt _ hk).1; have := Option.some.inj e; omega); have x2 := below_touch xA t2 (Nat.le_refl _) xA.size; have zz2 : w1.heap.size ≤ w2.heap.size := t2.size) | (refine (hR2.out _ rZ d1.1 hs).mono ?_; rintro e w2 ⟨rfl, r2, t2⟩; have B2 := BZ.grown t2 (by intro e; have := Option.some.inj e; omega); have y0 := B2.cell 0 _ rfl; have y1 := B2.cell 1 _ rfl; have y2 := B2.cell 2 _ rfl; have y3 := B2.cell 3 _ rfl; have yf := B2.frozen; have o2 := own_grown oZ t2 (fun k hk e => by have := (oZ.lt _ hk).1; have := Option.some.inj e; omega); have x2 := below_touch xZ t2 (Nat.le_refl _) xZ.size))
            all_goals
              go_wp2_with fail
              go_meet
              first
                | exact ⟨w2.heap.size, rfl, zz2, Bx.new w2 _ _, r2.below ((Below.refl w2.heap.size w2).alloc (Nat.le_refl _) _), o2.alloc _, x2.alloc x2.size _⟩
                | exact ⟨w1.heap.size, rfl, Nat.le_refl _, ((((B2.set 0 _).set 1 _).set 2 _).set 3 _), Rd.of ((((r2.bx.far _ _ (by simp; omega)).far _ _ (by simp; omega)).far _ _ (by simp; omega)).far _ _ (by simp; omega)), own_far (own_far (own_far (own_far o2 _ _ hb9) _ _ hb9) _ _ hb9) _ _ hb9, below_set (below_set (below_set (below_set x2 _ _ (by simp; omega)) _ _ (by simp; omega)) _ _ (by simp; omega)) _ _ (by simp; omega)⟩
          case rest =>
            obtain ⟨bo, rfl, hbo, B3, r3, o3, x3⟩ := hcut
            have z1 := r1.lt
            have hne : ∀ k', (Value.slice ao k cp).ownBlock = some k' → k' ≠ bo := fun k' hk' => by
              have := (o1.lt _ hk').2; omega
            clear r1 o1 x1 hR2
            go_wp2_with fail
            refine (number_any w.heap.size _ s _ _ r3 d2.1 hs).mono ?_
            rintro e w4 ⟨rfl, r4, t4⟩
            have x4 := below_touch x3 t4 (Nat.le_refl _) x3.size
            have B4 := B3.grown t4 (by intro e; have := Option.some.inj e; omega)
            have o4 := own_grown o3 t4 (fun k hk e => by have := (o3.lt _ hk).1; have := Option.some.inj e; omega)
            clear B3 r3 o3 x3 t4
            rcases h4 : rdNum s p2 b2 with ⟨q, p4, b4⟩
            have d4 := rdNum_bdI s p2 b2 d2.1
            rw [h4] at r4 d4
            have H4 := Lib.hid h4
            clear h4
            simp only at r4 d4 ⊢
            have rr4 : Rd (w4.setCell ⟨bo, 1, none⟩ (.int .i64 q)) w.heap.size s p4 b4 := Rd.of (r4.bx.far ⟨bo, 1, none⟩ _ (by simp; omega))
            have BB4 : Bx (w4.setCell ⟨bo, 1, none⟩ (.int .i64 q)) bo #[.string (last.extract 0 n ++ ky), .int .i64 q, .bool false, .string ByteArray.empty] := B4.set 1 _
            have xx4 := below_set x4 ⟨bo, 1, none⟩ (.int .i64 q) (by simp; omega)
            have oo4 := own_far o4 ⟨bo, 1, none⟩ (.int .i64 q) (fun e => hne _ e rfl)
            have y4 := B4.cell 1 _ rfl
            have yf4 := B4.frozen
            go_wp2_with fail
            refine (flag_rd w.heap.size _ s _ _ rr4 d4.1 hs).mono ?_
            rintro e w5 ⟨rfl, r5, t5⟩
            have x5 := below_touch xx4 t5 (Nat.le_refl _) xx4.size
            have B5 := BB4.grown t5 (by intro e; have := Option.some.inj e; omega)
            have o5 := own_grown oo4 t5 (fun k hk e => by have := (oo4.lt _ hk).1; have := Option.some.inj e; omega)
            clear BB4 rr4 oo4 xx4 t5
            rcases h5 : rdFlag s p4 b4 with ⟨dl, p5, b5⟩
            have d5 := rdFlag_bd s p4 b4 d4.1
            rw [h5] at r5 d5
            have H5 := Lib.hid h5
            clear h5
            simp only at r5 d5 ⊢
            have rr5 : Rd (w5.setCell ⟨bo, 2, none⟩ (.bool dl)) w.heap.size s p5 b5 := Rd.of (r5.bx.far ⟨bo, 2, none⟩ _ (by simp; omega))
            have BB5 : Bx (w5.setCell ⟨bo, 2, none⟩ (.bool dl)) bo #[.string (last.extract 0 n ++ ky), .int .i64 q, .bool dl, .string ByteArray.empty] := B5.set 2 _
            have xx5 := below_set x5 ⟨bo, 2, none⟩ (.bool dl) (by simp; omega)
            have oo5 := own_far o5 ⟨bo, 2, none⟩ (.bool dl) (fun e => hne _ e rfl)
            have y5 := B5.cell 2 _ rfl
            have yf5 := B5.frozen
            go_wp2_with fail
            refine (short_rd w.heap.size _ s _ _ rr5 d5 hs).mono ?_
            rintro e w6 ⟨rfl, r6, t6⟩
            have x6 := below_touch xx5 t6 (Nat.le_refl _) xx5.size
            have B6 := BB5.grown t6 (by intro e; have := Option.some.inj e; omega)
            have o6 := own_grown oo5 t6 (fun k hk e => by have := (oo5.lt _ hk).1; have := Option.some.inj e; omega)
            clear BB5 rr5 oo5 xx5 t6
            rcases h6 : rdShort s p5 b5 with ⟨vl, p6, b6⟩
            have d6 := rdShort_bd s p5 b5 d5
            rw [h6] at r6 d6
            have H6 := Lib.hid h6
            clear h6
            simp only at r6 d6 ⊢
            have rr6 : Rd (w6.setCell ⟨bo, 3, none⟩ (.string vl)) w.heap.size s p6 b6 := Rd.of (r6.bx.far ⟨bo, 3, none⟩ _ (by simp; omega))
            have BB6 : Bx (w6.setCell ⟨bo, 3, none⟩ (.string vl)) bo #[.string (last.extract 0 n ++ ky), .int .i64 q, .bool dl, .string vl] := B6.set 3 _
            have xx6 := below_set x6 ⟨bo, 3, none⟩ (.string vl) (by simp; omega)
            have oo6 := own_far o6 ⟨bo, 3, none⟩ (.string vl) (fun e => hne _ e rfl)
            have y6 := B6.cell 3 _ rfl
            have yf6 := B6.frozen
            have HN := Lib.hid (HB.out.step hC hs (HE.out ▸ hpe) h16 H1.out H2.out H4.out H5.out H6.out)
            have q0 := BB6.cell 0 _ rfl
            have q1 := BB6.cell 1 _ rfl
            have q2 := BB6.cell 2 _ rfl
            have q3 := BB6.cell 3 _ rfl
            clear HB
            go_wp2_with (at_builtin; go_loud (refine app_new rfl rfl Try.underlying33 info_Ent rfl (by decide) oo6 rfl 1 (by simp [Act.eval]) rfl (by simp [Value.oneCell']) (by omega) xx6 (Nat.le_succ _) (by have := rr6.lt; omega) ?_; intro v8 w8 r8 x8 g8))
            have R8 := Rd.of (rr6.bx.grown g8 (by intro e; have := (oo6.lt _ e).1; omega))
            obtain ⟨gg, cap, rfl⟩ := own_sl r8 (by omega)
            go_roundw
            case rel => exact ⟨k + 1, _, _, _, _, _, _, rfl, rfl, HN, R8, by simpa [EntR.cells] using r8, x8⟩
            case measure => simp [intOf]; omega
      · have HF := Lib.hid (HB.out.fin hC (by omega) (fun _ => by
          have := HE.out
          cases bad
          · right
            by_cases h1 : p < en
            · right; exact fun h => hgo ⟨h1, rfl, h⟩
            · left; omega
          · exact .inl rfl))
        have HL := Lib.hid HB.out.len
        obtain rfl : k = l.length := HL.out.symm
        clear HB
        have hs2 : SlT EntR.cells 4 wr (.slice ao l.length cp) l := SlT.of_own ho (fun _ => rfl) (by decide)
        have hl6 : (l.length : Int) ≤ 1048576 := by omega
        cases bad
        · have hx : ¬ p < en ∨ (p < en ∧ ¬ l.length < 16) := by
            by_cases h1 : p < en
            · exact .inr ⟨h1, fun h => hgo ⟨h1, rfl, h⟩⟩
            · exact .inl h1
          clear hgo
          rcases hx with hx | ⟨hx, hx2⟩
          · by_cases h0 : l.length = 0
            · obtain rfl : l = [] := List.eq_nil_of_length_eq_zero h0
              obtain rfl : b = false := by rw [HF.out.1]; rfl
              obtain rfl : L = [] := (hC.no rfl).1
              clear h0
              go_wp2
              refine bodyPost_ret (v := .tuple #[.slice none 0 0, .bool false]) (by simp [results, Try.results69, go_sem]) rfl ⟨_, rfl, Row.nil _ _ _, xb⟩
            · have hlen0 : decide (l.length ≠ 0) = true := by simpa using h0
              have HF2 := Lib.hid (show b = (showBlkL l == s.data.toList) ∧ (b = true → L = l) from ⟨by rw [HF.out.1, hlen0, Bool.not_false, Bool.true_and, Bool.true_and], HF.out.2⟩)
              have hcmp : ((str (showBlkL l)).toList == s.toList) = (showBlkL l == s.data.toList) := by rw [str_toList, toList_data]
              clear HF hlen0
              go_wp2_with fail
              refine (implShowBlock _ l _ hs2 hl6).mono ?_
              rintro e w2 ⟨rfl, b2⟩
              have x2 := xb.trans (b2.mono xb.size)
              have o2 := own_below ho b2
              clear hs2 b2 ho hr
              rcases hq : (showBlkL l == s.data.toList) with _ | _
              · obtain rfl : b = false := by rw [HF2.out.1, hq]
                obtain rfl : L = [] := (hC.no rfl).1
                rw [hq] at hcmp
                clear hq
                go_wp2
                refine bodyPost_ret (v := .tuple #[.slice none 0 0, .bool false]) (by simp [results, Try.results69, go_sem]) rfl ⟨_, rfl, Row.nil _ _ _, x2⟩
              · obtain rfl : b = true := by rw [HF2.out.1, hq]
                have HLL := Lib.hid (HF2.out.2 rfl)
                rw [hq] at hcmp
                clear hq
                go_wp2
                refine bodyPost_ret (v := .tuple #[.slice ao l.length cp, .bool true]) (by simp [results, Try.results69, go_sem]) rfl ⟨_, rfl, ?_, x2⟩
                rw [HLL.out]
                exact Row.up o2 rfl (Nat.le_succ _)
          · have h0 : ¬ l.length = 0 := by omega
            have hlen0 : decide (l.length ≠ 0) = true := by simpa using h0
            have HF2 := Lib.hid (show b = (showBlkL l == s.data.toList) ∧ (b = true → L = l) from ⟨by rw [HF.out.1, hlen0, Bool.not_false, Bool.true_and, Bool.true_and], HF.out.2⟩)
            have hcmp : ((str (showBlkL l)).toList == s.toList) = (showBlkL l == s.data.toList) := by rw [str_toList, toList_data]
            clear HF hlen0
            go_wp2_with fail
            refine (implShowBlock _ l _ hs2 hl6).mono ?_
            rintro e w2 ⟨rfl, b2⟩
            have x2 := xb.trans (b2.mono xb.size)
            have o2 := own_below ho b2
            clear hs2 b2 ho hr
            rcases hq : (showBlkL l == s.data.toList) with _ | _
            · obtain rfl : b = false := by rw [HF2.out.1, hq]
              obtain rfl : L = [] := (hC.no rfl).1
              rw [hq] at hcmp
              clear hq
              go_wp2
              refine bodyPost_ret (v := .tuple #[.slice none 0 0, .bool false]) (by simp [results, Try.results69, go_sem]) rfl ⟨_, rfl, Row.nil _ _ _, x2⟩
            · obtain rfl : b = true := by rw [HF2.out.1, hq]
              have HLL := Lib.hid (HF2.out.2 rfl)
              rw [hq] at hcmp
              clear hq
              go_wp2
              refine bodyPost_ret (v := .tuple #[.slice ao l.length cp, .bool true]) (by simp [results, Try.results69, go_sem]) rfl ⟨_, rfl, ?_, x2⟩
              rw [HLL.out]
              exact Row.up o2 rfl (Nat.le_succ _)
        · obtain rfl : b = false := by rw [HF.out.1]; rfl
          obtain rfl : L = [] := (hC.no rfl).1
          clear hgo
          by_cases hx : p < en
          all_goals
            go_wp2
            refine bodyPost_ret (v := .tuple #[.slice none 0 0, .bool false]) (by simp [results, Try.results69, go_sem]) rfl ⟨_, rfl, Row.nil _ _ _, xb⟩
end Go.Proofs.Ytfbbdnicplbmdaa
/- Walks: TableEnts of the reference and of the program. -/
set_option linter.unusedVariables false
set_option linter.unusedSimpArgs false
namespace Go.Proofs.Ytfbbdnicplbmdaa
open Go.RowKit Sp Go.Sort
theorem entOne : ∀ x : EntR, ∀ u ∈ EntR.cells x, u.oneCell' = true := by
  intro x u hu
  simp [EntR.cells] at hu
  rcases hu with rfl | rfl | rfl | rfl <;> rfl

set_option maxRecDepth 100000 in
set_option maxHeartbeats 3200000 in
theorem specTableEnts (v : Value) (t : TabR) (w : World) (h : IsTable w v t) (l0 : (t.parts.length : Int) ≤ 1048576) (ls : ∀ k (hk : k < t.parts.length), (t.parts[k].text.size : Int) ≤ 1048576) (lf : ((flatT t.parts).length : Int) ≤ 1048576) :
    Calls Try.prog 16 #[v] w fun e w' => ∃ v', e = .returned (.tuple #[v', .bool (entsTB t)]) ∧ Row EntR.cells 30 4 w.heap.size w'.heap.size w' v' (tabEnts t) ∧ Below w.heap.size w w' := by
  obtain ⟨u, rfl, hu⟩ := h
  obtain ⟨po, pc, rfl, hlc, hcm, hsh⟩ := hu.shape
  have b1 := (Below.refl w.heap.size w).alloc (Nat.le_refl _) (.cells #[.slice po t.parts.length pc, .string t.bloom, .int .i64 t.top] 26)
  have B1 := Bx.new w #[.slice po t.parts.length pc, .string t.bloom, .int .i64 t.top] 26
  have z1 : (w.alloc (.cells #[.slice po t.parts.length pc, .string t.bloom, .int .i64 t.top] 26)).heap.size = w.heap.size + 1 := by simp
  have HF := Lib.hid (fun k => flatT_take_le t.parts k)
  go_enter Try.func16, Try.ntmps16
  go_upto_region 1 with fail
  generalize (w.alloc (.cells #[.slice po t.parts.length pc, .string t.bloom, .int .i64 t.top] 26)) = W1 at *
  have o2 : (W1.alloc (.cells #[] 30)).ownsRow (w.heap.size + 1) 30 4 (.slice (some ⟨w.heap.size + 1, 0, none⟩) 0 0) 0 [] := own0 z1 (Nat.le_refl _)
  have y2 : RowKit.Below (w.heap.size + 1) W1 (W1.alloc (.cells #[] 30)) := (Below.refl _ _).alloc (by omega) _
  have c0 := B1.cell 0 _ rfl
  go_wp2
  go_loopw [4, 5] (fun o i wr => ∃ (k : Nat) (ao : Option Addr) (cp : Nat), k ≤ t.parts.length ∧ i = .int .i64 k ∧ o = .slice ao (flatT (t.parts.take k)).length cp ∧ wr.ownsRow (w.heap.size + 1) 30 4 o (flatT (t.parts.take k)).length ((flatT (t.parts.take k)).map EntR.cells).flatten ∧ RowKit.Hid (AllTo (fun k => match t.parts[k]? with | some p => rdOk p.text | none => false) k) ∧ RowKit.Below (w.heap.size + 1) W1 wr) (fun _ i _ => t.parts.length - (intOf i).toNat)
  case atStart => exact ⟨0, _, _, by omega, rfl, rfl, by simpa [flatT] using o2, Lib.hid (fun k hk => absurd hk (Nat.not_lt_zero _)), y2⟩
  case round =>
    clear o2 y2 c0
    obtain ⟨k, ao, cp, hk, rfl, rfl, ho, HA, yr⟩ := hrel
    have xr : RowKit.Below w.heap.size w wr := b1.trans (yr.mono (by omega))
    have CB := B1.below (z1 ▸ yr)
    have a0 := CB.cell 0 _ rfl
    have zr := CB.lt
    by_cases hlt : k < t.parts.length
    · obtain ⟨b, off, rfl, hb, hc⟩ := hsh (by omega)
      have hltI : (k : Int) < (t.parts.length : Int) := by omega
      have k0 : wr.cell? ⟨b, off + k * 2, none⟩ = some (.string t.parts[k].last) := (xr.cell (p := ⟨b, off + k * 2, none⟩) hb).trans (hc k hlt 0 _ rfl)
      have k1 : wr.cell? ⟨b, off + k * 2 + 1, none⟩ = some (.string t.parts[k].text) := (xr.cell (p := ⟨b, off + k * 2 + 1, none⟩) hb).trans (hc k hlt 1 _ rfl)
      have hls := ls k hlt
      have HC := Lib.hid (rdBlk_c t.parts[k].text)
      have HS := Lib.hid (flatT_step hlt)
      have h1 := HF.out (k + 1)
      rw [HS.out, List.length_append] at h1
      have h16 := rdBlk_len t.parts[k].text
      have HNO := Lib.hid (fun hb => okT_false (ps := t.parts) hlt hb)
      have HAL := Lib.hid (show rdOk t.parts[k].text = true → AllTo (fun k => match t.parts[k]? with | some p => rdOk p.text | none => false) (k + 1) from fun hb => HA.out.step (by simp [hlt, hb]))
      clear hc
      obtain ⟨T, hT⟩ : ∃ T, T = t.parts[k].text := ⟨_, rfl⟩
      rw [← hT] at k1 hls HC HS h1 h16 HNO HAL
      clear hT
      go_wp2_with fail
      refine (specReadBlock T _ _ HC.out _ hls).mono ?_
      rintro e w3 ⟨v3, rfl, s3, b3⟩
      have y3 := yr.trans (b3.mono (by omega))
      have x3 := b1.trans (y3.mono (by omega))
      have o3 := own_below ho b3
      obtain ⟨co, cc, rfl, _⟩ := s3.shape
      clear b3 HC ho k0 k1
      rcases hok : rdOk T with _ | _
      · have HB := Lib.hid (entsTB_parts (HNO.out hok))
        have HT := Lib.hid (tabEnts_not HB.out)
        clear HNO HAL
        go_wp2
        refine bodyPost_ret (v := .tuple #[.slice (some ⟨w3.heap.size, 0, none⟩) 0 0, .bool false]) (by simp [results, Try.results16, go_sem]) rfl ?_
        rw [HB.out, HT.out]
        exact ⟨_, rfl, Row.up (n := 0) (own0 rfl (Nat.le_refl _)) rfl x3.size, x3.alloc x3.size _⟩
      · have HAN := Lib.hid (HAL.out hok)
        clear HNO HAL hok
        obtain ⟨L, hL⟩ : ∃ L, L = rdBlk T := ⟨_, rfl⟩
        obtain ⟨F, hF⟩ : ∃ F, F = flatT (t.parts.take k) := ⟨_, rfl⟩
        rw [← hL] at s3 HS h1 h16
        rw [← hF] at o3 HS h1
        simp only [← hL, ← hF]
        clear hL hF
        go_wp2_with (at_builtin; go_loud (refine app_recs rfl rfl Try.underlying33 info_Ent rfl (by decide) o3 rfl co cc s3 rfl (fun _ => rfl) entOne (by omega) y3 (Nat.le_refl _) (by have := y3.size; omega) ?_; intro v8 w8 r8 y8 g8))
        rw [← List.length_append, ← List.flatten_append, ← List.map_append, ← HS.out] at r8
        obtain ⟨a8, c8, rfl⟩ := (Row.of_own r8 rfl).form
        clear s3 o3 g8
        go_roundw
        case rel => exact ⟨k + 1, _, _, by omega, by go_num, rfl, r8, HAN, y8⟩
        case measure => simp [intOf]; omega
    · obtain rfl : k = t.parts.length := by omega
      have HOK := Lib.hid (okT_true HA.out)
      have HTK := Lib.hid (List.take_length (l := t.parts))
      rw [HTK.out] at ho ⊢
      try simp only [HTK.out]
      have so := SlT.of_own ho (fun _ => rfl) (by decide)
      have hfl : flatT t.parts = flatT t.parts := rfl
      have HFE := Lib.hid hfl
      clear hfl HA
      obtain ⟨F, hF⟩ : ∃ F, F = flatT t.parts := ⟨_, rfl⟩
      have HFF := Lib.hid hF
      simp only [← hF]
      rw [← hF] at ho so lf
      clear hF
      rcases htb : tabB F with _ | _
      · have HB := Lib.hid (entsTB_no (t := t) (by rw [← HFF.out]; exact htb))
        have HT := Lib.hid (tabEnts_not HB.out)
        go_wp2_with (go_at_call 50; refine (specTableOf _ _ F _ so lf).mono ?_; rintro e w4 ⟨v4, rfl, R4, b4⟩; rw [htb]; obtain ⟨s4, rfl, r4⟩ := R4; obtain ⟨d4, e4, rfl⟩ := r4.form; have y4 := yr.trans (b4.mono (by omega)); have x4 := b1.trans (y4.mono (by omega)))
        refine bodyPost_ret (v := .tuple #[.slice (some ⟨w4.heap.size + 1, 0, none⟩) 0 0, .bool false]) (by simp [results, Try.results16, go_sem]) rfl ?_
        rw [HB.out, HT.out]
        exact ⟨_, rfl, Row.up (n := 0) (own0 (by simp) (Nat.le_refl _)) rfl (by have := x4.size; omega), (x4.alloc x4.size _).alloc (by have := x4.size; simp; omega) _⟩
      · have HEQ := Lib.hid (entsTB_eq HOK.out (by rw [← HFF.out]; exact htb))
        rw [← HFF.out] at HEQ
        have hml := memB_len (tabB_iff.1 htb).2
        have lT : ((tabOf F).parts.length : Int) ≤ 1048576 := by rw [tabOf_yes htb]; show ((prts F (nch F.length)).length : Int) ≤ _; rw [prts_len]; have := nch_le hml; omega
        rcases hte : tabEq (tabOf F) t with _ | _
        · have HB := Lib.hid (HEQ.out.trans hte)
          have HT := Lib.hid (tabEnts_not HB.out)
          go_wp2_with (first | (go_at_call 50; refine (specTableOf _ _ F _ so lf).mono ?_; rintro e w4 ⟨v4, rfl, R4, b4⟩; rw [htb]; obtain ⟨s4, rfl, r4⟩ := R4; obtain ⟨d4, e4, rfl⟩ := r4.form; have y4 := yr.trans (b4.mono (by omega)); have x4 := b1.trans (y4.mono (by omega)); have hx4 := hal4 w4 (.cells #[.slice d4 (tabOf F).parts.length e4, .string (tabOf F).bloom, .int .i64 (tabOf F).top] 26); have C4 := (CB.below b4).below hx4; have q0 := C4.cell 0 _ rfl; have q1 := C4.cell 1 _ rfl; have q2 := C4.cell 2 _ rfl; have xh := x4.trans (hx4.mono x4.size); have i4 : IsTable (w4.alloc (.cells #[.slice d4 (tabOf F).parts.length e4, .string (tabOf F).bloom, .int .i64 (tabOf F).top] 26)) (.agg #[.slice d4 (tabOf F).parts.length e4, .string (tabOf F).bloom, .int .i64 (tabOf F).top]) (tabOf F) := ⟨_, rfl, (r4.slT (fun _ => rfl) (by decide)).below hx4⟩; have i5 : IsTable (w4.alloc (.cells #[.slice d4 (tabOf F).parts.length e4, .string (tabOf F).bloom, .int .i64 (tabOf F).top] 26)) (.agg #[.slice po t.parts.length pc, .string t.bloom, .int .i64 t.top]) t := ⟨_, rfl, hu.below xh⟩) | (go_at_call 75; refine (l12Same_any _ _ (tabOf F) t _ i4 i5 lT l0).mono ?_; rintro e w5 ⟨rfl, b5⟩; rw [hte]; have x5 := xh.trans (b5.mono xh.size)))
          refine bodyPost_ret (v := .tuple #[.slice (some ⟨w5.heap.size, 0, none⟩) 0 0, .bool false]) (by simp [results, Try.results16, go_sem]) rfl ?_
          rw [HB.out, HT.out]
          exact ⟨_, rfl, Row.up (n := 0) (own0 rfl (Nat.le_refl _)) rfl x5.size, x5.alloc x5.size _⟩
        · have HB := Lib.hid (HEQ.out.trans hte)
          have HT := Lib.hid (tabEnts_yes HB.out)
          go_wp2_with (first | (go_at_call 50; refine (specTableOf _ _ F _ so lf).mono ?_; rintro e w4 ⟨v4, rfl, R4, b4⟩; rw [htb]; obtain ⟨s4, rfl, r4⟩ := R4; obtain ⟨d4, e4, rfl⟩ := r4.form; have y4 := yr.trans (b4.mono (by omega)); have x4 := b1.trans (y4.mono (by omega)); have hx4 := hal4 w4 (.cells #[.slice d4 (tabOf F).parts.length e4, .string (tabOf F).bloom, .int .i64 (tabOf F).top] 26); have C4 := (CB.below b4).below hx4; have q0 := C4.cell 0 _ rfl; have q1 := C4.cell 1 _ rfl; have q2 := C4.cell 2 _ rfl; have xh := x4.trans (hx4.mono x4.size); have oh := own_below (own_below ho b4) hx4; have i4 : IsTable (w4.alloc (.cells #[.slice d4 (tabOf F).parts.length e4, .string (tabOf F).bloom, .int .i64 (tabOf F).top] 26)) (.agg #[.slice d4 (tabOf F).parts.length e4, .string (tabOf F).bloom, .int .i64 (tabOf F).top]) (tabOf F) := ⟨_, rfl, (r4.slT (fun _ => rfl) (by decide)).below hx4⟩; have i5 : IsTable (w4.alloc (.cells #[.slice d4 (tabOf F).parts.length e4, .string (tabOf F).bloom, .int .i64 (tabOf F).top] 26)) (.agg #[.slice po t.parts.length pc, .string t.bloom, .int .i64 t.top]) t := ⟨_, rfl, hu.below xh⟩) | (go_at_call 75; refine (l12Same_any _ _ (tabOf F) t _ i4 i5 lT l0).mono ?_; rintro e w5 ⟨rfl, b5⟩; rw [hte]; have x5 := xh.trans (b5.mono xh.size); have o5 := own_below oh b5))
          refine bodyPost_ret (v := .tuple #[.slice ao F.length cp, .bool true]) (by simp [results, Try.results16, go_sem]) rfl ?_
          rw [HB.out, HT.out, ← HFF.out]
          exact ⟨_, rfl, Row.up o5 rfl (by omega), x5⟩

set_option maxRecDepth 100000 in
set_option maxHeartbeats 3200000 in
theorem implTableEnts (v : Value) (t : TabR) (w : World) (h : IsTable w v t) (l0 : (t.parts.length : Int) ≤ 1048576) (ls : ∀ k (hk : k < t.parts.length), (t.parts[k].text.size : Int) ≤ 1048576) :
    Calls Try.prog 14 #[v] w fun e w' => ∃ v', e = .returned (.tuple #[v', .bool (entsTB t)]) ∧ Row EntR.cells 30 4 w.heap.size w'.heap.size w' v' (tabEnts t) ∧ Below w.heap.size w w' := by
  obtain ⟨u, rfl, hu⟩ := h
  obtain ⟨po, pc, rfl, hlc, hcm, hsh⟩ := hu.shape
  have b1 := (Below.refl w.heap.size w).alloc (Nat.le_refl _) (.cells #[.slice po t.parts.length pc, .string t.bloom, .int .i64 t.top] 26)
  have B1 := Bx.new w #[.slice po t.parts.length pc, .string t.bloom, .int .i64 t.top] 26
  have z1 : (w.alloc (.cells #[.slice po t.parts.length pc, .string t.bloom, .int .i64 t.top] 26)).heap.size = w.heap.size + 1 := by simp
  by_cases hbig : 60 < t.parts.length
  · have HB := Lib.hid (entsTB_many hbig)
    have HT := Lib.hid (tabEnts_not HB.out)
    have hbI : (60 : Int) < (t.parts.length : Int) := by omega
    go_enter Try.func14, Try.ntmps14
    go_wp2
    rw [HB.out, HT.out]
    refine bodyPost_ret (v := .tuple #[.slice none 0 0, .bool false]) (by simp [results, Try.results14, go_sem]) rfl ⟨_, rfl, Row.nil _ _ _, b1⟩
  have hnb : ¬ (60 : Int) < (t.parts.length : Int) := by omega
  have lf : ((flatT t.parts).length : Int) ≤ 1048576 := by have := flatT_len t.parts; omega
  have HF := Lib.hid (fun k => flatT_take_le t.parts k)
  go_enter Try.func14, Try.ntmps14
  go_upto_region 3 with fail
  generalize (w.alloc (.cells #[.slice po t.parts.length pc, .string t.bloom, .int .i64 t.top] 26)) = W1 at *
  have o2 := World.ownsRow_nil W1 (w.heap.size + 1) 30 4
  have y2 := Below.refl (w.heap.size + 1) W1
  have c0 := B1.cell 0 _ rfl
  go_wp2
  go_loopw [4, 18] (fun o i wr => ∃ (k : Nat) (ao : Option Addr) (cp : Nat), k ≤ t.parts.length ∧ i = .int .i64 k ∧ o = .slice ao (flatT (t.parts.take k)).length cp ∧ wr.ownsRow (w.heap.size + 1) 30 4 o (flatT (t.parts.take k)).length ((flatT (t.parts.take k)).map EntR.cells).flatten ∧ RowKit.Hid (AllTo (fun k => match t.parts[k]? with | some p => rdOk p.text | none => false) k) ∧ RowKit.Below (w.heap.size + 1) W1 wr) (fun _ i _ => t.parts.length - (intOf i).toNat)
  case atStart => exact ⟨0, _, _, by omega, rfl, rfl, by simpa [flatT] using o2, Lib.hid (fun k hk => absurd hk (Nat.not_lt_zero _)), y2⟩
  case round =>
    clear o2 y2 c0
    obtain ⟨k, ao, cp, hk, rfl, rfl, ho, HA, yr⟩ := hrel
    have xr : RowKit.Below w.heap.size w wr := b1.trans (yr.mono (by omega))
    have CB := B1.below (z1 ▸ yr)
    have a0 := CB.cell 0 _ rfl
    have zr := CB.lt
    by_cases hlt : k < t.parts.length
    · obtain ⟨b, off, rfl, hb, hc⟩ := hsh (by omega)
      have hltI : (k : Int) < (t.parts.length : Int) := by omega
      have k0 : wr.cell? ⟨b, off + k * 2, none⟩ = some (.string t.parts[k].last) := (xr.cell (p := ⟨b, off + k * 2, none⟩) hb).trans (hc k hlt 0 _ rfl)
      have k1 : wr.cell? ⟨b, off + k * 2 + 1, none⟩ = some (.string t.parts[k].text) := (xr.cell (p := ⟨b, off + k * 2 + 1, none⟩) hb).trans (hc k hlt 1 _ rfl)
      have hls := ls k hlt
      have HC := Lib.hid (rdBlk_c t.parts[k].text)
      have HS := Lib.hid (flatT_step hlt)
      have h1 := HF.out (k + 1)
      rw [HS.out, List.length_append] at h1
      have h16 := rdBlk_len t.parts[k].text
      have HNO := Lib.hid (fun hb => okT_false (ps := t.parts) hlt hb)
      have HAL := Lib.hid (show rdOk t.parts[k].text = true → AllTo (fun k => match t.parts[k]? with | some p => rdOk p.text | none => false) (k + 1) from fun hb => HA.out.step (by simp [hlt, hb]))
      clear hc
      obtain ⟨T, hT⟩ : ∃ T, T = t.parts[k].text := ⟨_, rfl⟩
      rw [← hT] at k1 hls HC HS h1 h16 HNO HAL
      clear hT
      have hal := hal4 wr (.cells #[.string t.parts[k].last, .string T] 99)
      go_wp2_with fail
      refine (implReadBlock T _ _ HC.out _ hls).mono ?_
      rintro e w3 ⟨v3, rfl, r3, b3⟩
      have s3 := r3.slT (fun _ => rfl) (by decide)
      have y3 := yr.trans ((hal.trans (b3.mono hal.size)).mono (by omega))
      have x3 := b1.trans (y3.mono (by omega))
      have o3 := own_below ho (hal.trans (b3.mono hal.size))
      clear r3
      obtain ⟨co, cc, rfl, _⟩ := s3.shape
      clear b3 HC ho k0 k1
      rcases hok : rdOk T with _ | _
      · have HB := Lib.hid (entsTB_parts (HNO.out hok))
        have HT := Lib.hid (tabEnts_not HB.out)
        clear HNO HAL
        go_wp2
        refine bodyPost_ret (v := .tuple #[.slice none 0 0, .bool false]) (by simp [results, Try.results14, go_sem]) rfl ?_
        rw [HB.out, HT.out]
        exact ⟨_, rfl, Row.nil _ _ _, x3⟩
      · have HAN := Lib.hid (HAL.out hok)
        clear HNO HAL hok
        obtain ⟨L, hL⟩ : ∃ L, L = rdBlk T := ⟨_, rfl⟩
        obtain ⟨F, hF⟩ : ∃ F, F = flatT (t.parts.take k) := ⟨_, rfl⟩
        rw [← hL] at s3 HS h1 h16
        rw [← hF] at o3 HS h1
        simp only [← hL, ← hF]
        clear hL hF
        go_wp2_with (at_builtin; go_loud (refine app_recs rfl rfl Try.underlying33 info_Ent rfl (by decide) o3 rfl co cc s3 rfl (fun _ => rfl) entOne (by omega) y3 (Nat.le_refl _) (by have := y3.size; omega) ?_; intro v8 w8 r8 y8 g8))
        rw [← List.length_append, ← List.flatten_append, ← List.map_append, ← HS.out] at r8
        obtain ⟨a8, c8, rfl⟩ := (Row.of_own r8 rfl).form
        clear s3 o3 g8
        go_roundw
        case rel => exact ⟨k + 1, _, _, by omega, by go_num, rfl, r8, HAN, y8⟩
        case measure => simp [intOf]; omega
    · obtain rfl : k = t.parts.length := by omega
      have HOK := Lib.hid (okT_true HA.out)
      have HTK := Lib.hid (List.take_length (l := t.parts))
      rw [HTK.out] at ho ⊢
      try simp only [HTK.out]
      have so := SlT.of_own ho (fun _ => rfl) (by decide)
      have hfl : flatT t.parts = flatT t.parts := rfl
      have HFE := Lib.hid hfl
      clear hfl HA
      obtain ⟨F, hF⟩ : ∃ F, F = flatT t.parts := ⟨_, rfl⟩
      have HFF := Lib.hid hF
      simp only [← hF]
      rw [← hF] at ho so lf
      clear hF
      rcases htb : tabB F with _ | _
      · have HB := Lib.hid (entsTB_no (t := t) (by rw [← HFF.out]; exact htb))
        have HT := Lib.hid (tabEnts_not HB.out)
        go_wp2_with (go_at_call 19; refine (implTableOf _ _ F _ so lf).mono ?_; rintro e w4 ⟨v4, rfl, R4, b4⟩; rw [htb]; obtain ⟨s4, rfl, r4⟩ := R4; obtain ⟨d4, e4, rfl⟩ := r4.form; have y4 := yr.trans (b4.mono (by omega)); have x4 := b1.trans (y4.mono (by omega)))
        refine bodyPost_ret (v := .tuple #[.slice none 0 0, .bool false]) (by simp [results, Try.results14, go_sem]) rfl ?_
        rw [HB.out, HT.out]
        exact ⟨_, rfl, Row.nil _ _ _, x4.alloc x4.size _⟩
      · have HEQ := Lib.hid (entsTB_eq HOK.out (by rw [← HFF.out]; exact htb))
        rw [← HFF.out] at HEQ
        have hml := memB_len (tabB_iff.1 htb).2
        have lT : ((tabOf F).parts.length : Int) ≤ 1048576 := by rw [tabOf_yes htb]; show ((prts F (nch F.length)).length : Int) ≤ _; rw [prts_len]; have := nch_le hml; omega
        rcases hte : tabEq (tabOf F) t with _ | _
        · have HB := Lib.hid (HEQ.out.trans hte)
          have HT := Lib.hid (tabEnts_not HB.out)
          go_wp2_with (first | (go_at_call 19; refine (implTableOf _ _ F _ so lf).mono ?_; rintro e w4 ⟨v4, rfl, R4, b4⟩; rw [htb]; obtain ⟨s4, rfl, r4⟩ := R4; obtain ⟨d4, e4, rfl⟩ := r4.form; have y4 := yr.trans (b4.mono (by omega)); have x4 := b1.trans (y4.mono (by omega)); have hx4 := hal4 w4 (.cells #[.slice d4 (tabOf F).parts.length e4, .string (tabOf F).bloom, .int .i64 (tabOf F).top] 26); have C4 := (CB.below b4).below hx4; have q0 := C4.cell 0 _ rfl; have q1 := C4.cell 1 _ rfl; have q2 := C4.cell 2 _ rfl; have xh := x4.trans (hx4.mono x4.size); have i4 : IsTable (w4.alloc (.cells #[.slice d4 (tabOf F).parts.length e4, .string (tabOf F).bloom, .int .i64 (tabOf F).top] 26)) (.agg #[.slice d4 (tabOf F).parts.length e4, .string (tabOf F).bloom, .int .i64 (tabOf F).top]) (tabOf F) := ⟨_, rfl, (r4.slT (fun _ => rfl) (by decide)).below hx4⟩; have i5 : IsTable (w4.alloc (.cells #[.slice d4 (tabOf F).parts.length e4, .string (tabOf F).bloom, .int .i64 (tabOf F).top] 26)) (.agg #[.slice po t.parts.length pc, .string t.bloom, .int .i64 t.top]) t := ⟨_, rfl, hu.below xh⟩) | (go_at_call 71; refine (sameTable_any _ _ (tabOf F) t _ i4 i5 lT l0).mono ?_; rintro e w5 ⟨rfl, b5⟩; rw [hte]; have x5 := xh.trans (b5.mono xh.size)))
          refine bodyPost_ret (v := .tuple #[.slice none 0 0, .bool false]) (by simp [results, Try.results14, go_sem]) rfl ?_
          rw [HB.out, HT.out]
          exact ⟨_, rfl, Row.nil _ _ _, x5⟩
        · have HB := Lib.hid (HEQ.out.trans hte)
          have HT := Lib.hid (tabEnts_yes HB.out)
          go_wp2_with (first | (go_at_call 19; refine (implTableOf _ _ F _ so lf).mono ?_; rintro e w4 ⟨v4, rfl, R4, b4⟩; rw [htb]; obtain ⟨s4, rfl, r4⟩ := R4; obtain ⟨d4, e4, rfl⟩ := r4.form; have y4 := yr.trans (b4.mono (by omega)); have x4 := b1.trans (y4.mono (by omega)); have hx4 := hal4 w4 (.cells #[.slice d4 (tabOf F).parts.length e4, .string (tabOf F).bloom, .int .i64 (tabOf F).top] 26); have C4 := (CB.below b4).below hx4; have q0 := C4.cell 0 _ rfl; have q1 := C4.cell 1 _ rfl; have q2 := C4.cell 2 _ rfl; have xh := x4.trans (hx4.mono x4.size); have oh := own_below (own_below ho b4) hx4; have i4 : IsTable (w4.alloc (.cells #[.slice d4 (tabOf F).parts.length e4, .string (tabOf F).bloom, .int .i64 (tabOf F).top] 26)) (.agg #[.slice d4 (tabOf F).parts.length e4, .string (tabOf F).bloom, .int .i64 (tabOf F).top]) (tabOf F) := ⟨_, rfl, (r4.slT (fun _ => rfl) (by decide)).below hx4⟩; have i5 : IsTable (w4.alloc (.cells #[.slice d4 (tabOf F).parts.length e4, .string (tabOf F).bloom, .int .i64 (tabOf F).top] 26)) (.agg #[.slice po t.parts.length pc, .string t.bloom, .int .i64 t.top]) t := ⟨_, rfl, hu.below xh⟩) | (go_at_call 71; refine (sameTable_any _ _ (tabOf F) t _ i4 i5 lT l0).mono ?_; rintro e w5 ⟨rfl, b5⟩; rw [hte]; have x5 := xh.trans (b5.mono xh.size); have o5 := own_below oh b5))
          refine bodyPost_ret (v := .tuple #[.slice ao F.length cp, .bool true]) (by simp [results, Try.results14, go_sem]) rfl ?_
          rw [HB.out, HT.out, ← HFF.out]
          exact ⟨_, rfl, Row.up o5 rfl (by omega), x5⟩
end Go.Proofs.Ytfbbdnicplbmdaa
/- Walks: ShowTable of the reference. -/
set_option linter.unusedVariables false
set_option linter.unusedSimpArgs false
namespace Go.Proofs.Ytfbbdnicplbmdaa
open Go.RowKit Sp Go.Sort
attribute [local go_sem] str_size str_append
theorem pcL_le {p : PartR} (h1 : p.last.size ≤ 10) (h2 : p.text.size ≤ 1000000) : (pcL p).length ≤ 1000024 := by
  have a := pie_len p.last.data.toList
  have b := pie_len p.text.data.toList
  have e1 : p.last.data.toList.length = p.last.size := by simp
  have e2 : p.text.data.toList.length = p.text.size := by simp
  unfold pcL
  rw [List.length_append]
  omega
theorem pcsL_le {T : TabR} (h : entsTB T = true) (k : Nat) (hk : k ≤ T.parts.length) : (pcsL (T.parts.take k)).length ≤ 1000024 * k := by
  obtain ⟨s1, s2, s3, s4, s5⟩ := tab_sizes h
  induction k with
  | zero => simp [pcsL]
  | succ k ih =>
    rw [pcsL_step (by omega), List.length_append]
    have := ih (by omega)
    have := pcL_le (s5 k (by omega)).1 (s5 k (by omega)).2
    omega

set_option maxRecDepth 100000 in
set_option maxHeartbeats 1600000 in
theorem specShowTable (v : Value) (t : TabR) (w : World) (h : IsTable w v t) (l0 : (t.parts.length : Int) ≤ 1048576) (ls : ∀ k (hk : k < t.parts.length), (t.parts[k].text.size : Int) ≤ 1048576) (lf : ((flatT t.parts).length : Int) ≤ 1048576) :
    Calls Try.prog 58 #[v] w fun e w' => e = .returned (.string (str (showTab t))) ∧ Below w.heap.size w w' := by
  obtain ⟨u, rfl, hu⟩ := h
  obtain ⟨po, pc, rfl, hlc, hcm, hsh⟩ := hu.shape
  have b1 := (Below.refl w.heap.size w).alloc (Nat.le_refl _) (.cells #[.slice po t.parts.length pc, .string t.bloom, .int .i64 t.top] 26)
  have B1 := Bx.new w #[.slice po t.parts.length pc, .string t.bloom, .int .i64 t.top] 26
  have i1 : IsTable (w.alloc (.cells #[.slice po t.parts.length pc, .string t.bloom, .int .i64 t.top] 26)) (.agg #[.slice po t.parts.length pc, .string t.bloom, .int .i64 t.top]) t := ⟨_, rfl, hu.below b1⟩
  rcases ht : entsTB t with _ | _
  · have HR := Lib.hid (showTab_not ht)
    go_enter Try.func58, Try.ntmps58
    go_wp2_with (go_at_call 16; refine (specTableEnts _ t _ i1 l0 ls lf).mono ?_; rintro e w2 ⟨v2, rfl, r2, b2⟩; rw [ht]; have x2 := b1.trans (b2.mono b1.size))
    go_ret
    exact ⟨by rw [HR.out]; rfl, x2⟩
  have HR := Lib.hid (showTab_yes ht)
  have HSZ := Lib.hid (tab_sizes ht)
  have HPL := Lib.hid (fun k hk => pcsL_le ht k hk)
  have hl10 := (tab_sizes ht).1
  have hb16 := (tab_sizes ht).2.1
  have hv0 := varL_length (t.parts.length : Int)
  go_enter Try.func58, Try.ntmps58
  go_upto_region 5 with (first | (go_at_call 16; refine (specTableEnts _ t _ i1 l0 ls lf).mono ?_; rintro e w2 ⟨v2, rfl, r2, b2⟩; rw [ht]; have x2 := b1.trans (b2.mono b1.size); have B2 := B1.below b2; have a0 := B2.cell 0 _ rfl) | (go_at_call 131; refine (specVar _ _).mono ?_; rintro e w3 ⟨rfl, b3⟩; have x3 := x2.trans (b3.mono x2.size); have B3 := B2.below b3))
  clear ht r2 a0
  go_wp2
  go_loopw [5, 6] (fun s i wr => ∃ k : Nat, k ≤ t.parts.length ∧ i = .int .i64 k ∧ s = .string (str (varL t.parts.length ++ pcsL (t.parts.take k))) ∧ Bx wr w.heap.size #[.slice po t.parts.length pc, .string t.bloom, .int .i64 t.top] ∧ Below w.heap.size w wr) (fun _ i _ => t.parts.length - (intOf i).toNat)
  case atStart => exact ⟨0, by omega, rfl, by simp [pcsL], B3, x3⟩
  case round =>
    obtain ⟨k, hk, rfl, rfl, CB, hbl⟩ := hrel
    have hpk := HPL.out k hk
    have a0 := CB.cell 0 _ rfl
    by_cases hlt : k < t.parts.length
    · obtain ⟨b, off, rfl, hbs, hc⟩ := hsh (by omega)
      have hltI : (k : Int) < (t.parts.length : Int) := by omega
      have k0 : wr.cell? ⟨b, off + k * 2, none⟩ = some (.string t.parts[k].last) := (hbl.cell (p := ⟨b, off + k * 2, none⟩) hbs).trans (hc k hlt 0 _ rfl)
      have k1 : wr.cell? ⟨b, off + k * 2 + 1, none⟩ = some (.string t.parts[k].text) := (hbl.cell (p := ⟨b, off + k * 2 + 1, none⟩) hbs).trans (hc k hlt 1 _ rfl)
      obtain ⟨z1, z2⟩ := HSZ.out.2.2.2.2 k hlt
      have HS := Lib.hid (pcsL_step hlt)
      have HP := Lib.hid (show pcL t.parts[k] = pieL t.parts[k].last.data.toList ++ pieL t.parts[k].text.data.toList from rfl)
      clear hc hsh
      generalize t.parts[k].last = la at *
      generalize t.parts[k].text = te at *
      generalize pcsL (t.parts.take k) = T at *
      have hp1 := pie_len la.data.toList
      have hp2 := pie_len te.data.toList
      have hla : la.data.toList.length = la.size := by simp
      have hte : te.data.toList.length = te.size := by simp
      have q0 := cell_regrown a0
      have q1 := cell_regrown k0
      have q2 := cell_regrown k1
      have cA : ∀ d os, Calls Try.prog 132 #[.string la] (grow (redrawn wr d) os) fun e w'' => e = .returned (.string (str (pieL la.data.toList))) ∧ ∃ p : Regrown, w'' = grow (redrawn wr p.d) p.os := fun d os => Calls.regrown_of (l6Piece_any la (grow (redrawn wr d) os) (by omega))
      have cB : ∀ d os, Calls Try.prog 132 #[.string te] (grow (redrawn wr d) os) fun e w'' => e = .returned (.string (str (pieL te.data.toList))) ∧ ∃ p : Regrown, w'' = grow (redrawn wr p.d) p.os := fun d os => Calls.regrown_of (l6Piece_any te (grow (redrawn wr d) os) (by omega))
      go_wp2_with fail
      refine wp_region_quiet_below (by kernel_rfl) (by kernel_rfl) ?_
      iterate 7 (go_big_quiet_step (fail))
      go_big_quiet_step (exact cA _ _)
      iterate 7 (go_big_quiet_step (fail))
      go_big_quiet_step (exact cB _ _)
      repeat (go_big_quiet_step (fail))
      refine wpQuiet_nil ?_
      intro w4 hw'
      have y4 : RowKit.Below wr.heap.size wr w4 := by obtain ⟨p, rfl⟩ := hw'; exact below_regrown _ _ _
      have x4 := hbl.trans (y4.mono hbl.size)
      have C4 := CB.below y4
      clear hw' cA cB q0 q1 q2 k0 k1 a0 CB
      go_wp2
      go_roundw
      case rel => exact ⟨k + 1, by omega, by go_num, by rw [HS.out, HP.out] <;> simp, C4, x4⟩
      case measure => simp [intOf]; omega
    · obtain rfl : k = t.parts.length := by omega
      have a1 := CB.cell 1 _ rfl
      have a2 := CB.cell 2 _ rfl
      have hbz : t.bloom.data.toList.length = t.bloom.size := by simp
      have ab : wr.cell? ⟨w.heap.size, 1, none⟩ = some (.string (str t.bloom.data.toList)) := by rw [str_of]; exact a1
      clear a1
      have a1 := ab
      clear ab
      have HTK := Lib.hid (List.take_length (l := t.parts))
      rw [HTK.out] at hpk ⊢
      obtain ⟨T, hT⟩ : ∃ T, T = pcsL t.parts := ⟨_, rfl⟩
      have HTT := Lib.hid hT
      rw [← hT] at hpk ⊢
      clear hT
      have hv9 := varL_length t.top
      have q1 := cell_regrown a1
      have q2 := cell_regrown a2
      have cA : ∀ d os, Calls Try.prog 131 #[.int .i64 t.top] (grow (redrawn wr d) os) fun e w'' => e = .returned (.string (str (varL t.top))) ∧ ∃ p : Regrown, w'' = grow (redrawn wr p.d) p.os := fun d os => Calls.regrown_of (specVar _ _)
      go_wp2_with fail
      refine wp_region_quiet_below (by kernel_rfl) (by kernel_rfl) ?_
      iterate 6 (go_big_quiet_step (fail))
      go_big_quiet_step (exact cA _ _)
      repeat (go_big_quiet_step (fail))
      refine wpQuiet_nil ?_
      intro w4 hw'
      have y4 : RowKit.Below wr.heap.size wr w4 := by obtain ⟨p, rfl⟩ := hw'; exact below_regrown _ _ _
      have x4 := hbl.trans (y4.mono hbl.size)
      clear hw' cA q1 q2
      go_wp2
      go_ret
      exact ⟨by rw [HR.out]; unfold showTL; simp [HTT.out], x4⟩
end Go.Proofs.Ytfbbdnicplbmdaa
/- Walks: ShowTable of the program. -/
set_option linter.unusedVariables false
set_option linter.unusedSimpArgs false
namespace Go.Proofs.Ytfbbdnicplbmdaa
open Go.RowKit Sp Go.Sort
attribute [local go_sem] str_size str_append

set_option maxRecDepth 100000 in
set_option maxHeartbeats 3200000 in
theorem implShowTable (v : Value) (t : TabR) (w : World) (h : IsTable w v t) (l0 : (t.parts.length : Int) ≤ 1048576) (ls : ∀ k (hk : k < t.parts.length), (t.parts[k].text.size : Int) ≤ 1048576) :
    Calls Try.prog 17 #[v] w fun e w' => e = .returned (.string (str (showTab t))) ∧ Below w.heap.size w w' := by
  obtain ⟨u, rfl, hu⟩ := h
  obtain ⟨po, pc, rfl, hlc, hcm, hsh⟩ := hu.shape
  have b1 := (Below.refl w.heap.size w).alloc (Nat.le_refl _) (.cells #[.slice po t.parts.length pc, .string t.bloom, .int .i64 t.top] 26)
  have H1 := heap_alloc_new w (.cells #[.slice po t.parts.length pc, .string t.bloom, .int .i64 t.top] 26 (0, 0))
  have z1 : w.heap.size < (w.alloc (.cells #[.slice po t.parts.length pc, .string t.bloom, .int .i64 t.top] 26)).heap.size := by simp
  have i1 : IsTable (w.alloc (.cells #[.slice po t.parts.length pc, .string t.bloom, .int .i64 t.top] 26)) (.agg #[.slice po t.parts.length pc, .string t.bloom, .int .i64 t.top]) t := ⟨_, rfl, hu.below b1⟩
  rcases ht : entsTB t with _ | _
  · have HR := Lib.hid (showTab_not ht)
    clear H1 z1
    go_enter Try.func17, Try.ntmps17
    go_wp2_with (go_at_call 14; refine (implTableEnts _ t _ i1 l0 ls).mono ?_; rintro e w2 ⟨v2, rfl, r2, b2⟩; rw [ht]; have x2 := b1.trans (b2.mono b1.size))
    go_ret
    exact ⟨by rw [HR.out]; rfl, x2⟩
  have HR := Lib.hid (showTab_yes ht)
  have HSZ := Lib.hid (tab_sizes ht)
  have HPL := Lib.hid (fun k hk => pcsL_le ht k hk)
  have hl10 := (tab_sizes ht).1
  have hb16 := (tab_sizes ht).2.1
  have hv0 := varL_length (t.parts.length : Int)
  have H1' := Lib.hid H1
  clear H1
  go_enter Try.func17, Try.ntmps17
  go_upto_region 4 with (go_at_call 14; refine (implTableEnts _ t _ i1 l0 ls).mono ?_; rintro e w1 ⟨v2, rfl, r2, b2⟩; rw [ht]; have x1 := b1.trans (b2.mono b1.size); have H2 := Lib.hid ((b2.block w.heap.size z1).trans H1'.out); have z2 := Nat.lt_of_lt_of_le z1 b2.size)
  clear ht r2 H1' i1 b1 b2 z1
  have hbld := Lib.fresh_isBuilder 105 5 w1
  have xb := x1.alloc x1.size (.cells #[.pointer none, .slice none 0 0] 105)
  have hzb : w1.heap.size < (w1.alloc (.cells #[.pointer none, .slice none 0 0] 105)).heap.size := by simp
  have H3 := Lib.hid ((Below.heap_alloc w1 (.cells #[.pointer none, .slice none 0 0] 105) w.heap.size z2).trans H2.out)
  go_upto_region 5 with fail
  generalize w1.alloc (.cells #[.pointer none, .slice none 0 0] 105) = W2 at *
  have a0 : W2.cell? ⟨w.heap.size, 0, none⟩ = some (.slice po t.parts.length pc) := by rw [Lib.cell_of_heap H3.out]; rfl
  go_upto_region 6 with (first | (go_at_call 77; refine (implVar _ _).mono ?_; rintro e w3 ⟨rfl, b3⟩; have hb3 := bld_below hbld b3; have x3 := xb.trans (b3.mono xb.size); have z3 := Nat.lt_of_lt_of_le hzb b3.size; have H4 := Lib.hid ((b3.block w.heap.size (by omega)).trans H3.out)) | (go_at_call 76; refine (writeStr_any w1.heap.size w1.heap.size [] (str (varL t.parts.length)) _ hb3 (by rw [str_size]; simp; omega) (Nat.le_of_lt z3)).mono ?_; rintro e w4 ⟨rfl, hb4, b4, k4⟩; have H5 := Lib.hid (k4 _ _ _ _ H4.out (by decide) (by omega)); have x4 := x3.trans (b4.mono (by omega)); have z4 := Nat.lt_of_lt_of_le z3 b4.size; rw [str_data, List.nil_append] at hb4; have a4 : w4.cell? ⟨w.heap.size, 0, none⟩ = some (.slice po t.parts.length pc) := (by rw [Lib.cell_of_heap H5.out]; rfl)))
  clear hbld hb3 k4 b3 b4 a0 xb hzb
  go_wp2
  go_loopw [23] (fun i wr => ∃ k : Nat, k ≤ t.parts.length ∧ i = .int .i64 k ∧ RowKit.Hid (wr.heap[w.heap.size]? = some (.cells #[.slice po t.parts.length pc, .string t.bloom, .int .i64 t.top] 26 (0, 0))) ∧ Lib.IsBuilder 105 5 w1.heap.size w1.heap.size (Lib.byteCells (varL t.parts.length ++ pcsL (t.parts.take k))) wr ∧ Below w.heap.size w wr ∧ w1.heap.size < wr.heap.size) (fun i _ => t.parts.length - (intOf i).toNat)
  case atStart => exact ⟨0, by omega, rfl, H5, by simpa [pcsL] using hb4, x4, z4⟩
  case round =>
    clear H2 H3 H4 H5 hb4 x4 z4 a4 x3 z3
    obtain ⟨k, hk, rfl, HA, hbd, hbl, hzr⟩ := hrel
    have hpk := HPL.out k hk
    by_cases hlt : k < t.parts.length
    · obtain ⟨b, off, rfl, hbs, hc⟩ := hsh (by omega)
      have hltI : (k : Int) < (t.parts.length : Int) := by omega
      have k0 : wr.cell? ⟨b, off + k * 2, none⟩ = some (.string t.parts[k].last) := (hbl.cell (p := ⟨b, off + k * 2, none⟩) hbs).trans (hc k hlt 0 _ rfl)
      have k1 : wr.cell? ⟨b, off + k * 2 + 1, none⟩ = some (.string t.parts[k].text) := (hbl.cell (p := ⟨b, off + k * 2 + 1, none⟩) hbs).trans (hc k hlt 1 _ rfl)
      obtain ⟨q1, q2⟩ := HSZ.out.2.2.2.2 k hlt
      have HS := Lib.hid (pcsL_step hlt)
      have HP := Lib.hid (show pcL t.parts[k] = pieL t.parts[k].last.data.toList ++ pieL t.parts[k].text.data.toList from rfl)
      clear hc hsh
      generalize t.parts[k].last = la at *
      generalize t.parts[k].text = te at *
      generalize hT : varL t.parts.length ++ pcsL (t.parts.take k) = T at *
      have hTl : T.length ≤ 7 + 1000024 * k := by rw [← hT, List.length_append]; omega
      have HT := Lib.hid hT
      clear hT hpk
      have hp1 := pie_len la.data.toList
      have hp2 := pie_len te.data.toList
      have hla : la.data.toList.length = la.size := by simp
      have hte : te.data.toList.length = te.size := by simp
      have hcc : ¬ 9223372036854775807 < (pieL la.data.toList).length + (pieL te.data.toList).length := by omega
      have hal := hal4 wr (.cells #[.string la, .string te] 99)
      have fh : (wr.alloc (.cells #[.string la, .string te] 99)).heap[wr.heap.size]? = some (.cells #[.string la, .string te] 99 (0, 0)) := heap_alloc_new wr _
      have hzW : wr.heap.size < (wr.alloc (.cells #[.string la, .string te] 99)).heap.size := by simp
      have xW := hbl.trans (hal.mono hbl.size)
      have bW := bld_below hbd hal
      have HAW := Lib.hid ((Below.heap_alloc wr (.cells #[.string la, .string te] 99) w.heap.size (by omega)).trans HA.out)
      go_upto_region 9 with fail
      generalize wr.alloc (.cells #[.string la, .string te] 99) = W at *
      have g0 : W.drew.cell? ⟨wr.heap.size, 0, none⟩ = some (.string la) := by rw [Lib.cell_of_heap (w := W.drew) fh]; rfl
      have g1 : W.drew.cell? ⟨wr.heap.size, 1, none⟩ = some (.string te) := by rw [Lib.cell_of_heap (w := W.drew) fh]; rfl
      have hzD : wr.heap.size < W.drew.heap.size := hzW
      have xD : RowKit.Below w.heap.size w W.drew := xW.drew
      have HBD := Lib.hid (show Lib.IsBuilder 105 5 w1.heap.size w1.heap.size (Lib.byteCells T) W.drew from bW)
      have HFD := Lib.hid (show W.drew.heap[wr.heap.size]? = some (.cells #[.string la, .string te] 99 (0, 0)) from fh)
      have HAD := Lib.hid (show W.drew.heap[w.heap.size]? = some (.cells #[.slice (some ⟨b, off, none⟩) t.parts.length pc, .string t.bloom, .int .i64 t.top] 26 (0, 0)) from HAW.out)
      have hz1D : w1.heap.size ≤ W.drew.heap.size := by omega
      have hAD : w.heap.size < W.drew.heap.size := by omega
      clear fh bW xW hal HAW HA hbd k0 k1
      go_region_held3 (fun w' => w'.cell? ⟨wr.heap.size, 0, none⟩ = some (.string la) ∧ w'.cell? ⟨wr.heap.size, 1, none⟩ = some (.string te))
        (refine ⟨?_, ?_⟩ <;> assumption)
        (first
          | (go_at_call 76; have gg := D2; clear gg; refine (writeStr_any w1.heap.size w1.heap.size T _ _ (bld_below HBD.out D2) (by rw [str_size]; simp; omega) (Nat.le_trans hz1D D2.size)).mono ?_; rintro e a6 ⟨rfl, hb6, b6, k6⟩; have o6 := k6 _ _ _ _ ((D2.block wr.heap.size hzD).trans HFD.out) (by decide) (by omega); have m0 : a6.cell? ⟨wr.heap.size, 0, none⟩ = some (.string la) := (by rw [Lib.cell_of_heap o6]; rfl); have m1 : a6.cell? ⟨wr.heap.size, 1, none⟩ = some (.string te) := (by rw [Lib.cell_of_heap o6]; rfl); have oA := Lib.hid (k6 _ _ _ _ ((D2.block w.heap.size hAD).trans HAD.out) (by decide) (by omega)))
          | (go_at_call 78; have gg := D1; clear gg; refine (short_any te _ (by omega)).mono ?_; rintro e a2 ⟨rfl, c2⟩; have D2 := D1.trans (c2.mono D1.size); have s0 := (bcell D2).1 wr.heap.size 0 hzD; have s1 := (bcell D2).1 wr.heap.size 1 hzD; rw [g0] at s0; rw [g1] at s1)
          | (go_at_call 78; refine (short_any la _ (by omega)).mono ?_; rintro e a1 ⟨rfl, c1⟩; have D1 := c1; have t0 := (bcell D1).1 wr.heap.size 0 hzD; have t1 := (bcell D1).1 wr.heap.size 1 hzD; rw [g0] at t0; rw [g1] at t1))
      all_goals
        rw [str_data] at hb6
        have x6 : RowKit.Below w.heap.size w a6 := (xD.trans (D2.mono xD.size)).trans (b6.mono (by omega))
        have z6 : w1.heap.size < a6.heap.size := Nat.lt_of_lt_of_le (Nat.lt_of_lt_of_le hzr (Nat.le_of_lt hzD)) (Nat.le_trans D2.size b6.size)
        clear o6 k6 b6 D2 D1
        go_wp2
        go_roundw
        case rel => exact ⟨k + 1, by omega, by go_num, oA, by rw [HS.out, HP.out]; rw [← HT.out] at hb6; simpa using hb6, x6, z6⟩
        case measure => simp [intOf]; omega
    · obtain rfl : k = t.parts.length := by omega
      have HTK := Lib.hid (List.take_length (l := t.parts))
      rw [HTK.out] at hpk hbd
      generalize hT : varL t.parts.length ++ pcsL t.parts = T at *
      have hTl : T.length ≤ 7 + 1000024 * t.parts.length := by rw [← hT, List.length_append]; omega
      have HT := Lib.hid hT
      clear hT hpk hsh
      have hv9 := varL_length t.top
      obtain ⟨bl, hble⟩ : ∃ bl, bl = t.bloom.data.toList := ⟨_, rfl⟩
      have hbll : bl.length ≤ 16 := by rw [hble]; have : t.bloom.data.toList.length = t.bloom.size := by simp
                                       omega
      have HBL := Lib.hid hble
      have hcc : ¬ 9223372036854775807 < bl.length + (varL t.top).length := by omega
      have HA2 := HA.out
      rw [show t.bloom = str bl from by rw [hble, str_of]] at HA2
      clear hble HA
      go_upto_region 11 with fail
      have g1 : wr.drew.cell? ⟨w.heap.size, 1, none⟩ = some (.string (str bl)) := by rw [Lib.cell_of_heap (w := wr.drew) HA2]; rfl
      have g2 : wr.drew.cell? ⟨w.heap.size, 2, none⟩ = some (.int .i64 t.top) := by rw [Lib.cell_of_heap (w := wr.drew) HA2]; rfl
      have hzD : w.heap.size < wr.drew.heap.size := by show w.heap.size < wr.heap.size; omega
      have xD : RowKit.Below w.heap.size w wr.drew := hbl.drew
      have HBD := Lib.hid (show Lib.IsBuilder 105 5 w1.heap.size w1.heap.size (Lib.byteCells T) wr.drew from hbd)
      have HFD := Lib.hid (show wr.drew.heap[w.heap.size]? = some (.cells #[.slice po t.parts.length pc, .string (str bl), .int .i64 t.top] 26 (0, 0)) from HA2)
      have hz1D : w1.heap.size ≤ wr.drew.heap.size := by show w1.heap.size ≤ wr.heap.size; omega
      clear HA2 hbd hbl
      go_region_held3 (fun w' => w'.cell? ⟨w.heap.size, 1, none⟩ = some (.string (str bl)) ∧ w'.cell? ⟨w.heap.size, 2, none⟩ = some (.int .i64 t.top))
        (refine ⟨?_, ?_⟩ <;> assumption)
        (first
          | (go_at_call 76; have gg := D1; clear gg; refine (writeStr_any w1.heap.size w1.heap.size T _ _ (bld_below HBD.out D1) (by rw [str_size]; simp; omega) (Nat.le_trans hz1D D1.size)).mono ?_; rintro e a6 ⟨rfl, hb6, b6, k6⟩; have o6 := k6 _ _ _ _ ((D1.block w.heap.size hzD).trans HFD.out) (by decide) (by omega); have m0 : a6.cell? ⟨w.heap.size, 1, none⟩ = some (.string (str bl)) := (by rw [Lib.cell_of_heap o6]; rfl); have m1 : a6.cell? ⟨w.heap.size, 2, none⟩ = some (.int .i64 t.top) := (by rw [Lib.cell_of_heap o6]; rfl))
          | (go_at_call 77; refine (implVar t.top _).mono ?_; rintro e a1 ⟨rfl, c1⟩; have D1 := c1; have t0 := (bcell D1).1 w.heap.size 1 hzD; have t1 := (bcell D1).1 w.heap.size 2 hzD; rw [g1] at t0; rw [g2] at t1))
      all_goals
        rw [str_data] at hb6
        have x6 : RowKit.Below w.heap.size w a6 := (xD.trans (D1.mono xD.size)).trans (b6.mono (by omega))
        have z6 : w1.heap.size < a6.heap.size := Nat.lt_of_lt_of_le hzr (Nat.le_trans D1.size b6.size)
        clear o6 k6 b6 D1
        go_wp2_with fail
        refine (Try.Builder_String_any _ _ _ _ hb6 (Nat.le_of_lt z6)).mono ?_
        rintro e w7 ⟨rfl, b7⟩
        have x7 := x6.trans (b7.mono (by omega))
        go_wp2
        go_ret
        exact ⟨by rw [HR.out]; unfold showTL; rw [← HBL.out, ← HT.out]; simp; rfl, x7⟩
end Go.Proofs.Ytfbbdnicplbmdaa
/- Plain: the sizes of a table's parts. -/
set_option linter.unusedVariables false
namespace Go.Proofs.Ytfbbdnicplbmdaa
open Go.RowKit Sp Go.Sort
theorem part_sz {d : TabR} (h : d.sz ≤ 1048576) : ∀ k (hk : k < d.parts.length), (d.parts[k].text.size : Int) ≤ 1048576 := by
  intro k hk
  unfold TabR.sz at h
  have h1 := sumSz_step PartR.sz d.parts k hk
  have h2 := sumSz_take_le PartR.sz_nonneg d.parts (k + 1)
  have h3 := sumSz_nonneg PartR.sz_nonneg (d.parts.take k)
  unfold PartR.sz at *
  omega
theorem bloom_sz {d : TabR} (h : d.sz ≤ 1048576) : (d.bloom.size : Int) ≤ 1048576 := by
  unfold TabR.sz at h
  have h3 := sumSz_nonneg PartR.sz_nonneg d.parts
  omega
end Go.Proofs.Ytfbbdnicplbmdaa
/- Walks: ReadTable of the program. -/
set_option linter.unusedVariables false
set_option linter.unusedSimpArgs false
namespace Go.Proofs.Ytfbbdnicplbmdaa
open Go.RowKit Sp Go.Sort
/-- The table that is being read: its box, its parts, the result's box. -/
structure TRd (ps : List PartR) (B A : Nat) (bo : Option Addr) (dp : Nat) (W : World) : Prop where
  parts : W.ownsRow (B + 1) 99 2 (.slice bo ps.length dp) ps.length (ps.map PartR.cells).flatten
  box : Bx W B #[.slice bo ps.length dp, .string ⟨#[]⟩, .int .i64 0]
  res : Bx W A #[.slice none 0 0, .string ⟨#[]⟩, .int .i64 0]
theorem TRd.below {ps : List PartR} {B A : Nat} {bo : Option Addr} {dp : Nat} {W W' : World} (h : TRd ps B A bo dp W) (hb : Below W.heap.size W W') : TRd ps B A bo dp W' :=
  ⟨own_below h.parts hb, h.box.below hb, h.res.below hb⟩
theorem TRd.grown {ps : List PartR} {B A r : Nat} {bo : Option Addr} {dp : Nat} {W W' : World} (h : TRd ps B A bo dp W) (hg : W.grownBy W' (some r)) (h1 : r ≠ A) (h2 : r < B) : TRd ps B A bo dp W' :=
  ⟨own_grown h.parts hg (fun q hq e => by have := (h.parts.lt q hq).1; have := Option.some.inj e; omega), h.box.grown hg (fun e => by have := Option.some.inj e; omega), h.res.grown hg (fun e => by have := Option.some.inj e; omega)⟩
theorem TRd.far {ps : List PartR} {B A : Nat} {bo : Option Addr} {dp : Nat} {W : World} (h : TRd ps B A bo dp W) (p : Addr) (u : Value) (h1 : B < p.block) (h2 : A < p.block) (h3 : ∀ q, (Value.slice bo ps.length dp).ownBlock = some q → q ≠ p.block) : TRd ps B A bo dp (W.setCell p u) :=
  ⟨own_far h.parts p u (fun e => h3 _ e rfl), h.box.far p u (by omega), h.res.far p u (by omega)⟩
theorem TRd.app {ps : List PartR} {B A : Nat} {bo : Option Addr} {dp : Nat} {W w' : World} {v : Value} (h : TRd ps B A bo dp W) (hAB : A < B) (x : PartR)
    (r : w'.ownsRow (B + 1) 99 2 v (ps.length + 1) ((ps.map PartR.cells).flatten ++ #[.string x.last, .string x.text].toList)) (g : W.grownBy w' (Value.slice bo ps.length dp).ownBlock) :
    ∃ bo' dp', v = .slice bo' (ps.length + 1) dp' ∧ TRd (ps ++ [x]) B A bo' dp' (w'.setCell ⟨B, 0, none⟩ v) ∧ w'.cell? ⟨B, 0, none⟩ = some (.slice bo ps.length dp) ∧ (∀ j, w'.frozen? ⟨B, j, none⟩ = false) := by
  have hne : ∀ q, (Value.slice bo ps.length dp).ownBlock = some q → B < q := fun q hq => by have := (h.parts.lt q hq).1; omega
  have hb := h.box.grown g (fun e => by have := hne _ e; omega)
  have hr := h.res.grown g (fun e => by have := hne _ e; omega)
  have hl : (ps ++ [x]).length = ps.length + 1 := by simp
  obtain ⟨bo', dp', rfl⟩ : ∃ bo' dp', v = .slice bo' (ps.length + 1) dp' := by
    rcases r.2 with ⟨_, hn⟩ | ⟨g, cap, cur, hv, _⟩
    · omega
    · exact ⟨_, _, hv⟩
  refine ⟨bo', dp', rfl, ⟨?_, ?_, hr.far _ _ (by show A ≠ B; omega)⟩, hb.cell 0 _ rfl, hb.frozen⟩
  · rw [hl, List.map_append, List.flatten_append]
    exact own_other (by simpa [PartR.cells] using r) _ (by show B < B + 1; omega) _
  · rw [hl]; exact hb.set 0 _

/-- The three cells of the result's box, written. -/
def tri (W : World) (A : Nat) (v0 v1 v2 : Value) : World := ((W.setCell ⟨A, 0, none⟩ v0).setCell ⟨A, 1, none⟩ v1).setCell ⟨A, 2, none⟩ v2
set_option maxRecDepth 100000 in
theorem trd_ret {W : World} {A : Nat} {v0 v1 v2 : Value} {cs : Array Value} (h : Bx W A cs) (hA : A = A) : Bx (tri W A v0 v1 v2) A (((cs.setIfInBounds 0 v0).setIfInBounds 1 v1).setIfInBounds 2 v2) :=
  ((h.set 0 v0).set 1 v1).set 2 v2
theorem tri_below {lo : Nat} {w W : World} {A : Nat} {v0 v1 v2 : Value} (h : Below lo w W) (hA : lo ≤ A) : Below lo w (tri W A v0 v1 v2) :=
  below_set (below_set (below_set h ⟨A, 0, none⟩ v0 hA) ⟨A, 1, none⟩ v1 hA) ⟨A, 2, none⟩ v2 hA
set_option maxRecDepth 100000 in
set_option maxHeartbeats 6400000 in
theorem implReadTable (s : ByteArray) (T : TabR) (b : Bool) (hC : TabC s T b) (w : World) (hs : (s.size : Int) ≤ 1048576) :
    Calls Try.prog 18 #[.string s] w fun e w' => ∃ v', e = .returned (.tuple #[v', .bool b]) ∧ RowTable w.heap.size w'.heap.size w' v' T ∧ Below w.heap.size w w' := by
  have r0 : Rd ((w.alloc (.cells #[.slice none 0 0, .string ⟨#[]⟩, .int .i64 0] 26)).alloc (.cells #[.string s, .int .i64 0, .bool false] 114)) (w.heap.size + 1) s 0 false := by
    have := Bx.new (w.alloc (.cells #[.slice none 0 0, .string ⟨#[]⟩, .int .i64 0] 26)) #[.string s, .int .i64 0, .bool false] 114
    rw [World.size_alloc] at this
    exact Rd.of this
  have R0 := (Bx.new w #[.slice none 0 0, .string ⟨#[]⟩, .int .i64 0] 26).below (hal4 _ (.cells #[.string s, .int .i64 0, .bool false] 114))
  have x0 := ((Below.refl w.heap.size w).alloc (Nat.le_refl _) (.cells #[.slice none 0 0, .string ⟨#[]⟩, .int .i64 0] 26)).alloc (by simp) (.cells #[.string s, .int .i64 0, .bool false] 114)
  have z0 : ((w.alloc (.cells #[.slice none 0 0, .string ⟨#[]⟩, .int .i64 0] 26)).alloc (.cells #[.string s, .int .i64 0, .bool false] 114)).heap.size = w.heap.size + 2 := by simp
  have HST := Lib.hid (TI.start hC)
  have hbd := rdNum_bdI s 0 false (by omega)
  go_enter Try.func18, Try.ntmps18
  go_wp2_with fail
  refine (number_any (w.heap.size + 1) 0 s false _ r0 (by omega) hs).mono ?_
  rintro e w1 ⟨rfl, r1, t1⟩
  have x1 := below_touch x0 t1 (by omega) x0.size
  have R1 := R0.grown t1 (fun e => by have := Option.some.inj e; omega)
  have z1 : w.heap.size + 1 < w1.heap.size := by have := t1.size; omega
  clear r0 R0 x0 z0 t1
  generalize rdNum s 0 false = rn at *
  obtain ⟨n, p0, bad0⟩ := rn
  simp only at r1 hbd
  have hn49 := hbd.2
  clear hbd
  go_upto_region 3 with fail
  have B2 := Bx.new w1 #[.slice none 0 0, .string ⟨#[]⟩, .int .i64 0] 26
  have hal := hal4 w1 (.cells #[.slice none 0 0, .string ⟨#[]⟩, .int .i64 0] 26)
  have R2 := R1.below hal
  have r2 := Rd.below r1 hal
  have x2 := x1.trans (hal.mono x1.size)
  go_upto_region 4 with fail
  generalize w1.alloc (.cells #[.slice none 0 0, .string ⟨#[]⟩, .int .i64 0] 26) = W2 at *
  have T2 : TRd [] w1.heap.size w.heap.size none 0 W2 := ⟨World.ownsRow_nil _ _ _ _, B2, R2⟩
  clear B2 R2 R1 r1 x1 hal
  generalize w1.heap.size = B at *
  go_wp2
  go_loopw [7] (fun i wr => ∃ (k p : Nat) (ps : List PartR) (bad : Bool) (bo : Option Addr) (dp : Nat), i = .int .i64 k ∧ RowKit.Hid (TI s T b n k ps p bad) ∧ Rd wr (w.heap.size + 1) s p bad ∧ TRd ps B w.heap.size bo dp wr ∧ Below w.heap.size w wr) (fun i _ => n - (intOf i).toNat)
  case atStart => exact ⟨0, p0, [], bad0, none, 0, rfl, HST, r2, T2, x2⟩
  case round =>
    clear HST r2 T2 x2
    obtain ⟨k, p, ps, bad, bo, dp, rfl, HB, hr, hT, xb⟩ := hrel
    obtain ⟨c0, c1, c2, zf⟩ := hr.facts
    have hp := HB.out.pb
    have hkp := HB.out.le1
    have hlen := Lib.hid HB.out.len
    have hplI : (ps.length : Int) ≤ (p : Int) + 1 := by have := hlen.out; omega
    by_cases hgo : k < n ∧ bad = false
    · obtain ⟨hn, rfl⟩ := hgo
      have hnI : (k : Int) < (n : Int) := by omega
      have hkp := HB.out.le0 rfl
      have hplI : (ps.length : Int) ≤ (p : Int) := by have := hlen.out; omega
      have HN := Lib.hid (show ∀ a p1 b1 c p2 b2, rdShort s p false = (a, p1, b1) → rdShort s p1 b1 = (c, p2, b2) → TI s T b n (k + 1) (ps ++ [⟨a, c⟩]) p2 b2 from fun a p1 b1 c p2 b2 e1 e2 => HB.out.step hC hn e1 e2)
      have d1 := rdShort_bd s p false hp
      go_wp2_with fail
      refine (short_rd (w.heap.size + 1) p s false _ hr hp hs).mono ?_
      rintro e w3 ⟨rfl, r3, t3⟩
      have x3 := below_touch xb t3 (by omega) xb.size
      have T3 := hT.grown t3 (by omega) (by omega)
      clear hr hT xb c0 c1 c2 zf t3
      generalize hv1 : rdShort s p false = sv at *
      obtain ⟨a, p1, b1⟩ := sv
      simp only at r3 d1
      go_upto_region 8 with fail
      have E3 := Bx.new w3 #[.string a, .string ⟨#[]⟩] 99
      have hal := hal4 w3 (.cells #[.string a, .string ⟨#[]⟩] 99)
      have r4 := Rd.below r3 hal
      have T4 := T3.below hal
      have x4 := x3.trans (hal.mono x3.size)
      have hown := T3.parts.lt
      have hB3 := T3.box.lt
      clear r3 T3 x3 hal
      generalize w3.alloc (.cells #[.string a, .string ⟨#[]⟩] 99) = W4 at *
      go_wp2_with fail
      refine (short_rd (w.heap.size + 1) p1 s b1 _ r4 d1.1 hs).mono ?_
      rintro e w5 ⟨rfl, r5, t5⟩
      have x5 := below_touch x4 t5 (by omega) x4.size
      have T5 := T4.grown t5 (by omega) (by omega)
      have E5 := E3.grown t5 (fun e => by have := Option.some.inj e; omega)
      clear r4 T4 x4 E3 t5
      generalize hv2 : rdShort s p1 b1 = sv at *
      obtain ⟨c, p2, b2⟩ := sv
      simp only at r5
      have HN2 := Lib.hid (HN.out _ _ _ _ _ _ rfl hv2)
      clear HN hv1 hv2
      have ef := E5.frozen
      have e1 := E5.cell 1 _ rfl
      have E6 := E5.set 1 (.string c)
      have T6 := T5.far ⟨w3.heap.size, 1, none⟩ (.string c) (by show B < w3.heap.size; omega) (by show w.heap.size < w3.heap.size; omega) (fun q hq => by have := (hown q hq).2; show q ≠ w3.heap.size; omega)
      have r6 := Rd.of (r5.bx.far ⟨w3.heap.size, 1, none⟩ (.string c) (by show w.heap.size + 1 ≠ w3.heap.size; omega))
      have x6 := below_set x5 ⟨w3.heap.size, 1, none⟩ (.string c) (by show w.heap.size ≤ w3.heap.size; omega)
      clear E5 T5 r5 x5
      go_upto_region 9 with fail
      clear ef e1
      generalize World.setCell w5 ⟨w3.heap.size, 1, none⟩ (.string c) = W6 at *
      have g0 := E6.cell 0 _ rfl
      have g1 := E6.cell 1 _ rfl
      have y0 := T6.box.cell 0 _ rfl
      have z6 := T6.box.lt
      go_wp2_with (at_builtin; go_loud (refine app_new_at rfl rfl Try.underlying24 info_Part rfl (by decide) T6.parts rfl 1 (by simp [Act.eval]) rfl (by simp [Value.oneCell']) (by omega) x6 (by omega) (by omega) ?_; intro v8 w8 o8 x8 g8 e8; have hr8 := Rd.of (r6.bx.grown g8 (fun e => by have := (T6.parts.lt _ e).1; omega)); obtain ⟨bo', dp', rfl, T8, t1, tf⟩ := T6.app (by omega) ⟨a, c⟩ o8 g8))
      have x9 := below_set x8 ⟨B, 0, none⟩ (.slice bo' (ps.length + 1) dp') (by show w.heap.size ≤ B; omega)
      have r9 := Rd.of (hr8.bx.far ⟨B, 0, none⟩ (.slice bo' (ps.length + 1) dp') (by show w.heap.size + 1 ≠ B; omega))
      go_roundw
      case rel => exact ⟨k + 1, _, _, _, _, _, by go_num, HN2, r9, T8, x9⟩
      case measure => simp [intOf]; omega
    · have HDX := Lib.hid (show bad = true ∨ ¬ k < n from by cases bad; exact .inr (fun h => hgo ⟨h, rfl⟩); exact .inl rfl)
      have key : (k < n ∧ bad = true) ∨ ¬ k < n := by cases bad; exact .inr (fun h => hgo ⟨h, rfl⟩); (by_cases h : k < n; exact .inl ⟨h, rfl⟩; exact .inr h)
      have HFIN := Lib.hid (show ∀ x p1 b1 m p2 b2, rdBytes s p bad 16 = (x, p1, b1) → rdNum s p1 b1 = (m, p2, b2) → b = ((!b2 && p2 == s.size) && showTab ⟨ps, str x, (m : Int)⟩ == s.data.toList) ∧ (b = true → T = ⟨ps, str x, (m : Int)⟩) from fun x p1 b1 m p2 b2 e1 e2 => HB.out.fin hC HDX.out e1 e2)
      have HSZ := Lib.hid HB.out.sz
      have hps : (ps.length : Int) ≤ 1048577 := by omega
      clear hplI
      have HLE := Lib.hid (show ∀ x p1 b1 m p2 b2, rdBytes s p bad 16 = (x, p1, b1) → rdNum s p1 b1 = (m, p2, b2) → b2 = false → (ps.length : Int) ≤ 1048576 from by
        intro x p1 b1 m p2 b2 e1 e2 hb2
        have h1 := rdNum_mono s p1 b1
        have h2 := rdBytes_mono s p bad 16
        rw [e2] at h1; rw [e1] at h2
        have h3 : bad = false := by
          apply h2.2
          cases b1
          · rfl
          · rw [show rdNum s p1 true = (0, p1, true) from rfl] at e2
            simp only [Prod.mk.injEq] at e2
            rw [← e2.2.2] at hb2; cases hb2
        have := HB.out.le0 h3
        have := hlen.out
        omega)
      clear hgo HB HDX
      have hdb := rdBytes_bd s p bad 16 (by omega)
      have key2 : (k : Int) < (n : Int) ∧ bad = true ∨ ¬ (k : Int) < (n : Int) := by rcases key with ⟨h, h2⟩ | h; exact .inl ⟨by omega, h2⟩; exact .inr (by omega)
      clear key
      rcases key2 with ⟨hnI, rfl⟩ | hnI
      all_goals
        go_wp2_with fail
        refine (bytes_any (w.heap.size + 1) p 16 16 rfl s _ _ hr hp hs (by decide)).mono ?_
        rintro e w2 ⟨rfl, r2, t2⟩
        have x2 := below_touch xb t2 (by omega) xb.size
        have T2 := hT.grown t2 (by omega) (by omega)
        clear hr hT xb c0 c1 c2 zf t2
        generalize hv1 : rdBytes s p _ 16 = sv at *
        obtain ⟨x, p1, b1⟩ := sv
        simp only at r2 hdb
        have HF2 := Lib.hid (fun m p2 b2 => HFIN.out x p1 b1 m p2 b2 rfl)
        have HL2 := Lib.hid (fun m p2 b2 => HLE.out x p1 b1 m p2 b2 rfl)
        clear HFIN HLE hv1
        have y1 := T2.box.cell 1 _ rfl
        have yf := T2.box.frozen
        have hd1 : (p1 : Int) ≤ s.size := by omega
        have hlt := T2.parts.lt
        have hBA := T2.res.lt
        have P3 := own_far T2.parts ⟨B, 1, none⟩ (.string (str x)) (fun e => Nat.not_succ_le_self _ (hlt _ e).1)
        have E3 := T2.box.set 1 (.string (str x))
        have A3 := T2.res.far ⟨B, 1, none⟩ (.string (str x)) (by show w.heap.size ≠ B; omega)
        have r3 := Rd.of (r2.bx.far ⟨B, 1, none⟩ (.string (str x)) (by show w.heap.size + 1 ≠ B; omega))
        have x3 := below_set x2 ⟨B, 1, none⟩ (.string (str x)) (by show w.heap.size ≤ B; omega)
        clear r2 T2 x2
        go_upto_region 11 with fail
        clear y1 yf
        generalize World.setCell w2 ⟨B, 1, none⟩ (.string (str x)) = W3 at *
        go_wp2_with fail
        refine (number_any (w.heap.size + 1) p1 s b1 _ r3 hd1 hs).mono ?_
        rintro e w4 ⟨rfl, r4, t4⟩
        have x4 := below_touch x3 t4 (by omega) x3.size
        have P4 := own_grown P3 t4 (fun q hq e => by have := (hlt q hq).1; have := Option.some.inj e; omega)
        have E4 := E3.grown t4 (fun e => by have := Option.some.inj e; omega)
        have A4 := A3.grown t4 (fun e => by have := Option.some.inj e; omega)
        have hnb := rdNum_bdI s p1 b1 hd1
        clear P3 E3 A3 r3 x3 t4
        generalize hv2 : rdNum s p1 b1 = sv at *
        obtain ⟨m, p2, b2⟩ := sv
        simp only at r4 hnb
        have HF3 := Lib.hid (HF2.out m p2 b2 rfl)
        have HL3 := Lib.hid (HL2.out m p2 b2 rfl)
        clear HF2 HL2 hv2
        have y1 := E4.cell 2 _ rfl
        have yf := E4.frozen
        have P5 := own_far P4 ⟨B, 2, none⟩ (.int .i64 (m : Int)) (fun e => Nat.not_succ_le_self _ (hlt _ e).1)
        have E5 := E4.set 2 (.int .i64 (m : Int))
        have A5 := A4.far ⟨B, 2, none⟩ (.int .i64 (m : Int)) (by show w.heap.size ≠ B; omega)
        have r5 := Rd.of (r4.bx.far ⟨B, 2, none⟩ (.int .i64 (m : Int)) (by show w.heap.size + 1 ≠ B; omega))
        have x5 := below_set x4 ⟨B, 2, none⟩ (.int .i64 (m : Int)) (by show w.heap.size ≤ B; omega)
        clear P4 E4 A4 r4 x4
        go_upto_region 12 with fail
        clear y1 yf
        generalize World.setCell w4 ⟨B, 2, none⟩ (.int .i64 (m : Int)) = W5 at *
        go_wp2_with fail
        refine (done_any (w.heap.size + 1) p2 s b2 _ r5 hs).mono ?_
        rintro e w6 ⟨rfl, b6⟩
        have x6 := x5.trans (b6.mono x5.size)
        have P6 := own_below P5 b6
        have E6 := E5.below b6
        have A6 := A5.below b6
        have y0 := E6.cell 0 _ rfl
        have y1 := E6.cell 1 _ rfl
        have y2 := E6.cell 2 _ rfl
        have yf := E6.frozen
        have q0 := A6.cell 0 _ rfl
        have q1 := A6.cell 1 _ rfl
        have q2 := A6.cell 2 _ rfl
        have qf := A6.frozen
        clear E5 A5 r5 x5 b6 P5
        have HL4 := Lib.hid (show (!b2 && p2 == s.size) = true → (ps.length : Int) ≤ 1048576 from fun h => HL3.out (by cases b2; rfl; cases h))
        clear HL3
        generalize (!b2 && p2 == s.size) = dn at *
        cases dn
        · obtain rfl : b = false := by rw [HF3.out.1, Bool.false_and]
          obtain rfl : T = noTab := (hC.no rfl).1
          go_wp2
          have A8 := trd_ret (v0 := .slice none 0 0) (v1 := .string ⟨#[]⟩) (v2 := .int .i64 0) A6 rfl
          have x8 := tri_below (v0 := .slice none 0 0) (v1 := .string ⟨#[]⟩) (v2 := .int .i64 0) x6 (Nat.le_refl w.heap.size)
          unfold tri at A8 x8
          have q0 := A8.cell 0 _ rfl
          have q1 := A8.cell 1 _ rfl
          have q2 := A8.cell 2 _ rfl
          generalize World.setCell _ _ _ = W8 at *
          refine bodyPost_ret (v := .tuple #[.agg #[.slice none 0 0, .string ⟨#[]⟩, .int .i64 0], .bool false]) (by simp [results, Try.results18, go_sem, q0, q1, q2]) rfl ⟨_, rfl, ⟨_, rfl, Row.nil _ _ _⟩, x8⟩
        · have hps := HL4.out rfl
          simp only [Bool.true_and] at HF3
          have hI : IsTable w6 (.agg #[.slice bo ps.length dp, .string (str x), .int .i64 (m : Int)]) ⟨ps, str x, (m : Int)⟩ := ⟨_, rfl, SlT.of_own P6 (fun _ => rfl) (by decide)⟩
          have hcmp : ((str (showTab ⟨ps, str x, (m : Int)⟩)).toList == s.toList) = (showTab ⟨ps, str x, (m : Int)⟩ == s.data.toList) := by rw [str_toList, toList_data]
          clear HL4
          go_wp2_with fail
          refine (implShowTable _ ⟨ps, str x, (m : Int)⟩ _ hI hps (fun k hk => by have := (HSZ.out _ (List.getElem_mem hk)).2; omega)).mono ?_
          rintro e w7 ⟨rfl, b7⟩
          have x7 := x6.trans (b7.mono x6.size)
          have P7 := own_below P6 b7
          have E7 := E6.below b7
          have A7 := A6.below b7
          have y0 := E7.cell 0 _ rfl
          have y1 := E7.cell 1 _ rfl
          have y2 := E7.cell 2 _ rfl
          have yf := E7.frozen
          have q0 := A7.cell 0 _ rfl
          have q1 := A7.cell 1 _ rfl
          have q2 := A7.cell 2 _ rfl
          have qf := A7.frozen
          clear hI A6 E6 P6 x6 b7
          rcases hq : (showTab ⟨ps, str x, (m : Int)⟩ == s.data.toList) with _ | _
          · obtain rfl : b = false := by rw [HF3.out.1, hq]
            obtain rfl : T = noTab := (hC.no rfl).1
            rw [hq] at hcmp
            clear hq HF3
            go_wp2
            have A8 := trd_ret (v0 := .slice none 0 0) (v1 := .string ⟨#[]⟩) (v2 := .int .i64 0) A7 rfl
            have x8 := tri_below (v0 := .slice none 0 0) (v1 := .string ⟨#[]⟩) (v2 := .int .i64 0) x7 (Nat.le_refl w.heap.size)
            unfold tri at A8 x8
            have q0 := A8.cell 0 _ rfl
            have q1 := A8.cell 1 _ rfl
            have q2 := A8.cell 2 _ rfl
            generalize World.setCell _ _ _ = W8 at *
            refine bodyPost_ret (v := .tuple #[.agg #[.slice none 0 0, .string ⟨#[]⟩, .int .i64 0], .bool false]) (by simp [results, Try.results18, go_sem, q0, q1, q2]) rfl ⟨_, rfl, ⟨_, rfl, Row.nil _ _ _⟩, x8⟩
          · obtain rfl : b = true := by rw [HF3.out.1, hq]
            have HLL := Lib.hid (HF3.out.2 rfl)
            rw [hq] at hcmp
            clear hq HF3
            go_wp2
            have hne : (Value.slice bo ps.length dp).ownBlock = some w.heap.size → False := fun e => by have := (hlt _ e).1; omega
            have P8 := own_far (own_far (own_far P7 ⟨w.heap.size, 0, none⟩ (.slice bo ps.length dp) hne) ⟨w.heap.size, 1, none⟩ (.string (str x)) hne) ⟨w.heap.size, 2, none⟩ (.int .i64 (m : Int)) hne
            have A8 := trd_ret (v0 := .slice bo ps.length dp) (v1 := .string (str x)) (v2 := .int .i64 (m : Int)) A7 rfl
            have x8 := tri_below (v0 := .slice bo ps.length dp) (v1 := .string (str x)) (v2 := .int .i64 (m : Int)) x7 (Nat.le_refl w.heap.size)
            unfold tri at A8 x8
            have q0 := A8.cell 0 _ rfl
            have q1 := A8.cell 1 _ rfl
            have q2 := A8.cell 2 _ rfl
            generalize World.setCell _ _ _ = W8 at *
            refine bodyPost_ret (v := .tuple #[.agg #[.slice bo ps.length dp, .string (str x), .int .i64 (m : Int)], .bool true]) (by simp [results, Try.results18, go_sem, q0, q1, q2]) rfl ⟨_, rfl, ?_, x8⟩
            rw [HLL.out]
            exact ⟨_, rfl, Row.up P8 rfl (by omega)⟩
end Go.Proofs.Ytfbbdnicplbmdaa
/- Walks: ReadTable of the reference. -/
set_option linter.unusedVariables false
set_option linter.unusedSimpArgs false
namespace Go.Proofs.Ytfbbdnicplbmdaa
open Go.RowKit Sp Go.Sort
attribute [local go_sem] str_size str_append

theorem flatT_60 (ps : List PartR) (h : (ps.length : Int) ≤ 60) : ((flatT ps).length : Int) ≤ 1048576 := by
  have := flatT_len ps
  omega
set_option maxRecDepth 100000 in
set_option maxHeartbeats 6400000 in
theorem specReadTable (s : ByteArray) (T : TabR) (b : Bool) (hC : TabC s T b) (w : World) (hs : (s.size : Int) ≤ 1048576) :
    Calls Try.prog 21 #[.string s] w fun e w' => ∃ v', e = .returned (.tuple #[v', .bool b]) ∧ IsTable w' v' T ∧ Below w.heap.size w w' := by
  obtain ⟨W0, hW0⟩ : ∃ W0, (w.alloc (.cells #[.slice none 0 0, .string ⟨#[]⟩, .int .i64 0] 26)).alloc (.cells #[.slice none 0 0, .string ⟨#[]⟩, .int .i64 0] 26) = W0 := ⟨_, rfl⟩
  have T0 : TRd [] (w.heap.size + 1) w.heap.size none 0 W0 := by
    rw [← hW0]
    have h1 := (Bx.new w #[.slice none 0 0, .string ⟨#[]⟩, .int .i64 0] 26).below (hal4 _ (.cells #[.slice none 0 0, .string ⟨#[]⟩, .int .i64 0] 26))
    have h2 := Bx.new (w.alloc (.cells #[.slice none 0 0, .string ⟨#[]⟩, .int .i64 0] 26)) #[.slice none 0 0, .string ⟨#[]⟩, .int .i64 0] 26
    rw [World.size_alloc] at h2
    exact ⟨World.ownsRow_nil _ _ _ _, h2, h1⟩
  have x0 : Below w.heap.size w W0 := by
    rw [← hW0]
    exact ((Below.refl w.heap.size w).alloc (Nat.le_refl _) _).alloc (by simp) _
  have z0 : W0.heap.size = w.heap.size + 2 := by rw [← hW0]; simp
  have hz : ∀ W : World, IsTable W (.agg #[.slice none 0 0, .string ⟨#[]⟩, .int .i64 0]) noTab := fun W => ⟨_, rfl, ⟨none, 0, rfl, Nat.le_refl _, by decide, fun h => absurd h (by simp [noTab])⟩⟩
  have HW0 := Lib.hid hW0
  clear hW0
  go_enter Try.func21, Try.ntmps21
  go_upto_region 2 with fail
  rw [HW0.out]
  clear HW0
  rcases hv : takeV s 0 with _ | ⟨n, p0⟩
  · obtain rfl : b = false := TI.none0 hC hv
    obtain rfl : T = noTab := (hC.no rfl).1
    have hv' : tkV s 0 = none := by rw [show (0 : Int) = ((0 : Nat) : Int) from rfl, tkV_nat]; exact hv
    clear hv
    go_wp2_with fail
    refine (vars1_none s 0 _ hs hv').mono ?_
    rintro e w1 ⟨g, c, rfl, b1⟩
    have x1 := x0.trans (b1.mono x0.size)
    have T1 := T0.below b1
    have z1 := b1.size
    clear T0 x0 b1
    have y0 := T1.box.cell 0 _ rfl
    have y1 := T1.box.cell 1 _ rfl
    have y2 := T1.box.cell 2 _ rfl
    have yf := T1.box.frozen
    have q0 := T1.res.cell 0 _ rfl
    have q1 := T1.res.cell 1 _ rfl
    have q2 := T1.res.cell 2 _ rfl
    have qf := T1.res.frozen
    go_wp2
    have A8 := trd_ret (v0 := .slice none 0 0) (v1 := .string ⟨#[]⟩) (v2 := .int .i64 0) (T1.res) rfl
    have x8 := tri_below (v0 := .slice none 0 0) (v1 := .string ⟨#[]⟩) (v2 := .int .i64 0) x1 (Nat.le_refl w.heap.size)
    unfold tri at A8 x8
    have q0 := A8.cell 0 _ rfl
    have q1 := A8.cell 1 _ rfl
    have q2 := A8.cell 2 _ rfl
    generalize World.setCell _ _ _ = W8 at *
    refine bodyPost_ret (v := .tuple #[.agg #[.slice none 0 0, .string ⟨#[]⟩, .int .i64 0], .bool false]) (by simp [results, Try.results21, go_sem, q0, q1, q2]) rfl ⟨_, rfl, hz _, x8⟩
  · have hv' : tkV s 0 = some (n, p0) := by rw [show (0 : Int) = ((0 : Nat) : Int) from rfl, tkV_nat]; exact hv
    have hn49 : (n : Int) ≤ 562949953421311 := by have := (takeV_some hv).2.1; omega
    have HV := Lib.hid hv
    clear hv
    go_wp2_with fail
    refine (vars1_some s 0 n p0 _ hs hv').mono ?_
    rintro e w1 ⟨g, c, rfl, cg, g1, g2, b1⟩
    have x1 := x0.trans (b1.mono x0.size)
    have T1 := T0.below b1
    have z1 := b1.size
    have hp0 : ¬ (p0 : Int) < 0 := by omega
    clear hv' T0 x0 b1
    by_cases h6 : 60 < n
    · obtain rfl : b = false := TI.big hC HV.out h6
      obtain rfl : T = noTab := (hC.no rfl).1
      have h6I : (60 : Int) < (n : Int) := by omega
      have y0 := T1.box.cell 0 _ rfl
      have y1 := T1.box.cell 1 _ rfl
      have y2 := T1.box.cell 2 _ rfl
      have yf := T1.box.frozen
      have q0 := T1.res.cell 0 _ rfl
      have q1 := T1.res.cell 1 _ rfl
      have q2 := T1.res.cell 2 _ rfl
      have qf := T1.res.frozen
      go_wp2
      have A8 := trd_ret (v0 := .slice none 0 0) (v1 := .string ⟨#[]⟩) (v2 := .int .i64 0) (T1.res) rfl
      have x8 := tri_below (v0 := .slice none 0 0) (v1 := .string ⟨#[]⟩) (v2 := .int .i64 0) x1 (Nat.le_refl w.heap.size)
      unfold tri at A8 x8
      have q0 := A8.cell 0 _ rfl
      have q1 := A8.cell 1 _ rfl
      have q2 := A8.cell 2 _ rfl
      generalize World.setCell _ _ _ = W8 at *
      refine bodyPost_ret (v := .tuple #[.agg #[.slice none 0 0, .string ⟨#[]⟩, .int .i64 0], .bool false]) (by simp [results, Try.results21, go_sem, q0, q1, q2]) rfl ⟨_, rfl, hz _, x8⟩
    · have h6I : ¬ (60 : Int) < (n : Int) := by omega
      have HST := Lib.hid (TI.first hC HV.out)
      clear h6 HV
      have y0 := T1.box.cell 0 _ rfl
      have y1 := T1.box.cell 1 _ rfl
      have y2 := T1.box.cell 2 _ rfl
      have yf := T1.box.frozen
      have q0 := T1.res.cell 0 _ rfl
      have q1 := T1.res.cell 1 _ rfl
      have q2 := T1.res.cell 2 _ rfl
      have qf := T1.res.frozen
      go_wp2
      clear y0 y1 y2 yf q0 q1 q2 qf
      go_loopw [6, 7] (fun a i wr => ∃ (k p : Nat) (ps : List PartR) (bo : Option Addr) (dp : Nat), i = .int .i64 k ∧ a = .int .i64 p ∧ RowKit.Hid (TI s T b n k ps p false) ∧ (k : Int) ≤ n ∧ wr.cell? ⟨g, 0, none⟩ = some (.int .i64 n) ∧ g < wr.heap.size ∧ (Value.slice bo ps.length dp).ownBlock ≠ some g ∧ TRd ps (w.heap.size + 1) w.heap.size bo dp wr ∧ Below w.heap.size w wr) (fun _ i _ => n - (intOf i).toNat)
      case atStart => exact ⟨0, p0, [], none, 0, rfl, rfl, HST, by omega, cg, g2, by simp [Value.ownBlock], T1, x1⟩
      case round =>
        clear HST T1 x1 cg g2 z1 hp0
        obtain ⟨k, p, ps, bo, dp, rfl, rfl, HB, hkn, cg, g2, hob, hT, xb⟩ := hrel
        have hp := HB.out.pb
        have hlen := Lib.hid HB.out.len
        have hplI : (ps.length : Int) ≤ 60 := by have := hlen.out; omega
        by_cases hk : k < n
        · have hkI : (k : Int) < (n : Int) := by omega
          go_wp2_with fail
          refine (take_any s (p : Int) _ hs).mono ?_
          rintro e w2 ⟨rfl, b2⟩
          have x2 := xb.trans (b2.mono xb.size)
          have T2 := hT.below b2
          have cg2 := (b2.cell (p := ⟨g, 0, none⟩) g2).trans cg
          have g22 := Nat.lt_of_lt_of_le g2 b2.size
          clear cg hT xb g2
          rcases hv1 : takeP s p with _ | ⟨ky, q⟩
          · have hq := tkP_none hv1
            obtain rfl : b = false := TI.sfail1 hC HB.out hk hv1
            obtain rfl : T = noTab := (hC.no rfl).1
            rw [hq]
            clear hq hv1 HB
            have hm := tkP_neg (s := s) (a := -1) (by decide)
            go_wp2_with fail
            refine (take_any s (-1) _ hs).mono ?_
            rintro e w3 ⟨rfl, b3⟩
            have x3 := x2.trans (b3.mono x2.size)
            have T3 := T2.below b3
            rw [hm]
            clear hm T2 x2 b2 b3
            have y0 := T3.box.cell 0 _ rfl
            have y1 := T3.box.cell 1 _ rfl
            have y2 := T3.box.cell 2 _ rfl
            have yf := T3.box.frozen
            have q0 := T3.res.cell 0 _ rfl
            have q1 := T3.res.cell 1 _ rfl
            have q2 := T3.res.cell 2 _ rfl
            have qf := T3.res.frozen
            go_wp2
            have A8 := trd_ret (v0 := .slice none 0 0) (v1 := .string ⟨#[]⟩) (v2 := .int .i64 0) (T3.res) rfl
            have x8 := tri_below (v0 := .slice none 0 0) (v1 := .string ⟨#[]⟩) (v2 := .int .i64 0) x3 (Nat.le_refl w.heap.size)
            unfold tri at A8 x8
            have q0 := A8.cell 0 _ rfl
            have q1 := A8.cell 1 _ rfl
            have q2 := A8.cell 2 _ rfl
            generalize World.setCell _ _ _ = W8 at *
            refine bodyPost_ret (v := .tuple #[.agg #[.slice none 0 0, .string ⟨#[]⟩, .int .i64 0], .bool false]) (by simp [results, Try.results21, go_sem, q0, q1, q2]) rfl ⟨_, rfl, hz _, x8⟩
          · have hq := tkP_some hv1
            have H1 := Lib.hid hv1
            rw [hq]
            clear hq hv1
            go_wp2_with fail
            refine (take_any s (q : Int) _ hs).mono ?_
            rintro e w3 ⟨rfl, b3⟩
            have x3 := x2.trans (b3.mono x2.size)
            have T3 := T2.below b3
            have cg3 := (b3.cell (p := ⟨g, 0, none⟩) g22).trans cg2
            have g23 := Nat.lt_of_lt_of_le g22 b3.size
            clear cg2 T2 x2 b2 b3 g22
            rcases hv2 : takeP s q with _ | ⟨tx, r⟩
            · have hq := tkP_none hv2
              obtain rfl : b = false := TI.sfail2 hC HB.out hk H1.out hv2
              obtain rfl : T = noTab := (hC.no rfl).1
              rw [hq]
              clear hq hv2 HB
              have y0 := T3.box.cell 0 _ rfl
              have y1 := T3.box.cell 1 _ rfl
              have y2 := T3.box.cell 2 _ rfl
              have yf := T3.box.frozen
              have q0 := T3.res.cell 0 _ rfl
              have q1 := T3.res.cell 1 _ rfl
              have q2 := T3.res.cell 2 _ rfl
              have qf := T3.res.frozen
              go_wp2
              have A8 := trd_ret (v0 := .slice none 0 0) (v1 := .string ⟨#[]⟩) (v2 := .int .i64 0) (T3.res) rfl
              have x8 := tri_below (v0 := .slice none 0 0) (v1 := .string ⟨#[]⟩) (v2 := .int .i64 0) x3 (Nat.le_refl w.heap.size)
              unfold tri at A8 x8
              have q0 := A8.cell 0 _ rfl
              have q1 := A8.cell 1 _ rfl
              have q2 := A8.cell 2 _ rfl
              generalize World.setCell _ _ _ = W8 at *
              refine bodyPost_ret (v := .tuple #[.agg #[.slice none 0 0, .string ⟨#[]⟩, .int .i64 0], .bool false]) (by simp [results, Try.results21, go_sem, q0, q1, q2]) rfl ⟨_, rfl, hz _, x8⟩
            · have hq := tkP_some hv2
              have HN := Lib.hid (TI.sstep hC HB.out hk H1.out hv2)
              rw [hq]
              clear hq hv2 HB H1
              have hr0 : ¬ (r : Int) < 0 := by omega
              have y0 := T3.box.cell 0 _ rfl
              have hz3 := T3.box.lt
              go_wp2_with (at_builtin; go_loud (refine app_new_at rfl rfl Try.underlying24 info_Part rfl (by decide) T3.parts rfl 1 (by simp [Act.eval]) rfl (by simp [Value.oneCell']) (by omega) x3 (by omega) (by omega) ?_; intro v8 w8 o8 x8 g8 p8; obtain ⟨bo', dp', rfl, T8, t1, tf⟩ := T3.app (by omega) ⟨ky, tx⟩ o8 g8))
              have hb8 : (Value.slice bo' (ps.length + 1) dp').ownBlock ≠ some g := by
                intro h
                rcases p8 with p | p <;> rw [p] at h
                · exact hob h
                · have := Option.some.inj h; omega
              have c8 := ((gcell g8 (b := g) (by omega) hob).1 0).trans cg3
              have z8 := g8.size
              have x9 := below_set x8 ⟨w.heap.size + 1, 0, none⟩ (.slice bo' (ps.length + 1) dp') (by show w.heap.size ≤ w.heap.size + 1; omega)
              have c9 : (w8.setCell ⟨w.heap.size + 1, 0, none⟩ (.slice bo' (ps.length + 1) dp')).cell? ⟨g, 0, none⟩ = some (.int .i64 n) := by
                rw [World.cell?_setCell_far _ _ _ _ (by show w.heap.size + 1 ≠ g; omega)]; exact c8
              go_roundw
              case rel => exact ⟨k + 1, r, ps ++ [⟨ky, tx⟩], bo', dp', by go_num, rfl, HN, by omega, c9, by rw [World.size_setCell]; omega, by rw [List.length_append]; exact hb8, T8, x9⟩
              case measure => simp [intOf]; omega
        · have hkI : ¬ (k : Int) < (n : Int) := by omega
          have W1 : IntKind.i64.wrap ((s.size : Int) - (p : Int)) = (s.size : Int) - (p : Int) := by rw [IntKind.wrap_i64]; omega
          by_cases hsh : s.size - p < 16
          · obtain rfl : b = false := TI.sshort hC HB.out hk hsh
            obtain rfl : T = noTab := (hC.no rfl).1
            have hshI : (s.size : Int) - (p : Int) < 16 := by omega
            clear HB
            have y0 := hT.box.cell 0 _ rfl
            have y1 := hT.box.cell 1 _ rfl
            have y2 := hT.box.cell 2 _ rfl
            have yf := hT.box.frozen
            have q0 := hT.res.cell 0 _ rfl
            have q1 := hT.res.cell 1 _ rfl
            have q2 := hT.res.cell 2 _ rfl
            have qf := hT.res.frozen
            go_wp2
            have A8 := trd_ret (v0 := .slice none 0 0) (v1 := .string ⟨#[]⟩) (v2 := .int .i64 0) (hT.res) rfl
            have x8 := tri_below (v0 := .slice none 0 0) (v1 := .string ⟨#[]⟩) (v2 := .int .i64 0) xb (Nat.le_refl w.heap.size)
            unfold tri at A8 x8
            have q0 := A8.cell 0 _ rfl
            have q1 := A8.cell 1 _ rfl
            have q2 := A8.cell 2 _ rfl
            generalize World.setCell _ _ _ = W8 at *
            refine bodyPost_ret (v := .tuple #[.agg #[.slice none 0 0, .string ⟨#[]⟩, .int .i64 0], .bool false]) (by simp [results, Try.results21, go_sem, q0, q1, q2]) rfl ⟨_, rfl, hz _, x8⟩
          · have hshI : ¬ (s.size : Int) - (p : Int) < 16 := by omega
            have W2 : IntKind.i64.wrap ((p : Int) + 16) = (p : Int) + 16 := by rw [IntKind.wrap_i64]; omega
            have W3 : (p : Int) + 16 ≤ (s.size : Int) := by omega
            have W4 : ((p : Int) + 16).toNat = p + 16 := by omega
            have hlt := hT.parts.lt
            have hA2 := hT.box.lt
            have hne : ∀ j, j < w.heap.size + 2 → (Value.slice bo ps.length dp).ownBlock = some j → False := fun j hj e => by have := (hlt _ e).1; omega
            have P3 := own_far hT.parts ⟨w.heap.size + 1, 1, none⟩ (.string (s.extract p (p + 16))) (hne (w.heap.size + 1) (by omega))
            have E3 := hT.box.set 1 (.string (s.extract p (p + 16)))
            have A3 := hT.res.far ⟨w.heap.size + 1, 1, none⟩ (.string (s.extract p (p + 16))) (by show w.heap.size ≠ w.heap.size + 1; omega)
            have x3 := below_set xb ⟨w.heap.size + 1, 1, none⟩ (.string (s.extract p (p + 16))) (by show w.heap.size ≤ w.heap.size + 1; omega)
            have y1 := hT.box.cell 1 _ rfl
            have yf := hT.box.frozen
            clear hT xb hlt
            go_upto_region 17 with fail
            clear y1 yf cg
            generalize World.setCell wr ⟨w.heap.size + 1, 1, none⟩ (.string (s.extract p (p + 16))) = W5 at *
            rcases hv3 : takeV s (p + 16) with _ | ⟨m, q⟩
            · obtain rfl : b = false := TI.snone hC HB.out hk hv3
              obtain rfl : T = noTab := (hC.no rfl).1
              have hv' : tkV s ((p : Int) + 16) = none := by rw [show (p : Int) + 16 = ((p + 16 : Nat) : Int) by omega, tkV_nat]; exact hv3
              clear hv3 HB
              go_wp2_with fail
              refine (vars1_none s _ _ hs hv').mono ?_
              rintro e w6 ⟨g', c', rfl, b6⟩
              have x6 := x3.trans (b6.mono x3.size)
              have A6 := A3.below b6
              clear hv' A3 x3 b6
              have q0 := A6.cell 0 _ rfl
              have q1 := A6.cell 1 _ rfl
              have q2 := A6.cell 2 _ rfl
              have qf := A6.frozen
              go_wp2
              have A8 := trd_ret (v0 := .slice none 0 0) (v1 := .string ⟨#[]⟩) (v2 := .int .i64 0) (A6) rfl
              have x8 := tri_below (v0 := .slice none 0 0) (v1 := .string ⟨#[]⟩) (v2 := .int .i64 0) x6 (Nat.le_refl w.heap.size)
              unfold tri at A8 x8
              have q0 := A8.cell 0 _ rfl
              have q1 := A8.cell 1 _ rfl
              have q2 := A8.cell 2 _ rfl
              generalize World.setCell _ _ _ = W8 at *
              refine bodyPost_ret (v := .tuple #[.agg #[.slice none 0 0, .string ⟨#[]⟩, .int .i64 0], .bool false]) (by simp [results, Try.results21, go_sem, q0, q1, q2]) rfl ⟨_, rfl, hz _, x8⟩
            · have hv' : tkV s ((p : Int) + 16) = some (m, q) := by rw [show (p : Int) + 16 = ((p + 16 : Nat) : Int) by omega, tkV_nat]; exact hv3
              have HF := Lib.hid (TI.sfin hC HB.out hk hsh hv3)
              have HSZ := Lib.hid HB.out.sz
              have hlf := flatT_60 ps hplI
              have hsne : s.size ≠ 0 := by omega
              clear hv3 HB
              go_wp2_with fail
              refine (vars1_some s _ m q _ hs hv').mono ?_
              rintro e w6 ⟨g', c', rfl, d6, d61, d62, b6⟩
              have x6 := x3.trans (b6.mono x3.size)
              have A6 := A3.below b6
              have E6 := E3.below b6
              have P6 := own_below P3 b6
              have hq0 : ¬ (q : Int) < 0 := by omega
              clear hv' A3 x3 b6 E3 P3
              have y2 := E6.cell 2 _ rfl
              have yf := E6.frozen
              have P7 := own_far P6 ⟨w.heap.size + 1, 2, none⟩ (.int .i64 (m : Int)) (hne (w.heap.size + 1) (by omega))
              have E7 := E6.set 2 (.int .i64 (m : Int))
              have A7 := A6.far ⟨w.heap.size + 1, 2, none⟩ (.int .i64 (m : Int)) (by show w.heap.size ≠ w.heap.size + 1; omega)
              have x7 := below_set x6 ⟨w.heap.size + 1, 2, none⟩ (.int .i64 (m : Int)) (by show w.heap.size ≤ w.heap.size + 1; omega)
              clear P6 E6 A6 x6
              go_upto_region 21 with fail
              clear y2 yf d6 d61 d62
              generalize World.setCell w6 ⟨w.heap.size + 1, 2, none⟩ (.int .i64 (m : Int)) = W7 at *
              have y0 := E7.cell 0 _ rfl
              have y1 := E7.cell 1 _ rfl
              have y2 := E7.cell 2 _ rfl
              have yf := E7.frozen
              have hI : IsTable W7 (.agg #[.slice bo ps.length dp, .string (s.extract p (p + 16)), .int .i64 (m : Int)]) ⟨ps, s.extract p (p + 16), (m : Int)⟩ := ⟨_, rfl, SlT.of_own P7 (fun _ => rfl) (by decide)⟩
              have hcmp : ((str (showTab ⟨ps, s.extract p (p + 16), (m : Int)⟩)).toList == s.toList) = (showTab ⟨ps, s.extract p (p + 16), (m : Int)⟩ == s.data.toList) := by rw [str_toList, toList_data]
              have hem : (s.toList == (ByteArray.mk #[]).toList) = false := by
                rw [toList_data, toList_data, beq_eq_false_iff_ne]
                intro h
                have := congrArg List.length h
                simp at this
                exact hsne (by simpa using this)
              have hem1 : (s.toList == []) = false := by
                rw [toList_data, beq_eq_false_iff_ne]
                intro h
                have := congrArg List.length h
                simp at this
                exact hsne (by simpa using this)
              have hem2 : s.toList.isEmpty = false := by rw [← hem1]; cases s.toList <;> rfl
              go_wp2_with fail
              refine (specShowTable _ ⟨ps, s.extract p (p + 16), (m : Int)⟩ _ hI (by show (ps.length : Int) ≤ _; omega) (fun k hk => by have := (HSZ.out _ (List.getElem_mem hk)).2; omega) hlf).mono ?_
              rintro e w8 ⟨rfl, b8⟩
              have x8 := x7.trans (b8.mono x7.size)
              have A8 := A7.below b8
              have E8 := E7.below b8
              have P8 := own_below P7 b8
              clear hI A7 E7 P7 x7 b8 y0 y1 y2 yf hem hem1 hem2
              have y0 := E8.cell 0 _ rfl
              have y1 := E8.cell 1 _ rfl
              have y2 := E8.cell 2 _ rfl
              have yf := E8.frozen
              have q0 := A8.cell 0 _ rfl
              have q1 := A8.cell 1 _ rfl
              have q2 := A8.cell 2 _ rfl
              have qf := A8.frozen
              rcases hq : (showTab ⟨ps, s.extract p (p + 16), (m : Int)⟩ == s.data.toList) with _ | _
              · obtain rfl : b = false := by rw [HF.out.1, hq]
                obtain rfl : T = noTab := (hC.no rfl).1
                rw [hq] at hcmp
                clear hq HF
                go_wp2
                have A8 := trd_ret (v0 := .slice none 0 0) (v1 := .string ⟨#[]⟩) (v2 := .int .i64 0) (A8) rfl
                have x8 := tri_below (v0 := .slice none 0 0) (v1 := .string ⟨#[]⟩) (v2 := .int .i64 0) x8 (Nat.le_refl w.heap.size)
                unfold tri at A8 x8
                have q0 := A8.cell 0 _ rfl
                have q1 := A8.cell 1 _ rfl
                have q2 := A8.cell 2 _ rfl
                generalize World.setCell _ _ _ = W8 at *
                refine bodyPost_ret (v := .tuple #[.agg #[.slice none 0 0, .string ⟨#[]⟩, .int .i64 0], .bool false]) (by simp [results, Try.results21, go_sem, q0, q1, q2]) rfl ⟨_, rfl, hz _, x8⟩
              · obtain rfl : b = true := by rw [HF.out.1, hq]
                have HLL := Lib.hid (HF.out.2 rfl)
                rw [hq] at hcmp
                clear hq HF
                go_wp2
                have hnA := hne w.heap.size (by omega)
                have P9 := own_far (own_far (own_far P8 ⟨w.heap.size, 0, none⟩ (.slice bo ps.length dp) hnA) ⟨w.heap.size, 1, none⟩ (.string (s.extract p (p + 16))) hnA) ⟨w.heap.size, 2, none⟩ (.int .i64 (m : Int)) hnA
                have A9 := trd_ret (v0 := .slice bo ps.length dp) (v1 := .string (s.extract p (p + 16))) (v2 := .int .i64 (m : Int)) A8 rfl
                have x9 := tri_below (v0 := .slice bo ps.length dp) (v1 := .string (s.extract p (p + 16))) (v2 := .int .i64 (m : Int)) x8 (Nat.le_refl w.heap.size)
                unfold tri at A9 x9
                have q0 := A9.cell 0 _ rfl
                have q1 := A9.cell 1 _ rfl
                have q2 := A9.cell 2 _ rfl
                generalize World.setCell _ _ _ = W9 at *
                refine bodyPost_ret (v := .tuple #[.agg #[.slice bo ps.length dp, .string (s.extract p (p + 16)), .int .i64 (m : Int)], .bool true]) (by simp [results, Try.results21, go_sem, q0, q1, q2]) rfl ⟨_, rfl, ?_, x9⟩
                rw [HLL.out]
                exact ⟨_, rfl, SlT.of_own P9 (fun _ => rfl) (by decide)⟩
end Go.Proofs.Ytfbbdnicplbmdaa
/- TableEnts of both sides in the form of the laws' walk. -/
set_option linter.unusedVariables false
namespace Go.Proofs.Ytfbbdnicplbmdaa
open Go.RowKit Sp Go.Sort
theorem parts_le {d : TabR} (h : d.sz ≤ 1048576) : (d.parts.length : Int) ≤ 1048576 := by
  unfold TabR.sz at h
  have h3 := sumSz_nonneg PartR.sz_nonneg d.parts
  omega
theorem flat_le {d : TabR} (h : d.sz ≤ 1048576) : ((flatT d.parts).length : Int) ≤ 1048576 := by
  have := flatT_sz d.parts
  unfold TabR.sz at h
  omega
theorem spec_tabEnts (d : TabR) (a : Addr) (c : Nat) (w : World) (h : SlT PartR.cells 2 w (.slice (some a) d.parts.length c) d.parts) (hz : d.sz ≤ 1048576) :
    Calls Try.prog 16 #[.agg #[.slice (some a) d.parts.length c, .string d.bloom, .int .i64 d.top]] w fun e w' => ∃ v', e = .returned (.tuple #[v', .bool (entsTB d)]) ∧ SlT EntR.cells 4 w' v' (tabEnts d) ∧ Below w.heap.size w w' := by
  refine (specTableEnts _ d w ⟨_, rfl, h⟩ (parts_le hz) (part_sz hz) (flat_le hz)).mono ?_
  rintro e w' ⟨v', rfl, r, b⟩
  exact ⟨v', rfl, r.slT (fun _ => rfl) (by decide), b⟩
theorem impl_tabEnts (d : TabR) (a : Addr) (c : Nat) (w : World) (h : SlT PartR.cells 2 w (.slice (some a) d.parts.length c) d.parts) (hz : d.sz ≤ 1048576) :
    Calls Try.prog 14 #[.agg #[.slice (some a) d.parts.length c, .string d.bloom, .int .i64 d.top]] w fun e w' => ∃ v', e = .returned (.tuple #[v', .bool (entsTB d)]) ∧ Row EntR.cells 30 4 w.heap.size w'.heap.size w' v' (tabEnts d) ∧ Below w.heap.size w w' :=
  implTableEnts _ d w ⟨_, rfl, h⟩ (parts_le hz) (part_sz hz)
theorem tabEnts_le {d : TabR} (h : d.sz ≤ 1048576) : ((tabEnts d).length : Int) ≤ 1048576 := by
  have := flat_le h
  unfold tabEnts
  split
  · exact this
  · simp
end Go.Proofs.Ytfbbdnicplbmdaa
/- Walks: slices.Index and slices.Contains at entries. -/
set_option linter.unusedVariables false
set_option linter.unusedSimpArgs false
namespace Go.Proofs.Ytfbbdnicplbmdaa
open Go.RowKit Sp Go.Sort
namespace Sp
theorem hasE_drop {l : List EntR} {x : EntR} {k : Nat} (hk : k < l.length) : hasE (l.drop k) x = (entEq l[k] x || hasE (l.drop (k + 1)) x) := by
  rw [List.drop_eq_getElem_cons hk]; unfold hasE; rw [List.any_cons]
end Sp

set_option maxRecDepth 100000 in
set_option maxHeartbeats 3200000 in
theorem indexEnt_any (v : Value) (l : List EntR) (x : EntR) (w : World) (h : SlT EntR.cells 4 w v l) (hl : (l.length : Int) ≤ 1048576) :
    Calls Try.prog 140 #[v, .agg #[.string x.key, .int .i64 x.seq, .bool x.del, .string x.val]] w fun e w' => ∃ r : Int, e = .returned (.int .i64 r) ∧ decide (0 ≤ r) = hasE l x ∧ Below w.heap.size w w' := by
  obtain ⟨ao, cap, rfl, hlc, hcm, hsh⟩ := h.shape
  have b1 := (Below.refl w.heap.size w).alloc (Nat.le_refl _) (.cells #[.string x.key, .int .i64 x.seq, .bool x.del, .string x.val] 30)
  have B1 := Bx.new w #[.string x.key, .int .i64 x.seq, .bool x.del, .string x.val] 30
  go_enter Try.func140, Try.ntmps140
  go_wp2
  generalize w.alloc (.cells #[.string x.key, .int .i64 x.seq, .bool x.del, .string x.val] 30) = W1 at *
  go_loopw [8] (fun i wr => ∃ k : Nat, i = .int .i64 k ∧ k ≤ l.length ∧ RowKit.Hid (hasE l x = hasE (l.drop k) x) ∧ Bx wr w.heap.size #[.string x.key, .int .i64 x.seq, .bool x.del, .string x.val] ∧ RowKit.Below w.heap.size w wr) (fun i _ => l.length - (intOf i).toNat)
  case atStart => exact ⟨0, rfl, Nat.zero_le _, Lib.hid (by simp), B1, b1⟩
  case round =>
    obtain ⟨k, rfl, hk, HP, CB, xw⟩ := hrel
    have a0 := CB.cell 0 _ rfl
    have a1 := CB.cell 1 _ rfl
    have a2 := CB.cell 2 _ rfl
    have a3 := CB.cell 3 _ rfl
    by_cases hlt : k < l.length
    · have hltI : (k : Int) < (l.length : Int) := by omega
      obtain ⟨b, off, rfl, hb, hc⟩ := hsh (by omega)
      have k0 : wr.cell? ⟨b, off + k * 4, none⟩ = some (.string l[k].key) := (xw.cell (p := ⟨b, off + k * 4, none⟩) hb).trans (hc k hlt 0 _ rfl)
      have k1 : wr.cell? ⟨b, off + k * 4 + 1, none⟩ = some (.int .i64 l[k].seq) := (xw.cell (p := ⟨b, off + k * 4 + 1, none⟩) hb).trans (hc k hlt 1 _ rfl)
      have k2 : wr.cell? ⟨b, off + k * 4 + 2, none⟩ = some (.bool l[k].del) := (xw.cell (p := ⟨b, off + k * 4 + 2, none⟩) hb).trans (hc k hlt 2 _ rfl)
      have k3 : wr.cell? ⟨b, off + k * 4 + 3, none⟩ = some (.string l[k].val) := (xw.cell (p := ⟨b, off + k * 4 + 3, none⟩) hb).trans (hc k hlt 3 _ rfl)
      have HE := Lib.hid (hasE_drop (x := x) hlt)
      clear hc hsh h
      rcases g0 : (x.key.toList == l[k].key.toList) with _ | _
      · have s0 : (l[k].key.toList == x.key.toList) = false := by rw [← g0, Bool.eq_iff_iff, beq_iff_eq, beq_iff_eq]; exact eq_comm
        have HF := Lib.hid (show entEq l[k] x = false from by simp only [entEq, s0, Bool.true_and, Bool.false_and, Bool.and_true, Bool.and_false])
        clear s0
        go_wp2_with fail
        go_quiet (fail)
        have CB2 := CB.below (below_drewN (Below.refl wr.heap.size wr) nq)
        go_wp2
        go_roundw
        case rel => exact ⟨k + 1, by go_num, hlt, Lib.hid (by rw [HP.out, HE.out, HF.out, Bool.false_or]), CB2, below_drewN xw _⟩
        case measure => simp [intOf]; omega
      have s0 : (l[k].key.toList == x.key.toList) = true := by rw [← g0, Bool.eq_iff_iff, beq_iff_eq, beq_iff_eq]; exact eq_comm
      rcases g1 : (x.seq == l[k].seq) with _ | _
      · have s1 : (l[k].seq == x.seq) = false := by rw [← g1, Bool.eq_iff_iff, beq_iff_eq, beq_iff_eq]; exact eq_comm
        have HF := Lib.hid (show entEq l[k] x = false from by simp only [entEq, s0, s1, Bool.true_and, Bool.false_and, Bool.and_true, Bool.and_false])
        clear s0 s1
        go_wp2_with fail
        go_quiet (fail)
        have CB2 := CB.below (below_drewN (Below.refl wr.heap.size wr) nq)
        go_wp2
        go_roundw
        case rel => exact ⟨k + 1, by go_num, hlt, Lib.hid (by rw [HP.out, HE.out, HF.out, Bool.false_or]), CB2, below_drewN xw _⟩
        case measure => simp [intOf]; omega
      have s1 : (l[k].seq == x.seq) = true := by rw [← g1, Bool.eq_iff_iff, beq_iff_eq, beq_iff_eq]; exact eq_comm
      rcases g2 : (x.del == l[k].del) with _ | _
      · have s2 : (l[k].del == x.del) = false := by rw [← g2, Bool.eq_iff_iff, beq_iff_eq, beq_iff_eq]; exact eq_comm
        have HF := Lib.hid (show entEq l[k] x = false from by simp only [entEq, s0, s1, s2, Bool.true_and, Bool.false_and, Bool.and_true, Bool.and_false])
        clear s0 s1 s2
        go_wp2_with fail
        go_quiet (fail)
        have CB2 := CB.below (below_drewN (Below.refl wr.heap.size wr) nq)
        go_wp2
        go_roundw
        case rel => exact ⟨k + 1, by go_num, hlt, Lib.hid (by rw [HP.out, HE.out, HF.out, Bool.false_or]), CB2, below_drewN xw _⟩
        case measure => simp [intOf]; omega
      have s2 : (l[k].del == x.del) = true := by rw [← g2, Bool.eq_iff_iff, beq_iff_eq, beq_iff_eq]; exact eq_comm
      rcases g3 : (x.val.toList == l[k].val.toList) with _ | _
      · have s3 : (l[k].val.toList == x.val.toList) = false := by rw [← g3, Bool.eq_iff_iff, beq_iff_eq, beq_iff_eq]; exact eq_comm
        have HF := Lib.hid (show entEq l[k] x = false from by simp only [entEq, s0, s1, s2, s3, Bool.true_and, Bool.false_and, Bool.and_true, Bool.and_false])
        clear s0 s1 s2 s3
        go_wp2_with fail
        go_quiet (fail)
        have CB2 := CB.below (below_drewN (Below.refl wr.heap.size wr) nq)
        go_wp2
        go_roundw
        case rel => exact ⟨k + 1, by go_num, hlt, Lib.hid (by rw [HP.out, HE.out, HF.out, Bool.false_or]), CB2, below_drewN xw _⟩
        case measure => simp [intOf]; omega
      have s3 : (l[k].val.toList == x.val.toList) = true := by rw [← g3, Bool.eq_iff_iff, beq_iff_eq, beq_iff_eq]; exact eq_comm
      have HF := Lib.hid (show entEq l[k] x = true from by simp only [entEq, s0, s1, s2, s3, Bool.true_and])
      clear s0 s1 s2 s3
      go_wp2_with fail
      go_quiet (fail)
      go_wp2
      go_ret
      exact ⟨_, rfl, by rw [HP.out, HE.out, HF.out, Bool.true_or]; exact decide_eq_true (by omega), below_drewN xw _⟩
    · obtain rfl : k = l.length := by omega
      rw [List.drop_length] at HP
      go_wp2
      go_ret
      exact ⟨_, rfl, by rw [HP.out]; rfl, xw⟩

set_option maxRecDepth 100000 in
set_option maxHeartbeats 800000 in
theorem containsEnt_any (v : Value) (l : List EntR) (x : EntR) (w : World) (h : SlT EntR.cells 4 w v l) (hl : (l.length : Int) ≤ 1048576) :
    Calls Try.prog 70 #[v, .agg #[.string x.key, .int .i64 x.seq, .bool x.del, .string x.val]] w fun e w' => e = .returned (.bool (hasE l x)) ∧ Below w.heap.size w w' := by
  have b1 := (Below.refl w.heap.size w).alloc (Nat.le_refl _) (.cells #[.string x.key, .int .i64 x.seq, .bool x.del, .string x.val] 30)
  go_enter Try.func70, Try.ntmps70
  go_wp2_with (go_at_call 140; refine (indexEnt_any _ l x _ (h.below b1) hl).mono ?_; rintro e w2 ⟨r, rfl, hr, b2⟩; have x2 := b1.trans (b2.mono b1.size); have HR := Lib.hid hr; clear hr)
  all_goals
    go_ret
    exact ⟨by rw [← HR.out]; first | rfl | (congr 2; simp; omega), x2⟩
end Go.Proofs.Ytfbbdnicplbmdaa
set_option linter.unusedVariables false
set_option linter.unusedSimpArgs false
namespace Go.Proofs.Ytfbbdnicplbmdaa
open Go.RowKit Sp Go.Sort
theorem entC (x : EntR) (T : TypeId) : (.agg #[.string x.key, .int .i64 x.seq, .bool x.del, .string x.val] : Value) = .agg #[.string x.key, .int .i64 x.seq, .bool x.del, .string x.val] := rfl

set_option maxRecDepth 100000 in
set_option maxHeartbeats 6400000 in
theorem specTableGet (v : Value) (t : TabR) (key : ByteArray) (seq : Int) (w : World) (h : IsTable w v t) (l0 : (t.parts.length : Int) ≤ 1048576) (ls : ∀ k (hk : k < t.parts.length), (t.parts[k].text.size : Int) ≤ 1048576) (lf : ((flatT t.parts).length : Int) ≤ 1048576) (hbl : (t.bloom.size : Int) ≤ 1048576) (hkl : (key.size : Int) ≤ 1048576) :
    Calls Try.prog 61 #[v, .string key, .int .i64 seq] w fun e w' => e = .returned (.tuple #[.agg #[.string (tabGet t key seq).1.key, .int .i64 (tabGet t key seq).1.seq, .bool (tabGet t key seq).1.del, .string (tabGet t key seq).1.val], .int .i64 ((tabGet t key seq).2 : Nat)]) ∧ Below w.heap.size w w' := by
  obtain ⟨u, rfl, hu⟩ := h
  obtain ⟨po, pc, rfl, hlc, hcm, hsh⟩ := hu.shape
  have x2 := ((Below.refl w.heap.size w).alloc (Nat.le_refl _) (.cells #[.slice po t.parts.length pc, .string t.bloom, .int .i64 t.top] 26)).alloc (by simp) (.cells #[.string ⟨#[]⟩, .int .i64 0, .bool false, .string ⟨#[]⟩] 30)
  have B2 := (Bx.new w #[.slice po t.parts.length pc, .string t.bloom, .int .i64 t.top] 26).below (hal4 _ (.cells #[.string ⟨#[]⟩, .int .i64 0, .bool false, .string ⟨#[]⟩] 30))
  have R2 := Bx.new (w.alloc (.cells #[.slice po t.parts.length pc, .string t.bloom, .int .i64 t.top] 26)) #[.string ⟨#[]⟩, .int .i64 0, .bool false, .string ⟨#[]⟩] 30
  rw [World.size_alloc] at R2
  have i2 : IsTable ((w.alloc (.cells #[.slice po t.parts.length pc, .string t.bloom, .int .i64 t.top] 26)).alloc (.cells #[.string ⟨#[]⟩, .int .i64 0, .bool false, .string ⟨#[]⟩] 30)) (.agg #[.slice po t.parts.length pc, .string t.bloom, .int .i64 t.top]) t := ⟨_, rfl, hu.below x2⟩
  rcases ht : entsTB t with _ | _
  · have HR := Lib.hid (show tabGet t key seq = (zE, 0) from by simp [tabGet, ht])
    go_enter Try.func61, Try.ntmps61
    go_wp2_with (go_at_call 16; refine (specTableEnts _ t _ i2 l0 ls lf).mono ?_; rintro e w3 ⟨v3, rfl, r3, b3⟩; rw [ht]; have x3 := x2.trans (b3.mono x2.size); have B3 := B2.below b3; have R3 := R2.below b3; have a1 := B3.cell 1 _ rfl; have rf := R3.frozen; have r0 := R3.cell 0 _ rfl; have r1 := R3.cell 1 _ rfl; have r2 := R3.cell 2 _ rfl; have r3c := R3.cell 3 _ rfl)
    refine bodyPost_ret (v := .tuple #[.agg #[.string ⟨#[]⟩, .int .i64 0, .bool false, .string ⟨#[]⟩], .int .i64 0]) (by simp [results, Try.results61, go_sem, r0, r1, r2, r3c]) rfl ?_
    refine ⟨by rw [HR.out]; rfl, ?_⟩
    repeat (refine Below.setCell ?_ (by simp <;> omega) _)
    exact x3
  rcases hbm : bloomB t.bloom key with _ | _
  · have HR := Lib.hid (show tabGet t key seq = (zE, 0) from by simp [tabGet, hbm])
    go_enter Try.func61, Try.ntmps61
    go_wp2_with (first | (go_at_call 16; refine (specTableEnts _ t _ i2 l0 ls lf).mono ?_; rintro e w3 ⟨v3, rfl, r3, b3⟩; rw [ht]; have x3 := x2.trans (b3.mono x2.size); have B3 := B2.below b3; have R3 := R2.below b3; have a1 := B3.cell 1 _ rfl; have rf := R3.frozen; have r0 := R3.cell 0 _ rfl; have r1 := R3.cell 1 _ rfl; have r2 := R3.cell 2 _ rfl; have r3c := R3.cell 3 _ rfl) | (go_at_call 134; refine (specBloomMay _ _ _ hbl hkl).mono ?_; rintro e w4 ⟨rfl, b4⟩; rw [hbm]; have x4 := x3.trans (b4.mono x3.size); have B4 := B3.below b4; have R4 := R3.below b4; have q0 := R4.cell 0 _ rfl; have q1 := R4.cell 1 _ rfl; have q2 := R4.cell 2 _ rfl; have q3 := R4.cell 3 _ rfl; have qf := R4.frozen))
    refine bodyPost_ret (v := .tuple #[.agg #[.string ⟨#[]⟩, .int .i64 0, .bool false, .string ⟨#[]⟩], .int .i64 0]) (by simp [results, Try.results61, go_sem, q0, q1, q2, q3]) rfl ?_
    refine ⟨by rw [HR.out]; rfl, ?_⟩
    repeat (refine Below.setCell ?_ (by simp <;> omega) _)
    exact x4
  have HR := Lib.hid (show tabGet t key seq = ((getE key seq (tabEnts t)).1, rdsT key seq t.parts) from by simp [tabGet, ht, hbm])
  have HT := Lib.hid ht
  have hl10 := (entsTB_len ht).1
  have hl60 := (entsTB_len ht).2.1
  go_enter Try.func61, Try.ntmps61
  go_wp2_with (first | (go_at_call 16; refine (specTableEnts _ t _ i2 l0 ls lf).mono ?_; rintro e w3 ⟨v3, rfl, r3, b3⟩; rw [ht]; have x3 := x2.trans (b3.mono x2.size); have B3 := B2.below b3; have R3 := R2.below b3; have a1 := B3.cell 1 _ rfl; have rf := R3.frozen; have r0 := R3.cell 0 _ rfl; have r1 := R3.cell 1 _ rfl; have r2 := R3.cell 2 _ rfl; have r3c := R3.cell 3 _ rfl) | (go_at_call 134; refine (specBloomMay _ _ _ hbl hkl).mono ?_; rintro e w4 ⟨rfl, b4⟩; rw [hbm]; have x4 := x3.trans (b4.mono x3.size); have B4 := B3.below b4; have R4 := R3.below b4; have q0 := R4.cell 0 _ rfl; have q1 := R4.cell 1 _ rfl; have q2 := R4.cell 2 _ rfl; have q3 := R4.cell 3 _ rfl; have qf := R4.frozen))
  clear ht hbm a1 rf r0 r1 r2 r3c q0 q1 q2 q3 qf r3 b3 b4 B3 R3 B2 R2 i2 x2 x3
  go_loopw [10, 11] (fun n i wr => ∃ k m : Nat, k ≤ t.parts.length ∧ i = .int .i64 k ∧ n = .int .i64 m ∧ RowKit.Hid (GI t key seq k m) ∧ Bx wr w.heap.size #[.slice po t.parts.length pc, .string t.bloom, .int .i64 t.top] ∧ Bx wr (w.heap.size + 1) #[.string ⟨#[]⟩, .int .i64 0, .bool false, .string ⟨#[]⟩] ∧ Below w.heap.size w wr) (fun _ i _ => t.parts.length - (intOf i).toNat)
  case atStart => exact ⟨0, 0, by omega, rfl, rfl, Lib.hid (GI.start t key seq), B4, R4, x4⟩
  case round =>
    clear B4 R4 x4
    obtain ⟨k, m, hk, rfl, rfl, HG, CB, RB, hbl⟩ := hrel
    have a0 := CB.cell 0 _ rfl
    have hmk := HG.out.le
    by_cases hlt : k < t.parts.length
    · obtain ⟨b, off, rfl, hbs, hc⟩ := hsh (by omega)
      have hltI : (k : Int) < (t.parts.length : Int) := by omega
      have k0 : wr.cell? ⟨b, off + k * 2, none⟩ = some (.string t.parts[k].last) := (hbl.cell (p := ⟨b, off + k * 2, none⟩) hbs).trans (hc k hlt 0 _ rfl)
      have k1 : wr.cell? ⟨b, off + k * 2 + 1, none⟩ = some (.string t.parts[k].text) := (hbl.cell (p := ⟨b, off + k * 2 + 1, none⟩) hbs).trans (hc k hlt 1 _ rfl)
      have hls := ls k hlt
      rcases hl : less t.parts[k].last key with _ | _
      rotate_left
      · have HG2 := Lib.hid (HG.out.skip HT.out hlt hl)
        unfold less at hl
        clear hc hsh
        go_wp2
        go_roundw
        case rel => exact ⟨k + 1, m, by omega, by go_num, rfl, HG2, CB, RB, hbl⟩
        case measure => simp [intOf]; omega
      have HH := Lib.hid (fun hf => HG.out.hit HT.out hlt hl hf)
      have HO := Lib.hid (fun hf ho => HG.out.over HT.out hlt hl hf ho)
      have HX := Lib.hid (fun hf ho => HG.out.next HT.out hlt hl hf ho)
      have HC := Lib.hid (rdBlk_c t.parts[k].text)
      have h16 := rdBlk_len t.parts[k].text
      clear hc hsh
      have hlL := Lib.hid hl
      unfold less at hl
      obtain ⟨T, hT⟩ : ∃ T, T = t.parts[k].text := ⟨_, rfl⟩
      rw [← hT] at k1 hls HC HH HO HX h16
      clear hT
      go_upto_region 11 with (go_at_call 74; refine (specReadBlock T _ _ HC.out _ hls).mono ?_; rintro e w5 ⟨v5, rfl, s5, b5⟩; have x5 := hbl.trans (b5.mono hbl.size); have C5 := CB.below b5; have R5 := RB.below b5; have d0 := C5.cell 0 _ rfl; have k05 := (x5.cell (p := ⟨b, off + k * 2, none⟩) hbs).trans ((hbl.cell (p := ⟨b, off + k * 2, none⟩) hbs).symm.trans k0))
      generalize rdBlk T = L at *
      clear CB RB hbl a0 k0 k1 b5
      rcases hf : (getE key seq L).2 with _ | _
      · rcases ho : less key t.parts[k].last with _ | _
        · have HG2 := Lib.hid (HX.out hf ho)
          have hq : (t.parts[k].last.toList == key.toList) = true := by rw [beq_iff_eq]; exact keys_eq hlL.out ho
          clear ho
          clear HH HO HX
          go_wp2_with (go_at_call 73; refine (specGet_any _ L key seq _ s5 (by omega)).mono ?_; rintro e w6 ⟨rfl, b6⟩; rw [hf]; have x6 := x5.trans (b6.mono x5.size); have hx := (hal4 w6 (.cells #[.string (getE key seq L).1.key, .int .i64 (getE key seq L).1.seq, .bool (getE key seq L).1.del, .string (getE key seq L).1.val] 30)); have C6 := (C5.below b6).below hx; have R6 := (R5.below b6).below hx; have x7 := x6.trans (hx.mono x6.size); have d6 := C6.cell 0 _ rfl; have k06 := (x7.cell (p := ⟨b, off + k * 2, none⟩) hbs).trans ((x5.cell (p := ⟨b, off + k * 2, none⟩) hbs).symm.trans k05))
          go_roundw
          case rel => exact ⟨k + 1, m + 1, by omega, by go_num, by go_num, HG2, C6, R6, x7⟩
          case measure => simp [intOf]; omega
        · obtain ⟨g1, g2⟩ := HO.out hf ho
          have HG2 := Lib.hid g1
          have HG3 := Lib.hid g2
          have hq : (t.parts[k].last.toList == key.toList) = false := by
            rw [beq_eq_false_iff_ne]; intro he
            rw [(less_congr (c := key) he).2, less_refl] at ho; cases ho
          clear HH HO HX g1 g2 ho
          go_wp2_with (go_at_call 73; refine (specGet_any _ L key seq _ s5 (by omega)).mono ?_; rintro e w6 ⟨rfl, b6⟩; rw [hf]; have x6 := x5.trans (b6.mono x5.size); have hx := (hal4 w6 (.cells #[.string (getE key seq L).1.key, .int .i64 (getE key seq L).1.seq, .bool (getE key seq L).1.del, .string (getE key seq L).1.val] 30)); have C6 := (C5.below b6).below hx; have R6 := (R5.below b6).below hx; have x7 := x6.trans (hx.mono x6.size); have d6 := C6.cell 0 _ rfl; have k06 := (x7.cell (p := ⟨b, off + k * 2, none⟩) hbs).trans ((x5.cell (p := ⟨b, off + k * 2, none⟩) hbs).symm.trans k05); have q0 := R6.cell 0 _ rfl; have q1 := R6.cell 1 _ rfl; have q2 := R6.cell 2 _ rfl; have q3 := R6.cell 3 _ rfl; have qf := R6.frozen)
          refine bodyPost_ret (v := .tuple #[.agg #[.string ⟨#[]⟩, .int .i64 0, .bool false, .string ⟨#[]⟩], .int .i64 ((m : Int) + 1)]) (by simp [results, Try.results61, go_sem, q0, q1, q2, q3]) rfl ?_
          refine ⟨by rw [HR.out, HG2.out, ← HG3.out]; rfl, ?_⟩
          repeat (refine Below.setCell ?_ (by simp <;> omega) _)
          exact x7
      · obtain ⟨g1, g2⟩ := HH.out hf
        have HG2 := Lib.hid g1
        have HG3 := Lib.hid g2
        clear HH HO HX g1 g2
        go_wp2_with (go_at_call 73; refine (specGet_any _ L key seq _ s5 (by omega)).mono ?_; rintro e w6 ⟨rfl, b6⟩; rw [hf]; have x6 := x5.trans (b6.mono x5.size); have hx := (hal4 w6 (.cells #[.string (getE key seq L).1.key, .int .i64 (getE key seq L).1.seq, .bool (getE key seq L).1.del, .string (getE key seq L).1.val] 30)); have R6 := (R5.below b6).below hx; have x7 := x6.trans (hx.mono x6.size); have q0 := R6.cell 0 _ rfl; have q1 := R6.cell 1 _ rfl; have q2 := R6.cell 2 _ rfl; have q3 := R6.cell 3 _ rfl; have qf := R6.frozen)
        refine bodyPost_ret (v := .tuple #[.agg #[.string (getE key seq L).1.key, .int .i64 (getE key seq L).1.seq, .bool (getE key seq L).1.del, .string (getE key seq L).1.val], .int .i64 ((m : Int) + 1)]) (by simp [results, Try.results61, go_sem, q0, q1, q2, q3]) rfl ?_
        refine ⟨by rw [HR.out, HG2.out, ← HG3.out]; rfl, ?_⟩
        repeat (refine Below.setCell ?_ (by simp <;> omega) _)
        exact x7
    · obtain rfl : k = t.parts.length := by omega
      obtain ⟨g1, g2⟩ := HG.out.fin HT.out rfl
      have HG2 := Lib.hid g1
      have HG3 := Lib.hid g2
      have q0 := RB.cell 0 _ rfl
      have q1 := RB.cell 1 _ rfl
      have q2 := RB.cell 2 _ rfl
      have q3 := RB.cell 3 _ rfl
      have qf := RB.frozen
      clear g1 g2 hsh
      go_wp2
      refine bodyPost_ret (v := .tuple #[.agg #[.string ⟨#[]⟩, .int .i64 0, .bool false, .string ⟨#[]⟩], .int .i64 (m : Nat)]) (by simp [results, Try.results61, go_sem, q0, q1, q2, q3]) rfl ?_
      refine ⟨by rw [HR.out, HG2.out, ← HG3.out]; rfl, ?_⟩
      repeat (refine Below.setCell ?_ (by simp <;> omega) _)
      exact hbl

set_option maxRecDepth 100000 in
set_option maxHeartbeats 6400000 in
theorem implTableGet (v : Value) (t : TabR) (key : ByteArray) (seq : Int) (w : World) (h : IsTable w v t) (l0 : (t.parts.length : Int) ≤ 1048576) (ls : ∀ k (hk : k < t.parts.length), (t.parts[k].text.size : Int) ≤ 1048576) (hbl : (t.bloom.size : Int) ≤ 1048576) (hkl : (key.size : Int) ≤ 1048576) :
    Calls Try.prog 13 #[v, .string key, .int .i64 seq] w fun e w' => e = .returned (.tuple #[.agg #[.string (tabGet t key seq).1.key, .int .i64 (tabGet t key seq).1.seq, .bool (tabGet t key seq).1.del, .string (tabGet t key seq).1.val], .int .i64 ((tabGet t key seq).2 : Nat)]) ∧ Below w.heap.size w w' := by
  obtain ⟨u, rfl, hu⟩ := h
  obtain ⟨po, pc, rfl, hlc, hcm, hsh⟩ := hu.shape
  have x2 := ((Below.refl w.heap.size w).alloc (Nat.le_refl _) (.cells #[.slice po t.parts.length pc, .string t.bloom, .int .i64 t.top] 26)).alloc (by simp) (.cells #[.string ⟨#[]⟩, .int .i64 0, .bool false, .string ⟨#[]⟩] 30)
  have B2 := (Bx.new w #[.slice po t.parts.length pc, .string t.bloom, .int .i64 t.top] 26).below (hal4 _ (.cells #[.string ⟨#[]⟩, .int .i64 0, .bool false, .string ⟨#[]⟩] 30))
  have R2 := Bx.new (w.alloc (.cells #[.slice po t.parts.length pc, .string t.bloom, .int .i64 t.top] 26)) #[.string ⟨#[]⟩, .int .i64 0, .bool false, .string ⟨#[]⟩] 30
  rw [World.size_alloc] at R2
  have i2 : IsTable ((w.alloc (.cells #[.slice po t.parts.length pc, .string t.bloom, .int .i64 t.top] 26)).alloc (.cells #[.string ⟨#[]⟩, .int .i64 0, .bool false, .string ⟨#[]⟩] 30)) (.agg #[.slice po t.parts.length pc, .string t.bloom, .int .i64 t.top]) t := ⟨_, rfl, hu.below x2⟩
  rcases ht : entsTB t with _ | _
  · have HR := Lib.hid (show tabGet t key seq = (zE, 0) from by simp [tabGet, ht])
    go_enter Try.func13, Try.ntmps13
    go_wp2_with (go_at_call 14; refine (implTableEnts _ t _ i2 l0 ls).mono ?_; rintro e w3 ⟨v3, rfl, r3, b3⟩; rw [ht]; have x3 := x2.trans (b3.mono x2.size); have B3 := B2.below b3; have R3 := R2.below b3; have a1 := B3.cell 1 _ rfl; have rf := R3.frozen; have r0 := R3.cell 0 _ rfl; have r1 := R3.cell 1 _ rfl; have r2 := R3.cell 2 _ rfl; have r3c := R3.cell 3 _ rfl)
    refine bodyPost_ret (v := .tuple #[.agg #[.string ⟨#[]⟩, .int .i64 0, .bool false, .string ⟨#[]⟩], .int .i64 0]) (by simp [results, Try.results13, go_sem, r0, r1, r2, r3c]) rfl ?_
    refine ⟨by rw [HR.out]; rfl, ?_⟩
    repeat (refine Below.setCell ?_ (by simp <;> omega) _)
    exact x3
  rcases hbm : bloomB t.bloom key with _ | _
  · have HR := Lib.hid (show tabGet t key seq = (zE, 0) from by simp [tabGet, hbm])
    go_enter Try.func13, Try.ntmps13
    go_wp2_with (first | (go_at_call 14; refine (implTableEnts _ t _ i2 l0 ls).mono ?_; rintro e w3 ⟨v3, rfl, r3, b3⟩; rw [ht]; have x3 := x2.trans (b3.mono x2.size); have B3 := B2.below b3; have R3 := R2.below b3; have a1 := B3.cell 1 _ rfl; have rf := R3.frozen; have r0 := R3.cell 0 _ rfl; have r1 := R3.cell 1 _ rfl; have r2 := R3.cell 2 _ rfl; have r3c := R3.cell 3 _ rfl) | (go_at_call 67; refine (implBloomMay _ _ _ hbl hkl).mono ?_; rintro e w4 ⟨rfl, b4⟩; rw [hbm]; have x4 := x3.trans (b4.mono x3.size); have B4 := B3.below b4; have R4 := R3.below b4; have q0 := R4.cell 0 _ rfl; have q1 := R4.cell 1 _ rfl; have q2 := R4.cell 2 _ rfl; have q3 := R4.cell 3 _ rfl; have qf := R4.frozen))
    refine bodyPost_ret (v := .tuple #[.agg #[.string ⟨#[]⟩, .int .i64 0, .bool false, .string ⟨#[]⟩], .int .i64 0]) (by simp [results, Try.results13, go_sem, q0, q1, q2, q3]) rfl ?_
    refine ⟨by rw [HR.out]; rfl, ?_⟩
    repeat (refine Below.setCell ?_ (by simp <;> omega) _)
    exact x4
  have HR := Lib.hid (show tabGet t key seq = ((getE key seq (tabEnts t)).1, rdsT key seq t.parts) from by simp [tabGet, ht, hbm])
  have HT := Lib.hid ht
  have hl10 := (entsTB_len ht).1
  have hl60 := (entsTB_len ht).2.1
  go_enter Try.func13, Try.ntmps13
  go_wp2_with (first | (go_at_call 14; refine (implTableEnts _ t _ i2 l0 ls).mono ?_; rintro e w3 ⟨v3, rfl, r3, b3⟩; rw [ht]; have x3 := x2.trans (b3.mono x2.size); have B3 := B2.below b3; have R3 := R2.below b3; have a1 := B3.cell 1 _ rfl; have rf := R3.frozen; have r0 := R3.cell 0 _ rfl; have r1 := R3.cell 1 _ rfl; have r2 := R3.cell 2 _ rfl; have r3c := R3.cell 3 _ rfl) | (go_at_call 67; refine (implBloomMay _ _ _ hbl hkl).mono ?_; rintro e w4 ⟨rfl, b4⟩; rw [hbm]; have x4 := x3.trans (b4.mono x3.size); have B4 := B3.below b4; have R4 := R3.below b4; have q0 := R4.cell 0 _ rfl; have q1 := R4.cell 1 _ rfl; have q2 := R4.cell 2 _ rfl; have q3 := R4.cell 3 _ rfl; have qf := R4.frozen; have s4 := (r3.slT (fun _ => rfl) (by decide)).below b4) | (go_at_call 68; refine (implGet_any _ (tabEnts t) key seq _ s4 (by omega)).mono ?_; rintro e w5 ⟨rfl, b5⟩; have x5 := x4.trans (b5.mono x4.size); have hx5 := hal4 w5 (.cells #[.string (getE key seq (tabEnts t)).1.key, .int .i64 (getE key seq (tabEnts t)).1.seq, .bool (getE key seq (tabEnts t)).1.del, .string (getE key seq (tabEnts t)).1.val] 30); have B5 := (B4.below b5).below hx5; have R5 := (R4.below b5).below hx5; have W5 := Bx.new w5 #[.string (getE key seq (tabEnts t)).1.key, .int .i64 (getE key seq (tabEnts t)).1.seq, .bool (getE key seq (tabEnts t)).1.del, .string (getE key seq (tabEnts t)).1.val] 30; have x6 := x5.trans (hx5.mono x5.size); have a5 := B5.cell 0 _ rfl))
  clear ht hbm a1 rf r0 r1 r2 r3c q0 q1 q2 q3 qf r3 b3 b4 b5 B3 R3 B2 R2 B4 R4 i2 x2 x3 x4 x5 s4 hx5 a5
  go_loopw [12, 42] (fun n i wr => ∃ k m : Nat, k ≤ t.parts.length ∧ i = .int .i64 k ∧ n = .int .i64 m ∧ RowKit.Hid (GI t key seq k m) ∧ Bx wr w.heap.size #[.slice po t.parts.length pc, .string t.bloom, .int .i64 t.top] ∧ Bx wr (w.heap.size + 1) #[.string ⟨#[]⟩, .int .i64 0, .bool false, .string ⟨#[]⟩] ∧ Bx wr w5.heap.size #[.string (getE key seq (tabEnts t)).1.key, .int .i64 (getE key seq (tabEnts t)).1.seq, .bool (getE key seq (tabEnts t)).1.del, .string (getE key seq (tabEnts t)).1.val] ∧ Below w.heap.size w wr) (fun _ i _ => t.parts.length - (intOf i).toNat)
  case atStart => exact ⟨0, 0, by omega, rfl, rfl, Lib.hid (GI.start t key seq), B5, R5, W5, x6⟩
  case round =>
    clear B5 R5 W5 x6
    obtain ⟨k, m, hk, rfl, rfl, HG, CB, RB, VB, hbl⟩ := hrel
    have hmk := HG.out.le
    by_cases hlt : k < t.parts.length
    · obtain ⟨b, off, rfl, hbs, hc⟩ := hsh (by omega)
      have hltI : (k : Int) < (t.parts.length : Int) := by omega
      have k0 : wr.cell? ⟨b, off + k * 2, none⟩ = some (.string t.parts[k].last) := (hbl.cell (p := ⟨b, off + k * 2, none⟩) hbs).trans (hc k hlt 0 _ rfl)
      have k1 : wr.cell? ⟨b, off + k * 2 + 1, none⟩ = some (.string t.parts[k].text) := (hbl.cell (p := ⟨b, off + k * 2 + 1, none⟩) hbs).trans (hc k hlt 1 _ rfl)
      have hls := ls k hlt
      rcases hl : less t.parts[k].last key with _ | _
      rotate_left
      · have HG2 := Lib.hid (HG.out.skip HT.out hlt hl)
        unfold less at hl
        have hal := hal4 wr (.cells #[.string t.parts[k].last, .string t.parts[k].text] 99)
        clear hc hsh
        go_wp2
        go_roundw
        case rel => exact ⟨k + 1, m, by omega, by go_num, rfl, HG2, CB.below hal, RB.below hal, VB.below hal, hbl.trans (hal.mono hbl.size)⟩
        case measure => simp [intOf]; omega
      have HH := Lib.hid (fun hf => HG.out.hit HT.out hlt hl hf)
      have HO := Lib.hid (fun hf ho => HG.out.over HT.out hlt hl hf ho)
      have HX := Lib.hid (fun hf ho => HG.out.next HT.out hlt hl hf ho)
      have HS := Lib.hid (HG.out.has HT.out hlt hl)
      have HC := Lib.hid (rdBlk_c t.parts[k].text)
      have h16 := rdBlk_len t.parts[k].text
      clear hc hsh
      have hlL := Lib.hid hl
      unfold less at hl
      obtain ⟨T, hT⟩ : ∃ T, T = t.parts[k].text := ⟨_, rfl⟩
      rw [← hT] at k1 hls HC HH HO HX HS h16
      clear hT
      have hal := hal4 wr (.cells #[.string t.parts[k].last, .string T] 99)
      have PB := Bx.new wr #[.string t.parts[k].last, .string T] 99
      obtain ⟨L, hL⟩ : ∃ L, rdBlk T = L := ⟨_, rfl⟩
      rw [hL] at HH HO HX HS h16
      rcases hf : (getE key seq L).2 with _ | _
      · rcases ho : less key t.parts[k].last with _ | _
        · have HG2 := Lib.hid (HX.out hf ho)
          have hq : (t.parts[k].last.toList == key.toList) = true := by rw [beq_iff_eq]; exact keys_eq hlL.out ho
          have hsS := HS.out
          rw [hf] at hsS
          clear ho HH HO HX HS hf
          rcases hfd : (getE key seq (tabEnts t)).2 with _ | _
          · clear hsS
            go_wp2_with (go_at_call 69; refine (implReadBlock T _ _ HC.out _ hls).mono ?_; rintro e w7 ⟨v7, rfl, r7, b7⟩; have s7 := r7.slT (fun _ => rfl) (by decide); have hx7 := hal.trans (b7.mono hal.size); have x7 := hbl.trans (hx7.mono hbl.size); have C7 := CB.below hx7; have R7 := RB.below hx7; have V7 := VB.below hx7; have P7 := PB.below b7; have p0 := P7.cell 0 _ rfl; have v0 := V7.cell 0 _ rfl; have v1 := V7.cell 1 _ rfl; have v2 := V7.cell 2 _ rfl; have v3 := V7.cell 3 _ rfl; rw [hL] at s7; have q0 := R7.cell 0 _ rfl; have q1 := R7.cell 1 _ rfl; have q2 := R7.cell 2 _ rfl; have q3 := R7.cell 3 _ rfl; have qf := R7.frozen)
            go_roundw
            case rel => exact ⟨k + 1, m + 1, by omega, by go_num, by go_num, HG2, C7, R7, V7, x7⟩
            case measure => simp [intOf]; omega
          · have hha : hasE L (getE key seq (tabEnts t)).1 = false := by rw [hfd, Bool.true_and] at hsS; exact hsS
            clear hsS
            go_wp2_with (first | (go_at_call 69; refine (implReadBlock T _ _ HC.out _ hls).mono ?_; rintro e w7 ⟨v7, rfl, r7, b7⟩; have s7 := r7.slT (fun _ => rfl) (by decide); have hx7 := hal.trans (b7.mono hal.size); have x7 := hbl.trans (hx7.mono hbl.size); have C7 := CB.below hx7; have R7 := RB.below hx7; have V7 := VB.below hx7; have P7 := PB.below b7; have p0 := P7.cell 0 _ rfl; have v0 := V7.cell 0 _ rfl; have v1 := V7.cell 1 _ rfl; have v2 := V7.cell 2 _ rfl; have v3 := V7.cell 3 _ rfl; rw [hL] at s7) | (go_at_call 70; refine (containsEnt_any _ L (getE key seq (tabEnts t)).1 _ s7 (by omega)).mono ?_; rintro e w8 ⟨rfl, b8⟩; rw [hha]; have x8 := x7.trans (b8.mono x7.size); have C8 := C7.below b8; have R8 := R7.below b8; have V8 := V7.below b8; have P8 := P7.below b8; have p8 := P8.cell 0 _ rfl; have u0 := V8.cell 0 _ rfl; have u1 := V8.cell 1 _ rfl; have u2 := V8.cell 2 _ rfl; have u3 := V8.cell 3 _ rfl; have q0 := R8.cell 0 _ rfl; have q1 := R8.cell 1 _ rfl; have q2 := R8.cell 2 _ rfl; have q3 := R8.cell 3 _ rfl; have qf := R8.frozen))
            go_roundw
            case rel => exact ⟨k + 1, m + 1, by omega, by go_num, by go_num, HG2, C8, R8, V8, x8⟩
            case measure => simp [intOf]; omega
        · obtain ⟨g1, g2⟩ := HO.out hf ho
          have HG3 := Lib.hid g2
          have hfd : (getE key seq (tabEnts t)).2 = false := by rw [g1]
          have hq : (t.parts[k].last.toList == key.toList) = false := by
            rw [beq_eq_false_iff_ne]; intro he
            rw [(less_congr (c := key) he).2, less_refl] at ho; cases ho
          clear HH HO HX HS g1 g2 ho hf
          go_wp2_with (go_at_call 69; refine (implReadBlock T _ _ HC.out _ hls).mono ?_; rintro e w7 ⟨v7, rfl, r7, b7⟩; have s7 := r7.slT (fun _ => rfl) (by decide); have hx7 := hal.trans (b7.mono hal.size); have x7 := hbl.trans (hx7.mono hbl.size); have C7 := CB.below hx7; have R7 := RB.below hx7; have V7 := VB.below hx7; have P7 := PB.below b7; have p0 := P7.cell 0 _ rfl; have v0 := V7.cell 0 _ rfl; have v1 := V7.cell 1 _ rfl; have v2 := V7.cell 2 _ rfl; have v3 := V7.cell 3 _ rfl; rw [hL] at s7; have q0 := R7.cell 0 _ rfl; have q1 := R7.cell 1 _ rfl; have q2 := R7.cell 2 _ rfl; have q3 := R7.cell 3 _ rfl; have qf := R7.frozen)
          refine bodyPost_ret (v := .tuple #[.agg #[.string (getE key seq (tabEnts t)).1.key, .int .i64 (getE key seq (tabEnts t)).1.seq, .bool (getE key seq (tabEnts t)).1.del, .string (getE key seq (tabEnts t)).1.val], .int .i64 ((m : Int) + 1)]) (by simp [results, Try.results13, go_sem, q0, q1, q2, q3]) rfl ?_
          refine ⟨by rw [HR.out, ← HG3.out] <;> rfl, ?_⟩
          repeat (refine Below.setCell ?_ (by simp <;> omega) _)
          exact x7
      · obtain ⟨g1, g2⟩ := HH.out hf
        have HG3 := Lib.hid g2
        have hfd : (getE key seq (tabEnts t)).2 = true := (congrArg Prod.snd g1).trans hf
        have hha : hasE L (getE key seq (tabEnts t)).1 = true := by have := HS.out; rw [hf, hfd, Bool.true_and] at this; exact this
        clear HH HO HX HS g1 g2 hf
        go_wp2_with (first | (go_at_call 69; refine (implReadBlock T _ _ HC.out _ hls).mono ?_; rintro e w7 ⟨v7, rfl, r7, b7⟩; have s7 := r7.slT (fun _ => rfl) (by decide); have hx7 := hal.trans (b7.mono hal.size); have x7 := hbl.trans (hx7.mono hbl.size); have C7 := CB.below hx7; have R7 := RB.below hx7; have V7 := VB.below hx7; have P7 := PB.below b7; have p0 := P7.cell 0 _ rfl; have v0 := V7.cell 0 _ rfl; have v1 := V7.cell 1 _ rfl; have v2 := V7.cell 2 _ rfl; have v3 := V7.cell 3 _ rfl; rw [hL] at s7) | (go_at_call 70; refine (containsEnt_any _ L (getE key seq (tabEnts t)).1 _ s7 (by omega)).mono ?_; rintro e w8 ⟨rfl, b8⟩; rw [hha]; have x8 := x7.trans (b8.mono x7.size); have C8 := C7.below b8; have R8 := R7.below b8; have V8 := V7.below b8; have P8 := P7.below b8; have p8 := P8.cell 0 _ rfl; have u0 := V8.cell 0 _ rfl; have u1 := V8.cell 1 _ rfl; have u2 := V8.cell 2 _ rfl; have u3 := V8.cell 3 _ rfl; have q0 := R8.cell 0 _ rfl; have q1 := R8.cell 1 _ rfl; have q2 := R8.cell 2 _ rfl; have q3 := R8.cell 3 _ rfl; have qf := R8.frozen))
        refine bodyPost_ret (v := .tuple #[.agg #[.string (getE key seq (tabEnts t)).1.key, .int .i64 (getE key seq (tabEnts t)).1.seq, .bool (getE key seq (tabEnts t)).1.del, .string (getE key seq (tabEnts t)).1.val], .int .i64 ((m : Int) + 1)]) (by simp [results, Try.results13, go_sem, q0, q1, q2, q3]) rfl ?_
        refine ⟨by rw [HR.out, ← HG3.out] <;> rfl, ?_⟩
        repeat (refine Below.setCell ?_ (by simp <;> omega) _)
        exact x8
    · obtain rfl : k = t.parts.length := by omega
      obtain ⟨g1, g2⟩ := HG.out.fin HT.out rfl
      have HG3 := Lib.hid g2
      have q0 := RB.cell 0 _ rfl
      have q1 := RB.cell 1 _ rfl
      have q2 := RB.cell 2 _ rfl
      have q3 := RB.cell 3 _ rfl
      have qf := RB.frozen
      have v0 := VB.cell 0 _ rfl
      have v1 := VB.cell 1 _ rfl
      have v2 := VB.cell 2 _ rfl
      have v3 := VB.cell 3 _ rfl
      clear g1 g2 hsh
      go_wp2
      refine bodyPost_ret (v := .tuple #[.agg #[.string (getE key seq (tabEnts t)).1.key, .int .i64 (getE key seq (tabEnts t)).1.seq, .bool (getE key seq (tabEnts t)).1.del, .string (getE key seq (tabEnts t)).1.val], .int .i64 (m : Nat)]) (by simp [results, Try.results13, go_sem, q0, q1, q2, q3]) rfl ?_
      refine ⟨by rw [HR.out, ← HG3.out] <;> rfl, ?_⟩
      repeat (refine Below.setCell ?_ (by simp <;> omega) _)
      exact hbl
end Go.Proofs.Ytfbbdnicplbmdaa

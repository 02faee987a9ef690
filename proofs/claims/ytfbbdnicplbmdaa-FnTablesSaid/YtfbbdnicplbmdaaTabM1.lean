
/- Walks: the laws' helper that marks a row of Ent, nil or not, said of rows. -/
import Derived.Test.YtfbbdnicplbmdaaTypes
import Derived.Test.YtfbbdnicplbmdaaLaws
import Derived.Test.YtfbbdnicplbmdaaRep
import Derived.Test.YtfbbdnicplbmdaaSlices
import Derived.WalkKit
import Derived.WalkSpells
import Derived.WalkLawsBesides
import Derived.BigQuiet
import Derived.Lib.QuietBelow
import Derived.Lib.Hide
import Derived.Test.YtfbbdnicplbmdaaOpen
import Derived.Lib.SmallJoins
import Derived.Carry
import Derived.Test.YtfbbdnicplbmdaaRBlkP
import Derived.Test.YtfbbdnicplbmdaaBloomQ
import Derived.Test.YtfbbdnicplbmdaaMemG
import Derived.Test.YtfbbdnicplbmdaaMemR
import Derived.Test.YtfbbdnicplbmdaaTouch
import Derived.Deep.Upon
import Derived.Maps.AppendAt
import Derived.Deep.RegionLaw
import Derived.Test.YtfbbdnicplbmdaaRdW
import Derived.Test.YtfbbdnicplbmdaaBlkP
import Derived.Test.YtfbbdnicplbmdaaMemW
import Derived.Deep.DeepCutAuto
import Derived.Lib.Builder
import Derived.Lib.AppendStr
import Derived.Lib.UnsafeStr
import Derived.Laws.Externs
import Derived.Lib.SliceRun
import Derived.Test.YtfbbdnicplbmdaaFixedI
import Derived.Test.YtfbbdnicplbmdaaShelf
import Derived.Deep.RegionHeld3
/- Walks: the laws' helpers for Part: its size, its copy, its comparison. -/
set_option linter.unusedVariables false
set_option linter.unusedSimpArgs false
namespace Go.Proofs.Ytfbbdnicplbmdaa
open Go.RowKit Sp Go.Sort

theorem info_Part : (Try.prog.info? 99).map (fun i => (i.zero, i.size, i.bytes)) = some (some (.agg #[.string ByteArray.empty, .string ByteArray.empty]), 2, 32) := by kernel_rfl

theorem PartR.len (x : PartR) : x.cells.length = 2 := rfl

set_option maxRecDepth 100000 in
set_option maxHeartbeats 400000 in
theorem szPart_any (x : PartR) (hx : x.ok) (left : Int) (w : World) (h0 : 0 ≤ left) (h1 : left ≤ 1048576) :
    Calls Try.prog 173 #[.agg #[.string x.last, .string x.text], .int .i64 left] w fun e w' => e = .returned (.int .i64 (dec left x.sz)) ∧ Below w.heap.size w w' := by
  obtain ⟨last, text⟩ := x
  obtain ⟨hx0, hx1⟩ := hx
  simp only [szOk, inI64] at hx0 hx1
  by_cases c0 : left - (last.size : Int) < 0
  · go_enter Try.func173, Try.ntmps173
    go_wp2
    go_ret
    exact ⟨by rw [dec_neg (by simp only [PartR.sz]; omega)]; rfl, (Below.refl _ _).alloc (Nat.le_refl _) _⟩
  by_cases c1 : left - (last.size : Int) - (text.size : Int) < 0
  · go_enter Try.func173, Try.ntmps173
    go_wp2
    go_ret
    exact ⟨by rw [dec_neg (by simp only [PartR.sz]; omega)]; rfl, (Below.refl _ _).alloc (Nat.le_refl _) _⟩
  go_enter Try.func173, Try.ntmps173
  go_wp2
  go_ret
  exact ⟨by rw [dec_pos (by simp only [PartR.sz]; omega)] <;> exact ret_int (by simp only [PartR.sz] <;> omega), (Below.refl _ _).alloc (Nat.le_refl _) _⟩

set_option maxRecDepth 100000 in
set_option maxHeartbeats 800000 in
theorem szPartS_any (v : Value) (l : List PartR) (hok : ∀ x ∈ l, x.ok) (left : Int) (w : World) (h : SlT PartR.cells 2 w v l) (h0 : 0 ≤ left) (h1 : left ≤ 1048576) :
    Calls Try.prog 130 #[v, .int .i64 left] w fun e w' => e = .returned (.int .i64 (dec left (l.length + sumSz PartR.sz l))) ∧ Below w.heap.size w w' := by
  obtain ⟨ao, cap, rfl, hlc, hcm, hsh⟩ := h.shape
  have hnn := sumSz_nonneg PartR.sz_nonneg l
  by_cases hn : left - (l.length : Int) < 0
  · clear hsh h
    go_enter Try.func130, Try.ntmps130
    go_wp2
    go_ret
    exact ⟨by rw [dec_neg (by omega)]; rfl, Below.refl _ _⟩
  have hn' : decide (left - (l.length : Int) < 0) = false := decide_eq_false hn
  go_enter Try.func130, Try.ntmps130
  go_wp2
  go_loopw [1, 5] (fun a i wr => ∃ k : Nat, (k : Int) ≤ l.length ∧ i = .int .i64 k ∧ a = .int .i64 (left - l.length - sumSz PartR.sz (l.take k)) ∧ 0 ≤ left - l.length - sumSz PartR.sz (l.take k) ∧ Below w.heap.size w wr) (fun _ i _ => l.length - (intOf i).toNat)
  case atStart => exact ⟨0, by omega, rfl, by simp [sumSz], by simp [sumSz]; omega, Below.refl _ _⟩
  case round =>
    obtain ⟨k, hk, rfl, rfl, hge, hbl⟩ := hrel
    have hnk := sumSz_nonneg PartR.sz_nonneg (l.take k)
    by_cases hlt : (k : Int) < l.length
    · have hltn : k < l.length := by omega
      obtain ⟨b, off, rfl, hbc, hcc⟩ := hsh (by omega)
      have c0 : wr.cell? ⟨b, off + k * 2, none⟩ = some (.string l[k].last) := (hbl.cell (by exact hbc)).trans (hcc k hltn 0 _ rfl)
      have c1 : wr.cell? ⟨b, off + k * 2 + 1, none⟩ = some (.string l[k].text) := (hbl.cell (by exact hbc)).trans (hcc k hltn 1 _ rfl)
      have hst := sumSz_step PartR.sz l k hltn
      have hmo := sumSz_take_le PartR.sz_nonneg l (k + 1)
      have hxo := hok l[k] (by simp)
      have hzz := PartR.sz_nonneg l[k]
      have HST := Lib.hid hst
      have HC := Lib.hid hcc
      have HS := Lib.hid hsh
      have HX := Lib.hid hxo
      have HO := Lib.hid hok
      clear hst hcc hsh h hxo hok
      generalize sumSz PartR.sz (l.take k) = q at *
      by_cases hd : left - l.length - q - PartR.sz l[k] < 0
      · have hdd := dec_neg hd
        go_wp2_with (go_at_call 173; refine (szPart_any l[k] HX.out _ _ (by omega) (by omega)).mono ?_; rintro e w1 ⟨rfl, hb1⟩; have hb2 := hbl.trans (hb1.mono hbl.size))
        go_ret
        exact ⟨by rw [dec_neg (by have := HST.out; omega)]; rfl, hb2⟩
      · have hdd := dec_pos hd
        have hd' : 0 ≤ left - l.length - q - PartR.sz l[k] := by omega
        have hd'' : decide (left - l.length - q - PartR.sz l[k] < 0) = false := decide_eq_false hd
        go_wp2_with (go_at_call 173; refine (szPart_any l[k] HX.out _ _ (by omega) (by omega)).mono ?_; rintro e w1 ⟨rfl, hb1⟩; have hb2 := hbl.trans (hb1.mono hbl.size))
        go_roundw
        case rel => exact ⟨k + 1, by omega, by go_num, by rw [HST.out]; exact congrArg (Value.int .i64) (by omega), by rw [HST.out]; omega, hb2⟩
        case measure => simp [intOf]; omega
    · obtain rfl : k = l.length := by omega
      rw [List.take_length] at *
      clear hsh h hok
      go_wp2
      go_ret
      exact ⟨by rw [dec_pos (by omega)]; exact ret_int (by omega), hbl⟩

set_option maxRecDepth 100000 in
set_option maxHeartbeats 400000 in
theorem toPart_any (last : ByteArray) (text : ByteArray) (w : World) :
    Calls Try.prog 174 #[.agg #[.string last, .string text]] w fun e w' => e = .returned (.agg #[.string last, .string text]) ∧ Below w.heap.size w w' := by
  go_enter Try.func174, Try.ntmps174
  go_wp2
  refine bodyPost_ret (v := .agg #[.string last, .string text]) (by simp [results, Try.results174, go_sem]) rfl ⟨rfl, ?_⟩
  repeat (first | exact Below.refl _ _ | refine Below.setCell ?_ (by simp <;> omega) _ | refine Below.alloc ?_ (by simp <;> omega) _)

theorem zeros_Part (n : Nat) : (madeCells (Value.agg #[.string ByteArray.empty, .string ByteArray.empty]).cells (n * 2)).toList = (List.replicate n [.string ByteArray.empty, .string ByteArray.empty]).flatten := madeCells_rows #[.string ByteArray.empty, .string ByteArray.empty] n
set_option maxRecDepth 100000 in
set_option maxHeartbeats 800000 in
theorem toPartS_any (v : Value) (l : List PartR) (w : World) (h : SlT PartR.cells 2 w v l) (hl : (l.length : Int) ≤ 1048576) :
    Calls Try.prog 133 #[v] w fun e w' => ∃ g, e = .returned (.slice (some ⟨g, 0, none⟩) l.length l.length) ∧ w'.ownsRow w.heap.size 99 2 (.slice (some ⟨g, 0, none⟩) l.length l.length) l.length (l.map PartR.cells).flatten ∧ Below w.heap.size w w' := by
  obtain ⟨ao, cap, rfl, hlc, hcm, hsh⟩ := h.shape
  go_enter Try.func133, Try.ntmps133
  go_wp2_with (at_make; refine mk_full rfl rfl Try.underlying24 info_Part l.length rfl rfl rfl (by omega) w.heap.size (Below.refl _ _) (Nat.le_refl _) (Nat.le_refl _) ?_; intro w1 hown hb1 hg1)
  rw [zeros_Part] at hown
  clear hg1
  go_loopw [4] (fun i wr => ∃ k : Nat, (k : Int) ≤ l.length ∧ i = .int .i64 k ∧ wr.ownsRow w.heap.size 99 2 (.slice (some ⟨w.heap.size, 0, none⟩) l.length l.length) l.length (copied (l.map PartR.cells) [.string ByteArray.empty, .string ByteArray.empty] k).flatten ∧ Below w.heap.size w wr) (fun i _ => l.length - (intOf i).toNat)
  case atStart => exact ⟨0, by omega, rfl, by rw [copied_zero, List.length_map]; exact hown, hb1⟩
  case round =>
    obtain ⟨k, hk, rfl, hr, hbl⟩ := hrel
    by_cases hlt : (k : Int) < l.length
    · have hltn : k < l.length := by omega
      obtain ⟨b, off, rfl, hbc, hcc⟩ := hsh (by omega)
      have c0 : wr.cell? ⟨b, off + k * 2, none⟩ = some (.string l[k].last) := (hbl.cell (by exact hbc)).trans (hcc k hltn 0 _ rfl)
      have c1 : wr.cell? ⟨b, off + k * 2 + 1, none⟩ = some (.string l[k].text) := (hbl.cell (by exact hbc)).trans (hcc k hltn 1 _ rfl)
      have hst := copied_step (l.map PartR.cells) [.string ByteArray.empty, .string ByteArray.empty] k (by simpa using hltn)
      rw [List.getElem_map] at hst
      have HST := Lib.hid hst
      have HR := Lib.hid hr
      have HC := Lib.hid hcc
      have HS := Lib.hid hsh
      clear hst hcc hsh h hr hown
      go_wp2_with (go_at_call 174; refine (toPart_any _ _ _).mono ?_; rintro e w2 ⟨rfl, hb2⟩; have hr2 := own_below HR.out hb2; have hb3 := hbl.trans (hb2.mono hbl.size); obtain ⟨u0, q0⟩ := cell_owns hr2 (k * 2) (by omega); have fz0 := hr2.frozenAt; have hs0 := (hr2.stored (k * 2) (.string l[k].last)).1; obtain ⟨u1, q1⟩ := cell_owns hs0 (k * 2 + 1) (by omega); have fz1 := hs0.frozenAt; have hsz2 : w.heap.size < w2.heap.size := (hr2.lt _ rfl).2)
      have hs := own_row2 hr2 (copied_size (size := 2) (ll := l.map PartR.cells) (z := [.string ByteArray.empty, .string ByteArray.empty]) (k := k) (fun c hc => by obtain ⟨x, _, rfl⟩ := List.mem_map.1 hc; rfl) rfl) k (by rw [copied_length (by simp; omega)]; simpa using hltn) (.string l[k].last) (.string l[k].text)
      go_roundw
      case rel => exact ⟨k + 1, by omega, by go_num, by rw [HST.out]; exact hs, (Below.setCell (Below.setCell hb3 (Nat.le_refl _) _) (Nat.le_refl _) _)⟩
      case measure => simp [intOf]; omega
    · obtain rfl : k = l.length := by omega
      clear hsh h hown
      go_wp2
      go_ret
      exact ⟨_, rfl, by rw [copied_full (by simp)] at hr; exact hr, hbl⟩

set_option maxRecDepth 100000 in
set_option maxHeartbeats 400000 in
theorem eqPart_any (last : ByteArray) (text : ByteArray) (w : World) :
    Calls Try.prog 172 #[.agg #[.string last, .string text], .agg #[.string last, .string text]] w fun e w' => e = .returned (.bool true) ∧ Below w.heap.size w w' := by
  go_enter Try.func172, Try.ntmps172
  go_wp2
  go_ret
  exact ⟨rfl, ((Below.refl _ _).alloc (Nat.le_refl _) _).alloc (by simp <;> omega) _⟩

set_option maxRecDepth 100000 in
set_option maxHeartbeats 800000 in
theorem eqPartS_any (v v' : Value) (l : List PartR) (w : World) (h : SlT PartR.cells 2 w v l) (h' : SlT PartR.cells 2 w v' l) (hl : (l.length : Int) ≤ 1048576) :
    Calls Try.prog 126 #[v, v'] w fun e w' => e = .returned (.bool true) ∧ Below w.heap.size w w' := by
  obtain ⟨ao, cap, rfl, hlc, hcm, hsh⟩ := h.shape
  obtain ⟨ao', cap', rfl, hlc', hcm', hsh'⟩ := h'.shape
  go_enter Try.func126, Try.ntmps126
  go_wp2
  go_loopw [5] (fun i wr => ∃ k : Nat, (k : Int) ≤ l.length ∧ i = .int .i64 k ∧ Below w.heap.size w wr) (fun i _ => l.length - (intOf i).toNat)
  case atStart => exact ⟨0, by omega, rfl, Below.refl _ _⟩
  case round =>
    obtain ⟨k, hk, rfl, hbl⟩ := hrel
    by_cases hlt : (k : Int) < l.length
    · have hltn : k < l.length := by omega
      obtain ⟨b, off, rfl, hbc, hcc⟩ := hsh (by omega)
      obtain ⟨b', off', rfl, hbd, hcd⟩ := hsh' (by omega)
      have c0 : wr.cell? ⟨b, off + k * 2, none⟩ = some (.string l[k].last) := (hbl.cell (by exact hbc)).trans (hcc k hltn 0 _ rfl)
      have c1 : wr.cell? ⟨b, off + k * 2 + 1, none⟩ = some (.string l[k].text) := (hbl.cell (by exact hbc)).trans (hcc k hltn 1 _ rfl)
      have d0 : wr.cell? ⟨b', off' + k * 2, none⟩ = some (.string l[k].last) := (hbl.cell (by exact hbd)).trans (hcd k hltn 0 _ rfl)
      have d1 : wr.cell? ⟨b', off' + k * 2 + 1, none⟩ = some (.string l[k].text) := (hbl.cell (by exact hbd)).trans (hcd k hltn 1 _ rfl)
      clear hsh h hsh' h' hcc hcd
      have kc0 := cell_regrown c0
      have kc1 := cell_regrown c1
      have kd0 := cell_regrown d0
      have kd1 := cell_regrown d1
      have cV : ∀ d os, Calls Try.prog 172 #[.agg #[.string l[k].last, .string l[k].text], .agg #[.string l[k].last, .string l[k].text]] (grow (redrawn wr d) os) fun e w'' => e = .returned (.bool true) ∧ ∃ p : Regrown, w'' = grow (redrawn wr p.d) p.os := fun d os => Calls.regrown_of (eqPart_any _ _ _)
      go_wp2
      refine wp_region_quiet_below (by kernel_rfl) (by kernel_rfl) ?_
      repeat (first | go_big_quiet_step (exact cV _ _) | go_big_quiet_step (fail))
      refine wpQuiet_nil ?_
      intro w2 hw'
      have hb2 : RowKit.Below w.heap.size w w2 := by obtain ⟨p, rfl⟩ := hw'; exact hbl.trans ((below_regrown _ _ _).mono hbl.size)
      clear hw' cV
      go_wp2
      go_roundw
      case rel => exact ⟨k + 1, by omega, by go_num, hb2⟩
      case measure => simp [intOf]; omega
    · obtain rfl : k = l.length := by omega
      clear hsh h hsh' h'
      go_wp2
      go_ret
      exact ⟨rfl, hbl⟩

end Go.Proofs.Ytfbbdnicplbmdaa
/- How a law's argument of type []Part is read. -/
set_option linter.unusedVariables false
namespace Go.Proofs.Ytfbbdnicplbmdaa
open Go.ChangeShapes Go.WideShapes Go.Deep Go.RowKit Sp

set_option maxRecDepth 100000 in
theorem openPart_at {H : Type} {enc : TypeId × Value → H} {w : World} {base : Nat} {spare : Nat → Bool} {held : Bool} {v : Value} {fuel : Nat} {x : DataW H × List MemPlace} (h : DataW.trod enc Try.prog w base spare held fuel 83 [v] = some x) :
    ∃ l : List PartR, SlT PartR.cells 2 w v l ∧ ∀ x ∈ l, x.ok := by
  refine open_recs_at Try.underlying83 Try.underlying191 (by kernel_rfl) (by kernel_rfl) (fun _ => rfl) (by decide) (fun g hg => ?_) h
  obtain ⟨n, hg⟩ := hg
  obtain ⟨c0, y0, e0, t0⟩ := hg 0 _ rfl
  obtain ⟨x0, h0, _, k0⟩ := DataW.trod_string Try.underlying9 t0
  obtain rfl : c0 = _ := List.head_eq_of_cons_eq h0
  obtain ⟨c1, y1, e1, t1⟩ := hg 1 _ rfl
  obtain ⟨x1, h1, _, k1⟩ := DataW.trod_string Try.underlying9 t1
  obtain rfl : c1 = _ := List.head_eq_of_cons_eq h1
  refine ⟨⟨x0, x1⟩, ⟨szOk_max k0, szOk_max k1⟩, fun j u hj => ?_⟩
  match j, hj with
  | 0, hj => obtain rfl := Option.some.inj hj; exact e0
  | 1, hj => obtain rfl := Option.some.inj hj; exact e1
  | j + 2, hj => simp [PartR.cells] at hj
set_option maxRecDepth 100000 in
theorem openPart {H : Type} {enc : TypeId × Value → H} {w : World} {base b0 : Nat} {spare : Nat → Bool} {held : Bool} {r : Reach} {v : Value} {d : DataW H} {p : List MemPlace} (hv : Value.okWide Try.prog w r b0 83 v) (h : DataW.Trod enc Try.prog w base spare held 83 v d p) :
    ∃ l : List PartR, SlT PartR.cells 2 w v l ∧ ∀ x ∈ l, x.ok := by
  obtain ⟨a, len, cap, rfl⟩ := okWide_slice Try.underlying83 hv
  obtain ⟨fuel, hf⟩ := h
  exact openPart_at hf
end Go.Proofs.Ytfbbdnicplbmdaa
/- Walks: the laws' helpers for Table. -/
set_option linter.unusedVariables false
set_option linter.unusedSimpArgs false
namespace Go.Proofs.Ytfbbdnicplbmdaa
open Go.RowKit Sp Go.Sort

namespace Sp
structure TabR where
  parts : List PartR
  bloom : ByteArray
  top : Int
end Sp
/-- The value v reads as the record. -/
def IsTable (w : World) (v : Value) (d : TabR) : Prop := ∃ s0 : Value, v = .agg #[s0, .string d.bloom, .int .i64 d.top] ∧ SlT PartR.cells 2 w s0 d.parts
theorem IsTable.below {w w' : World} {v : Value} {d : TabR} (h : IsTable w v d) (hb : Below w.heap.size w w') : IsTable w' v d := by
  obtain ⟨s0, rfl, h0⟩ := h
  exact ⟨s0, rfl, h0.below hb⟩
def Sp.TabR.ok (d : TabR) : Prop := (∀ x ∈ d.parts, x.ok) ∧ szOk d.bloom ∧ inI64 d.top
def Sp.TabR.sz (d : TabR) : Int := ((d.parts.length : Int) + sumSz PartR.sz d.parts) + (d.bloom.size : Int)
theorem Sp.TabR.sz_nonneg (d : TabR) : 0 ≤ d.sz := by unfold TabR.sz; have := sumSz_nonneg PartR.sz_nonneg d.parts; omega
set_option maxRecDepth 100000 in
set_option maxHeartbeats 800000 in
theorem szTable_any (v : Value) (d : TabR) (hd : d.ok) (left : Int) (w : World) (h : IsTable w v d) (hl0 : 0 ≤ left) (hl1 : left ≤ 1048576) :
    Calls Try.prog 57 #[v, .int .i64 left] w fun e w' => e = .returned (.int .i64 (dec left d.sz)) ∧ Below w.heap.size w w' := by
  obtain ⟨s0, rfl, h0⟩ := h
  obtain ⟨k0, k1, k2⟩ := hd
  simp only [szOk, inI64] at k1 k2
  have hbox : ∀ o : Obj, RowKit.Below w.heap.size w (w.alloc o) := fun o => (Below.refl _ _).alloc (Nat.le_refl _) _
  have HZ := Lib.hid (show d.sz = ((d.parts.length : Int) + sumSz PartR.sz d.parts) + (d.bloom.size : Int) from rfl)
  have n0 := sumSz_nonneg PartR.sz_nonneg d.parts
  generalize d.sz = z at *
  generalize hz0 : sumSz PartR.sz d.parts = z0 at *; have HZ0 := Lib.hid hz0; clear hz0
  by_cases c0 : left - ((d.parts.length : Int) + z0) < 0
  · have Q0 := dec_neg c0
    go_enter Try.func57, Try.ntmps57
    go_wp2_with (go_at_call 130; refine (szPartS_any s0 _ k0 _ _ (h0.below (hbox _)) (by omega) (by omega)).mono ?_; rintro e w0 ⟨rfl, b0⟩; rw [HZ0.out, Q0]; have x0 := Below.trans (hbox _) (b0.mono (Below.size (hbox _))); obtain ⟨hc0, hf0⟩ := bcell b0; have ca0 := fun o => hc0 w.heap.size o (by simp <;> omega); clear hc0 hf0)
    go_ret
    exact ⟨by rw [dec_neg (by have := HZ.out; omega)] <;> rfl, x0⟩
  have Q0 := dec_pos c0
  have D0 : decide (left - ((d.parts.length : Int) + z0) < 0) = false := decide_eq_false c0
  by_cases c1 : left - ((d.parts.length : Int) + z0) - (d.bloom.size : Int) < 0
  · skip
    go_enter Try.func57, Try.ntmps57
    go_wp2_with (go_at_call 130; refine (szPartS_any s0 _ k0 _ _ (h0.below (hbox _)) (by omega) (by omega)).mono ?_; rintro e w0 ⟨rfl, b0⟩; rw [HZ0.out, Q0]; have x0 := Below.trans (hbox _) (b0.mono (Below.size (hbox _))); obtain ⟨hc0, hf0⟩ := bcell b0; have ca0 := fun o => hc0 w.heap.size o (by simp <;> omega); clear hc0 hf0)
    go_ret
    exact ⟨by rw [dec_neg (by have := HZ.out; omega)] <;> rfl, x0⟩
  go_enter Try.func57, Try.ntmps57
  go_wp2_with (go_at_call 130; refine (szPartS_any s0 _ k0 _ _ (h0.below (hbox _)) (by omega) (by omega)).mono ?_; rintro e w0 ⟨rfl, b0⟩; rw [HZ0.out, Q0]; have x0 := Below.trans (hbox _) (b0.mono (Below.size (hbox _))); obtain ⟨hc0, hf0⟩ := bcell b0; have ca0 := fun o => hc0 w.heap.size o (by simp <;> omega); clear hc0 hf0)
  go_ret
  exact ⟨by rw [dec_pos (by have := HZ.out; omega)] <;> exact ret_int (by have := HZ.out; omega), x0⟩

set_option maxRecDepth 100000 in
set_option maxHeartbeats 800000 in
theorem toTable_any (v : Value) (d : TabR) (w : World) (h : IsTable w v d) (l0 : (d.parts.length : Int) ≤ 1048576) :
    Calls Try.prog 59 #[v] w fun e w' => ∃ g0, e = .returned (.agg #[(.slice (some ⟨g0, 0, none⟩) d.parts.length d.parts.length), .string d.bloom, .int .i64 d.top]) ∧ w'.ownsRow w.heap.size 99 2 (.slice (some ⟨g0, 0, none⟩) d.parts.length d.parts.length) d.parts.length (d.parts.map PartR.cells).flatten ∧ Below w.heap.size w w' := by
  obtain ⟨s0, rfl, h0⟩ := h
  have hbox : ∀ o₁ o₂ o₃ : Obj, RowKit.Below w.heap.size w (((w.alloc o₁).alloc o₂).alloc o₃) := fun o₁ o₂ o₃ => (((Below.refl _ _).alloc (Nat.le_refl _) _).alloc (by simp <;> omega) _).alloc (by simp <;> omega) _
  go_enter Try.func59, Try.ntmps59
  go_wp2_with (go_at_call 133; refine (toPartS_any s0 _ _ (h0.below (hbox _ _ _)) l0).mono ?_; rintro e w0 ⟨g0, rfl, o0, b0⟩; have x0 := Below.trans (hbox _ _ _) (b0.mono (Below.size (hbox _ _ _))); obtain ⟨hc0, hf0⟩ := bcell b0; have ca00 := fun o => hc0 w.heap.size o (by simp <;> omega); have fa00 := fun o => hf0 w.heap.size o (by simp <;> omega); have ca01 := fun o => hc0 (w.heap.size + 1) o (by simp <;> omega); have fa01 := fun o => hf0 (w.heap.size + 1) o (by simp <;> omega); have ca02 := fun o => hc0 (w.heap.size + 1 + 1) o (by simp <;> omega); have fa02 := fun o => hf0 (w.heap.size + 1 + 1) o (by simp <;> omega); clear hc0 hf0)
  refine bodyPost_ret (v := .agg #[(.slice (some ⟨g0, 0, none⟩) d.parts.length d.parts.length), .string d.bloom, .int .i64 d.top]) (by simp [results, Try.results59, go_sem, ca00, ca01, ca02]) rfl ⟨g0, rfl, own_mono (own_other (own_other (own_other (own_other (own_other (own_other o0 _ (by simp <;> omega) _) _ (by simp <;> omega) _) _ (by simp <;> omega) _) _ (by simp <;> omega) _) _ (by simp <;> omega) _) _ (by simp <;> omega) _) (by simp <;> omega), (Below.setCell (Below.setCell (Below.setCell (Below.setCell (Below.setCell (Below.setCell x0 (by simp <;> omega) _) (by simp <;> omega) _) (by simp <;> omega) _) (by simp <;> omega) _) (by simp <;> omega) _) (by simp <;> omega) _)⟩
theorem toTable_is (v : Value) (d : TabR) (w : World) (h : IsTable w v d) (l0 : (d.parts.length : Int) ≤ 1048576) :
    Calls Try.prog 59 #[v] w fun e w' => ∃ v', e = .returned v' ∧ IsTable w' v' d ∧ Below w.heap.size w w' := by
  refine (toTable_any v d w h l0).mono ?_
  rintro e w' ⟨g0, he, o0, hb⟩
  exact ⟨_, he, ⟨_, rfl, SlT.of_own o0 (fun _ => rfl) (by omega)⟩, hb⟩

set_option maxRecDepth 100000 in
set_option maxHeartbeats 800000 in
theorem eqTable_any (v v' : Value) (d : TabR) (w : World) (h : IsTable w v d) (h' : IsTable w v' d) (l0 : (d.parts.length : Int) ≤ 1048576) :
    Calls Try.prog 52 #[v, v'] w fun e w' => e = .returned (.bool true) ∧ Below w.heap.size w w' := by
  obtain ⟨s0, rfl, h0⟩ := h
  obtain ⟨t0, rfl, m0⟩ := h'
  have hbox : ∀ o₁ o₂ : Obj, RowKit.Below w.heap.size w ((w.alloc o₁).alloc o₂) := fun o₁ o₂ => ((Below.refl _ _).alloc (Nat.le_refl _) _).alloc (by simp <;> omega) _
  go_enter Try.func52, Try.ntmps52
  go_wp2_with (go_at_call 126; refine (eqPartS_any s0 t0 _ _ (h0.below (hbox _ _)) (m0.below (hbox _ _)) l0).mono ?_; rintro e w0 ⟨rfl, b0⟩; have x0 := Below.trans (hbox _ _) (b0.mono (Below.size (hbox _ _))); obtain ⟨hc0, hf0⟩ := bcell b0; have ca00 := fun o => hc0 w.heap.size o (by simp <;> omega); have fa00 := fun o => hf0 w.heap.size o (by simp <;> omega); have ca01 := fun o => hc0 (w.heap.size + 1) o (by simp <;> omega); have fa01 := fun o => hf0 (w.heap.size + 1) o (by simp <;> omega); clear hc0 hf0)
  go_ret
  exact ⟨rfl, x0⟩

set_option maxRecDepth 100000 in
theorem openTable {H : Type} {enc : TypeId × Value → H} {w : World} {base b0 : Nat} {spare : Nat → Bool} {held : Bool} {r : Reach} {v : Value} {x : DataW H} {p : List MemPlace} (hv : Value.okWide Try.prog w r b0 85 v) (h : DataW.Trod enc Try.prog w base spare held 85 v x p) :
    ∃ d : TabR, IsTable w v d ∧ d.ok := by
  obtain ⟨v0, v1, v2, y0, y1, y2, m, rfl, _, _, t0, t1, t2⟩ := Go.Joins.open_agg3 Try.underlying85 (by kernel_rfl) (by kernel_rfl) hv h
  obtain ⟨x0, h0, k0⟩ := openPart_at t0
  obtain ⟨x1, h1, _, k1⟩ := DataW.trod_string Try.underlying9 t1
  obtain rfl : v1 = _ := List.head_eq_of_cons_eq h1
  obtain ⟨x2, h2, _, k2⟩ := DataW.trod_int Try.underlying3 t2
  obtain rfl : v2 = _ := List.head_eq_of_cons_eq h2
  exact ⟨⟨x0, x1, x2⟩, ⟨_, rfl, h0⟩, k0, szOk_max k1, wf_inI64 k2⟩
end Go.Proofs.Ytfbbdnicplbmdaa
/- Plain: tables: their parts, their entries, what they answer and their texts. No program in sight. -/
set_option linter.unusedVariables false
set_option linter.unusedSimpArgs false
namespace Go.Proofs.Ytfbbdnicplbmdaa
open Sp
namespace Sp
/-- Two blocks of one text are one. -/
theorem BlkC.same_to {s : ByteArray} {L M : List EntR} (h : BlkC s L true) (g : BlkC s M true) : ∀ i, i ≤ L.length → i ≤ M.length → L.take i = M.take i ∧ (blkTo L i).length = (blkTo M i).length := by
  intro i
  induction i with
  | zero => intro _ _; exact ⟨by simp, rfl⟩
  | succ i ih =>
    intro hL hM
    obtain ⟨e1, e2⟩ := ih (by omega) (by omega)
    obtain ⟨p1, p2, p3, p5, t1, t2, t3, t4, t5, t6, t7, t8, t9, t10⟩ := h.ent rfl (i := i) (by omega)
    obtain ⟨q1, q2, q3, q5, u1, u2, u3, u4, u5, u6, u7, u8, u9, u10⟩ := g.ent rfl (i := i) (by omega)
    rw [e2, u1] at t1
    obtain ⟨a1, rfl⟩ := Prod.mk.inj (Option.some.inj t1)
    rw [u2] at t2
    obtain ⟨a2, rfl⟩ := Prod.mk.inj (Option.some.inj t2)
    rw [u3] at t3
    obtain ⟨a3, rfl⟩ := Prod.mk.inj (Option.some.inj t3)
    rw [u6] at t6
    obtain ⟨a6, rfl⟩ := Prod.mk.inj (Option.some.inj t6)
    rw [u4] at t4
    have a4 : M[i].del = L[i].del := by
      revert t4
      cases M[i].del <;> cases L[i].del <;> simp [flagL]
    have ak : M[i].key = L[i].key := by rw [a1] at a2; rw [← t9, ← u9, e1, a1, a2]
    have a5 : M[i].seq = L[i].seq := by rw [← t10, ← u10, a3]
    have ae : L[i] = M[i] := by
      rcases hx : L[i] with ⟨k, q, d, v⟩
      rcases hy : M[i] with ⟨k', q', d', v'⟩
      rw [hx, hy] at ak a5 a4 a6
      simp only at ak a5 a4 a6
      rw [ak, a5, a4, a6]
    refine ⟨?_, by rw [← t7, ← u7]⟩
    rw [List.take_succ_eq_append_getElem (by omega), List.take_succ_eq_append_getElem (by omega), e1, ae]
theorem BlkC.uniq {s : ByteArray} {L M : List EntR} (h : BlkC s L true) (g : BlkC s M true) : L = M := by
  have key : ∀ {A B : List EntR}, BlkC s A true → BlkC s B true → A.length ≤ B.length → A = B := by
    intro A B hA hB hle
    obtain ⟨e1, e2⟩ := BlkC.same_to hA hB A.length (Nat.le_refl _) hle
    have l1 := (hA.end_eq rfl).1
    have l2 := (hB.end_eq rfl).1
    have := (blkTo_pre (L := B) A.length (B.length - A.length) (by omega)).2
    rw [show A.length + (B.length - A.length) = B.length from by omega] at this
    have hl : A.length = B.length := by omega
    rw [List.take_length, hl, List.take_length] at e1
    exact e1
  rcases Nat.le_total L.length M.length with hl | hl
  · exact key h g hl
  · exact (key g h hl).symm
theorem BlkC.ex2 (s : ByteArray) : ∃ p : List EntR × Bool, BlkC s p.1 p.2 := by
  obtain ⟨L, b, h⟩ := BlkC.exists s
  exact ⟨(L, b), h⟩
/-- The block that a string is the text of; whether there is one. -/
noncomputable def rdBlk (s : ByteArray) : List EntR := (Classical.choose (BlkC.ex2 s)).1
noncomputable def rdOk (s : ByteArray) : Bool := (Classical.choose (BlkC.ex2 s)).2
theorem rdBlk_c (s : ByteArray) : BlkC s (rdBlk s) (rdOk s) := Classical.choose_spec (BlkC.ex2 s)
theorem rdBlk_of {l : List EntR} (h : blockB l = true) : rdBlk (str (showBlkL l)) = l ∧ rdOk (str (showBlkL l)) = true := by
  have hC := rdBlk_c (str (showBlkL l))
  have h2 : BlkC (str (showBlkL l)) l true := ⟨fun _ => ⟨h, (str_data _).symm⟩, fun h => by cases h⟩
  rcases hb : rdOk (str (showBlkL l)) with _ | _
  · rw [hb] at hC
    exact absurd (str_data _).symm ((hC.no rfl).2 l h)
  · rw [hb] at hC
    exact ⟨hC.uniq h2, rfl⟩
theorem rdBlk_not {s : ByteArray} (h : rdOk s = false) : rdBlk s = [] := by
  have hC := rdBlk_c s
  rw [h] at hC
  exact (hC.no rfl).1
theorem rdBlk_len (s : ByteArray) : (rdBlk s).length ≤ 16 := by have := (rdBlk_c s).len; omega
theorem rdBlk_size (s : ByteArray) : (rdBlk s).length ≤ s.size := by
  have hC := rdBlk_c s
  rcases hb : rdOk s with _ | _
  · rw [rdBlk_not hb]; simp
  · rw [hb] at hC
    have h1 := hC.end_eq rfl
    have := (blkTo_pre (L := rdBlk s) 0 (rdBlk s).length (by omega)).2
    rw [Nat.zero_add] at this
    omega
/-- Six entries make a part. -/
def chk (l : List EntR) (j : Nat) : List EntR := (l.drop (6 * j)).take 6
def prt (l : List EntR) (j : Nat) : PartR := ⟨lastK (chk l j), str (showBlkL (chk l j))⟩
def prts (l : List EntR) (n : Nat) : List PartR := (List.range n).map (prt l)
theorem prts_zero (l : List EntR) : prts l 0 = [] := rfl
theorem prts_succ (l : List EntR) (n : Nat) : prts l (n + 1) = prts l n ++ [prt l n] := by unfold prts; rw [List.range_succ, List.map_append]; rfl
theorem prts_len (l : List EntR) (n : Nat) : (prts l n).length = n := by simp [prts]
def nch (n : Nat) : Nat := (n + 5) / 6
def topTo (l : List EntR) : Nat → Int
  | 0 => 0
  | k + 1 => match l[k]? with
    | some e => if topTo l k < e.seq then e.seq else topTo l k
    | none => topTo l k
theorem topTo_step {l : List EntR} {k : Nat} (h : k < l.length) : topTo l (k + 1) = if topTo l k < l[k].seq then l[k].seq else topTo l k := by
  conv => lhs; unfold topTo
  simp only [List.getElem?_eq_getElem h]
def tabB (l : List EntR) : Bool := decide (0 < l.length) && memB l
theorem tabB_iff {l : List EntR} : tabB l = true ↔ 0 < l.length ∧ memB l = true := by simp [tabB]
def noTab : TabR := ⟨[], ByteArray.empty, 0⟩
def tabOk (l : List EntR) : TabR := ⟨prts l (nch l.length), str (bloomL (l.map (·.key)) 16), topTo l l.length⟩
def tabOf (l : List EntR) : TabR := if tabB l then tabOk l else noTab
theorem tabOf_yes {l : List EntR} (h : tabB l = true) : tabOf l = tabOk l := by simp [tabOf, h]
theorem tabOf_not {l : List EntR} (h : tabB l = false) : tabOf l = noTab := by simp [tabOf, h]
theorem mem_seq {l : List EntR} (h : memB l = true) (k : Nat) (hk : k < l.length) : 0 ≤ l[k].seq ∧ l[k].seq ≤ 1000000 := by
  have h1 := memB_ents h k hk
  have : entB l[k] = true := by
    by_cases h0 : k = 0
    · rwa [entAt_first hk h0] at h1
    · rw [entAt_next hk h0 (by omega)] at h1
      simp only [Bool.and_eq_true] at h1
      exact h1.1
  simp only [entB, Bool.and_eq_true, inB_iff] at this
  exact this.2
theorem topTo_bd {l : List EntR} (h : memB l = true) (k : Nat) (hk : k ≤ l.length) : 0 ≤ topTo l k ∧ topTo l k ≤ 1000000 := by
  induction k with
  | zero => exact ⟨Int.le_refl _, by show (0 : Int) ≤ _; omega⟩
  | succ k ih =>
    rw [topTo_step (by omega)]
    have := ih (by omega)
    have := mem_seq h k (by omega)
    split <;> omega
theorem chk_len {l : List EntR} {j : Nat} (h : 6 * j < l.length) : 1 ≤ (chk l j).length ∧ (chk l j).length ≤ 6 ∧ (chk l j).length ≤ l.length - 6 * j := by
  unfold chk; rw [List.length_take, List.length_drop]; omega
theorem lastK_at {l : List EntR} (h : 0 < l.length) : lastK l = (l[l.length - 1]'(by omega)).key := by
  have := lastK_take (L := l) (i := l.length - 1) (by omega)
  unfold lastK
  rw [List.getLast?_eq_getElem?, List.getElem?_eq_getElem (by omega)]
theorem chk_last {l : List EntR} {j i : Nat} (h : i < l.length) (h0 : 6 * j ≤ i) (h1 : i < 6 * j + 6) (he : i = 6 * j + 5 ∨ i = l.length - 1) : chk l j = (l.drop (6 * j)).take (i + 1 - 6 * j) ∧ lastK (chk l j) = l[i].key := by
  have e : chk l j = (l.drop (6 * j)).take (i + 1 - 6 * j) := by
    unfold chk
    rcases he with he | he
    · rw [show i + 1 - 6 * j = 6 from by omega]
    · rw [List.take_of_length_le (by rw [List.length_drop]; omega), List.take_of_length_le (by rw [List.length_drop]; omega)]
  refine ⟨e, ?_⟩
  have hl : (chk l j).length = i + 1 - 6 * j := by rw [e, List.length_take, List.length_drop]; omega
  rw [lastK_at (by omega)]
  congr 1
  simp only [e, List.getElem_take, List.getElem_drop]
  congr 1
  rw [e] at hl
  omega
/-- How many parts the reference has made of i entries. -/
def npt (l : List EntR) (i : Nat) : Nat := if i = l.length then nch i else i / 6
theorem npt_zero {l : List EntR} (h : 0 < l.length) : npt l 0 = 0 := by unfold npt; rw [if_neg (by omega)]
theorem npt_end (l : List EntR) : npt l l.length = nch l.length := by unfold npt; rw [if_pos rfl]
theorem npt_miss {l : List EntR} {i : Nat} (h : i < l.length) (h5 : i % 6 ≠ 5) (hl : i ≠ l.length - 1) : npt l (i + 1) = npt l i := by
  unfold npt; rw [if_neg (by omega), if_neg (by omega)]; omega
theorem npt_hit {l : List EntR} {i : Nat} (h : i < l.length) (h5 : i % 6 = 5 ∨ i = l.length - 1) : npt l i = i / 6 ∧ npt l (i + 1) = i / 6 + 1 := by
  unfold npt nch
  refine ⟨if_neg (by omega), ?_⟩
  split <;> omega
theorem prts_hit {l : List EntR} {i : Nat} (h : i < l.length) (h5 : i % 6 = 5 ∨ i = l.length - 1) :
    prts l (npt l (i + 1)) = prts l (npt l i) ++ [⟨l[i].key, str (showBlkL ((l.drop (i / 6 * 6)).take (i + 1 - i / 6 * 6)))⟩] := by
  obtain ⟨e1, e2⟩ := npt_hit h h5
  obtain ⟨c1, c2⟩ := chk_last (l := l) (j := i / 6) (i := i) h (by omega) (by omega) (by omega)
  rw [e1, e2, prts_succ]
  unfold prt
  rw [c2, c1, show 6 * (i / 6) = i / 6 * 6 from by omega]
theorem nch_le {n : Nat} (h : n ≤ 60) : nch n ≤ 10 := by unfold nch; omega
/-- The entries of parts, one after another. -/
noncomputable def flatT (ps : List PartR) : List EntR := ps.flatMap fun p => rdBlk p.text
noncomputable def okT (ps : List PartR) : Bool := ps.all fun p => rdOk p.text
theorem flatT_nil : flatT [] = [] := rfl
theorem flatT_cons (p : PartR) (ps : List PartR) : flatT (p :: ps) = rdBlk p.text ++ flatT ps := by unfold flatT; rw [List.flatMap_cons]
theorem flatT_append (a b : List PartR) : flatT (a ++ b) = flatT a ++ flatT b := by unfold flatT; rw [List.flatMap_append]
theorem flatT_step {ps : List PartR} {k : Nat} (h : k < ps.length) : flatT (ps.take (k + 1)) = flatT (ps.take k) ++ rdBlk ps[k].text := by
  rw [List.take_succ_eq_append_getElem h, flatT_append]; simp [flatT]
theorem flatT_take_le (ps : List PartR) (k : Nat) : (flatT (ps.take k)).length ≤ (flatT ps).length := by
  conv => rhs; rw [← List.take_append_drop k ps]
  rw [flatT_append, List.length_append]; omega
theorem flatT_len (ps : List PartR) : (flatT ps).length ≤ 16 * ps.length := by
  induction ps with
  | nil => simp [flatT]
  | cons p ps ih => rw [flatT_cons, List.length_append, List.length_cons]; have := rdBlk_len p.text; omega
theorem flatT_sz (ps : List PartR) : ((flatT ps).length : Int) ≤ sumSz PartR.sz ps := by
  induction ps with
  | nil => simp [flatT, sumSz]
  | cons p ps ih =>
    have := rdBlk_size p.text
    have e : sumSz PartR.sz (p :: ps) = p.sz + sumSz PartR.sz ps := by simp [sumSz]
    rw [e, flatT_cons, List.length_append]
    unfold PartR.sz at *
    omega
theorem okT_false {ps : List PartR} {k : Nat} (h : k < ps.length) (hb : rdOk ps[k].text = false) : okT ps = false := by
  unfold okT
  rw [Bool.eq_false_iff]
  intro ha
  rw [List.all_eq_true] at ha
  rw [ha _ (List.getElem_mem h)] at hb
  cases hb
theorem okT_true {ps : List PartR} (h : AllTo (fun k => match ps[k]? with | some p => rdOk p.text | none => false) ps.length) : okT ps = true := by
  unfold okT
  rw [List.all_eq_true]
  intro p hp
  obtain ⟨k, hk, rfl⟩ := List.getElem_of_mem hp
  have := h k hk
  simpa [hk] using this
def partEq (p q : PartR) : Bool := p.last.toList == q.last.toList && p.text.toList == q.text.toList
theorem bytes_inj {a b : ByteArray} (h : a.toList = b.toList) : a = b := by
  rw [toList_data, toList_data] at h
  rw [← str_of a, ← str_of b, h]
theorem partEq_iff {p q : PartR} : partEq p q = true ↔ p = q := by
  obtain ⟨a, b⟩ := p
  obtain ⟨c, d⟩ := q
  unfold partEq
  simp only [Bool.and_eq_true, beq_iff_eq]
  constructor
  · rintro ⟨h1, h2⟩; rw [bytes_inj h1, bytes_inj h2]
  · intro h; injection h with h1 h2; rw [h1, h2]; exact ⟨rfl, rfl⟩
def partsEq : List PartR → List PartR → Bool
  | [], [] => true
  | p :: a, q :: b => partEq p q && partsEq a b
  | _, _ => false
theorem partsEq_iff : ∀ a b : List PartR, partsEq a b = true ↔ a = b
  | [], [] => by simp [partsEq]
  | [], _ :: _ => by simp [partsEq]
  | _ :: _, [] => by simp [partsEq]
  | p :: a, q :: b => by simp [partsEq, partEq_iff, partsEq_iff a b]
theorem partsEq_len {a b : List PartR} (h : a.length ≠ b.length) : partsEq a b = false := by
  rw [Bool.eq_false_iff]; intro hc; rw [partsEq_iff] at hc; rw [hc] at h; exact h rfl
theorem partsEq_drop {a b : List PartR} {k : Nat} (h1 : k < a.length) (h2 : k < b.length) : partsEq (a.drop k) (b.drop k) = (partEq a[k] b[k] && partsEq (a.drop (k + 1)) (b.drop (k + 1))) := by
  rw [List.drop_eq_getElem_cons h1, List.drop_eq_getElem_cons h2]; rfl
theorem partsEq_end {a b : List PartR} (h : a.length = b.length) : partsEq (a.drop a.length) (b.drop a.length) = true := by
  rw [partsEq_iff, List.drop_length, h, List.drop_length]
def tabEq (a b : TabR) : Bool := a.bloom.toList == b.bloom.toList && (a.top == b.top && partsEq a.parts b.parts)
theorem tabEq_iff {a b : TabR} : tabEq a b = true ↔ a = b := by
  obtain ⟨a1, a2, a3⟩ := a
  obtain ⟨b1, b2, b3⟩ := b
  unfold tabEq
  simp only [Bool.and_eq_true, beq_iff_eq, partsEq_iff]
  constructor
  · rintro ⟨h1, h2, h3⟩; rw [bytes_inj h1, h2, h3]
  · intro h; injection h with h1 h2 h3; rw [h1, h2, h3]; exact ⟨rfl, rfl, rfl⟩
noncomputable def entsTB (t : TabR) : Bool := okT t.parts && (tabB (flatT t.parts) && tabEq (tabOf (flatT t.parts)) t)
noncomputable def tabEnts (t : TabR) : List EntR := if entsTB t then flatT t.parts else []
theorem tabEnts_yes {t : TabR} (h : entsTB t = true) : tabEnts t = flatT t.parts := by simp [tabEnts, h]
theorem tabEnts_not {t : TabR} (h : entsTB t = false) : tabEnts t = [] := by simp [tabEnts, h]
theorem entsTB_parts {t : TabR} (h : okT t.parts = false) : entsTB t = false := by simp [entsTB, h]
theorem entsTB_no {t : TabR} (h : tabB (flatT t.parts) = false) : entsTB t = false := by simp [entsTB, h]
theorem entsTB_eq {t : TabR} (h1 : okT t.parts = true) (h2 : tabB (flatT t.parts) = true) : entsTB t = tabEq (tabOf (flatT t.parts)) t := by simp [entsTB, h1, h2]
/-- A table that is right is what is made of its entries. -/
theorem entsTB_of {t : TabR} (h : entsTB t = true) : t = tabOk (tabEnts t) ∧ tabB (tabEnts t) = true ∧ okT t.parts = true := by
  rw [tabEnts_yes h]
  simp only [entsTB, Bool.and_eq_true] at h
  obtain ⟨h1, h2, h3⟩ := h
  rw [tabEq_iff, tabOf_yes h2] at h3
  exact ⟨h3.symm, h2, h1⟩
theorem entsTB_len {t : TabR} (h : entsTB t = true) : t.parts.length ≤ 10 ∧ (tabEnts t).length ≤ 60 ∧ 0 < (tabEnts t).length := by
  obtain ⟨h1, h2, _⟩ := entsTB_of h
  rw [tabB_iff] at h2
  have h60 := memB_len h2.2
  refine ⟨?_, h60, h2.1⟩
  rw [h1]
  show (prts (tabEnts t) (nch (tabEnts t).length)).length ≤ 10
  rw [prts_len]; exact nch_le h60
theorem entsTB_many {t : TabR} (h : 60 < t.parts.length) : entsTB t = false := by
  rw [Bool.eq_false_iff]; intro hc; have := (entsTB_len hc).1; omega
theorem noTab_not : entsTB noTab = false := by
  rw [Bool.eq_false_iff]; intro hc
  have := (entsTB_len hc).2.2
  rw [tabEnts_yes hc] at this
  simp [noTab, flatT] at this
/-- The text of a table. -/
def pcL (p : PartR) : List UInt8 := pieL p.last.data.toList ++ pieL p.text.data.toList
def pcsL (ps : List PartR) : List UInt8 := ps.flatMap pcL
theorem pcsL_nil : pcsL [] = [] := rfl
theorem pcsL_snoc (ps : List PartR) (p : PartR) : pcsL (ps ++ [p]) = pcsL ps ++ pcL p := by unfold pcsL; rw [List.flatMap_append, List.flatMap_singleton]
theorem pcsL_step {ps : List PartR} {k : Nat} (h : k < ps.length) : pcsL (ps.take (k + 1)) = pcsL (ps.take k) ++ pcL ps[k] := by rw [List.take_succ_eq_append_getElem h, pcsL_snoc]
theorem pcsL_drop {ps : List PartR} {k : Nat} (h : k < ps.length) : pcsL (ps.drop k) = pcL ps[k] ++ pcsL (ps.drop (k + 1)) := by
  rw [List.drop_eq_getElem_cons h]; unfold pcsL; rw [List.flatMap_cons]
def showTL (t : TabR) : List UInt8 := varL t.parts.length ++ (pcsL t.parts ++ (t.bloom.data.toList ++ varL t.top))
noncomputable def showTab (t : TabR) : List UInt8 := if entsTB t then showTL t else []
theorem showTab_yes {t : TabR} (h : entsTB t = true) : showTab t = showTL t := by simp [showTab, h]
theorem showTab_not {t : TabR} (h : entsTB t = false) : showTab t = [] := by simp [showTab, h]
end Sp
end Go.Proofs.Ytfbbdnicplbmdaa
/- Plain: what a table answers for a key, and how many of its parts are read for it. No program in sight. -/
set_option linter.unusedVariables false
set_option linter.unusedSimpArgs false
namespace Go.Proofs.Ytfbbdnicplbmdaa
open Sp
namespace Sp
theorem getE_cons (key : ByteArray) (seq : Int) (x : EntR) (t : List EntR) : getE key seq (x :: t) = if (x.key.toList == key.toList && decide (x.seq ≤ seq)) then (x, true) else getE key seq t := rfl
theorem getE_append (key : ByteArray) (seq : Int) (b : List EntR) : ∀ a : List EntR, getE key seq (a ++ b) = if (getE key seq a).2 then getE key seq a else getE key seq b
  | [] => by simp [getE]
  | x :: a => by
    rw [List.cons_append, getE_cons, getE_cons]
    by_cases h : (x.key.toList == key.toList && decide (x.seq ≤ seq)) = true
    · rw [if_pos h, if_pos h]; simp
    · rw [if_neg h, if_neg h]; exact getE_append key seq b a
theorem getE_not {key : ByteArray} {seq : Int} {l : List EntR} (h : (getE key seq l).2 = false) : getE key seq l = (zE, false) := by
  rcases getE_cases key seq l with ⟨j, hj, _, _, _, h4⟩ | ⟨_, h2⟩
  · rw [h4] at h; cases h
  · exact h2
def entEq (a b : EntR) : Bool := a.key.toList == b.key.toList && (a.seq == b.seq && (a.del == b.del && a.val.toList == b.val.toList))
theorem entEq_iff {a b : EntR} : entEq a b = true ↔ a = b := by
  obtain ⟨k, s, d, v⟩ := a
  obtain ⟨k', s', d', v'⟩ := b
  unfold entEq
  simp only [Bool.and_eq_true, beq_iff_eq]
  constructor
  · rintro ⟨h1, h2, h3, h4⟩; rw [bytes_inj h1, h2, h3, bytes_inj h4]
  · intro h; injection h with h1 h2 h3 h4; rw [h1, h2, h3, h4]; exact ⟨rfl, rfl, rfl, rfl⟩
def hasE (l : List EntR) (x : EntR) : Bool := l.any fun y => entEq y x
theorem hasE_iff {l : List EntR} {x : EntR} : hasE l x = true ↔ x ∈ l := by
  unfold hasE
  rw [List.any_eq_true]
  constructor
  · rintro ⟨y, hy, h⟩; rw [entEq_iff] at h; rw [← h]; exact hy
  · intro h; exact ⟨x, h, entEq_iff.2 rfl⟩
theorem entsB_chk {l : List EntR} (h : memB l = true) {j : Nat} (hj : 6 * j < l.length) : blockB (chk l j) = true := by
  obtain ⟨c1, c2, c3⟩ := chk_len hj
  unfold blockB
  rw [Bool.and_eq_true, inB_iff]
  refine ⟨by omega, entsB_true fun k hk => ?_⟩
  have hg : ∀ i (hi : i < (chk l j).length), (chk l j)[i] = l[6 * j + i]'(by omega) := fun i hi => by simp [chk]
  have hm := memB_ents h (6 * j + k) (by omega)
  by_cases h0 : k = 0
  · rw [entAt_first hk h0, hg k hk]
    by_cases h1 : 6 * j + k = 0
    · rwa [entAt_first (by omega) h1] at hm
    · rw [entAt_next (by omega) h1 (by omega)] at hm
      rw [Bool.and_eq_true] at hm
      exact hm.1
  · rw [entAt_next hk h0 (by omega), hg k hk, hg (k - 1) (by omega)]
    rw [entAt_next (by omega) (by omega) (by omega)] at hm
    have e : 6 * j + (k - 1) = 6 * j + k - 1 := by omega
    simpa only [e] using hm
theorem nch_lt {n j : Nat} (h : j < nch n) : 6 * j < n := by unfold nch at h; omega
theorem chk_drop (l : List EntR) (j : Nat) : l.drop (6 * j) = chk l j ++ l.drop (6 * (j + 1)) := by
  unfold chk
  have e : l.drop (6 * (j + 1)) = (l.drop (6 * j)).drop 6 := by rw [List.drop_drop]; congr 1
  rw [e, List.take_append_drop]
/-- The parts of a right table. -/
theorem part_at {t : TabR} (h : entsTB t = true) {k : Nat} (hk : k < t.parts.length) : 6 * k < (tabEnts t).length ∧ rdBlk t.parts[k].text = chk (tabEnts t) k ∧ t.parts[k].last = lastK (chk (tabEnts t) k) ∧ rdOk t.parts[k].text = true := by
  obtain ⟨h1, h2, _⟩ := entsTB_of h
  rw [tabB_iff] at h2
  have hp : t.parts = prts (tabEnts t) (nch (tabEnts t).length) := congrArg TabR.parts h1
  have hkn : k < nch (tabEnts t).length := by rw [hp, prts_len] at hk; exact hk
  have hlt := nch_lt hkn
  have e : t.parts[k] = prt (tabEnts t) k := by
    have : t.parts[k]? = some (prt (tabEnts t) k) := by rw [hp]; simp [prts, hkn]
    rw [List.getElem?_eq_getElem hk] at this
    exact Option.some.inj this
  obtain ⟨b1, b2⟩ := rdBlk_of (entsB_chk h2.2 hlt)
  rw [e]
  exact ⟨hlt, b1, rfl, b2⟩
theorem flat_drop {t : TabR} (h : entsTB t = true) : ∀ d k, k + d = t.parts.length → flatT (t.parts.drop k) = (tabEnts t).drop (6 * k) := by
  intro d
  induction d with
  | zero =>
    intro k hk
    obtain ⟨h1, h2, _⟩ := entsTB_of h
    have hp : t.parts.length = nch (tabEnts t).length := by
      have := congrArg (fun x => x.parts.length) h1
      rw [this]; exact prts_len _ _
    rw [List.drop_of_length_le (by omega), List.drop_of_length_le (by unfold nch at hp; omega)]
    rfl
  | succ d ih =>
    intro k hk
    have hlt : k < t.parts.length := by omega
    rw [List.drop_eq_getElem_cons hlt, flatT_cons, (part_at h hlt).2.1, ih (k + 1) (by omega), ← chk_drop]
noncomputable def rdsT (key : ByteArray) (seq : Int) : List PartR → Nat
  | [] => 0
  | p :: ps => if less p.last key then rdsT key seq ps else if (getE key seq (rdBlk p.text)).2 || less key p.last then 1 else rdsT key seq ps + 1
theorem rdsT_cons (key : ByteArray) (seq : Int) (p : PartR) (ps : List PartR) : rdsT key seq (p :: ps) = if less p.last key then rdsT key seq ps else if (getE key seq (rdBlk p.text)).2 || less key p.last then 1 else rdsT key seq ps + 1 := rfl
noncomputable def tabGet (t : TabR) (key : ByteArray) (seq : Int) : EntR × Nat := if entsTB t && bloomB t.bloom key then ((getE key seq (tabEnts t)).1, rdsT key seq t.parts) else (zE, 0)
theorem rdsT_le (key : ByteArray) (seq : Int) : ∀ ps : List PartR, rdsT key seq ps ≤ ps.length
  | [] => Nat.le_refl _
  | p :: ps => by
    have := rdsT_le key seq ps
    unfold rdsT
    split
    · simp; omega
    · split <;> simp <;> omega
/-- Both loops, k parts behind them, n of these read. -/
structure GI (t : TabR) (key : ByteArray) (seq : Int) (k n : Nat) : Prop where
  le : n ≤ k
  get : getE key seq (tabEnts t) = getE key seq ((tabEnts t).drop (6 * k))
  rds : n + rdsT key seq (t.parts.drop k) = rdsT key seq t.parts
theorem GI.start (t : TabR) (key : ByteArray) (seq : Int) : GI t key seq 0 0 := ⟨Nat.le_refl _, by simp, by simp⟩
theorem chk_at {l : List EntR} {k j : Nat} (hk : 6 * k < l.length) (hj : j < (chk l k).length) : ∃ h : 6 * k + j < l.length, (chk l k)[j] = l[6 * k + j] := by
  obtain ⟨c1, c2, c3⟩ := chk_len hk
  exact ⟨by omega, by simp [chk]⟩
theorem less_refl (a : ByteArray) : less a a = false := by unfold less; rw [bytesLess_eq]; exact decide_eq_false (List.lt_irrefl _)
theorem less_congr {a b c : ByteArray} (h : a.toList = b.toList) : less a c = less b c ∧ less c a = less c b := by unfold less; rw [h]; exact ⟨rfl, rfl⟩
theorem GI.skip {t : TabR} {key : ByteArray} {seq : Int} {k n : Nat} (hT : entsTB t = true) (h : GI t key seq k n) (hk : k < t.parts.length) (hl : less t.parts[k].last key = true) : GI t key seq (k + 1) n := by
  obtain ⟨p1, p2, p3, _⟩ := part_at hT hk
  have hm := (tabB_iff.1 (entsTB_of hT).2.1).2
  have hn : (getE key seq (chk (tabEnts t) k)).2 = false := by
    rcases getE_cases key seq (chk (tabEnts t) k) with ⟨j, hj, g1, g2, g3, g4⟩ | ⟨_, g2⟩
    · exfalso
      obtain ⟨hb, he⟩ := chk_at p1 hj
      rw [p3, lastK_at (by omega)] at hl
      obtain ⟨hb', he'⟩ := chk_at (l := tabEnts t) (k := k) (j := (chk (tabEnts t) k).length - 1) p1 (by omega)
      rw [he'] at hl
      rw [he] at g1
      rw [(less_congr g1).2.symm] at hl
      rcases Nat.lt_or_ge (6 * k + j) (6 * k + ((chk (tabEnts t) k).length - 1)) with hlt | hge
      · have := ahead_le (ents_mono hm hlt hb')
        rw [this] at hl; cases hl
      · have e : 6 * k + ((chk (tabEnts t) k).length - 1) = 6 * k + j := by omega
        simp only [e] at hl
        rw [less_refl] at hl; cases hl
    · rw [g2]
  have hr := h.rds
  have hg := h.get
  rw [List.drop_eq_getElem_cons hk] at hr
  rw [rdsT_cons] at hr
  rw [if_pos hl] at hr
  rw [chk_drop, getE_append, hn] at hg
  exact ⟨by have := h.le; omega, by simpa using hg, hr⟩
theorem GI.hit {t : TabR} {key : ByteArray} {seq : Int} {k n : Nat} (hT : entsTB t = true) (h : GI t key seq k n) (hk : k < t.parts.length) (hl : less t.parts[k].last key = false) (hf : (getE key seq (rdBlk t.parts[k].text)).2 = true) :
    getE key seq (tabEnts t) = getE key seq (rdBlk t.parts[k].text) ∧ n + 1 = rdsT key seq t.parts := by
  obtain ⟨p1, p2, p3, _⟩ := part_at hT hk
  have hr := h.rds
  have hg := h.get
  rw [List.drop_eq_getElem_cons hk] at hr
  rw [rdsT_cons] at hr
  rw [if_neg (by rw [hl]; decide), if_pos (by rw [hf]; rfl)] at hr
  rw [p2] at hf ⊢
  rw [chk_drop, getE_append, if_pos hf] at hg
  exact ⟨hg, hr⟩
theorem GI.over {t : TabR} {key : ByteArray} {seq : Int} {k n : Nat} (hT : entsTB t = true) (h : GI t key seq k n) (hk : k < t.parts.length) (hl : less t.parts[k].last key = false) (hf : (getE key seq (rdBlk t.parts[k].text)).2 = false) (ho : less key t.parts[k].last = true) :
    getE key seq (tabEnts t) = (zE, false) ∧ n + 1 = rdsT key seq t.parts := by
  obtain ⟨p1, p2, p3, _⟩ := part_at hT hk
  obtain ⟨c1, c2, c3⟩ := chk_len p1
  have hm := (tabB_iff.1 (entsTB_of hT).2.1).2
  have hr := h.rds
  have hg := h.get
  rw [List.drop_eq_getElem_cons hk] at hr
  rw [rdsT_cons] at hr
  rw [if_neg (by rw [hl]; decide), if_pos (by rw [ho]; simp)] at hr
  rw [p2] at hf
  refine ⟨?_, hr⟩
  rw [hg, chk_drop, getE_append, if_neg (by rw [hf]; decide)]
  refine getE_not ?_
  rcases getE_cases key seq ((tabEnts t).drop (6 * (k + 1))) with ⟨j, hj, g1, g2, g3, g4⟩ | ⟨_, g2⟩
  · exfalso
    rw [List.length_drop] at hj
    rw [List.getElem_drop] at g1
    have hc6 : (chk (tabEnts t) k).length = 6 := by unfold chk; rw [List.length_take, List.length_drop]; omega
    rw [p3, lastK_at (by omega)] at ho
    obtain ⟨hb', he'⟩ := chk_at (l := tabEnts t) (k := k) (j := (chk (tabEnts t) k).length - 1) p1 (by omega)
    rw [he'] at ho
    have := ahead_le (ents_mono hm (i := 6 * k + ((chk (tabEnts t) k).length - 1)) (j := 6 * (k + 1) + j) (by omega) (by omega))
    rw [(less_congr g1).1] at this
    rw [this] at ho; cases ho
  · rw [g2]
theorem GI.next {t : TabR} {key : ByteArray} {seq : Int} {k n : Nat} (hT : entsTB t = true) (h : GI t key seq k n) (hk : k < t.parts.length) (hl : less t.parts[k].last key = false) (hf : (getE key seq (rdBlk t.parts[k].text)).2 = false) (ho : less key t.parts[k].last = false) : GI t key seq (k + 1) (n + 1) := by
  obtain ⟨p1, p2, p3, _⟩ := part_at hT hk
  have hr := h.rds
  have hg := h.get
  rw [List.drop_eq_getElem_cons hk] at hr
  rw [rdsT_cons] at hr
  rw [if_neg (by rw [hl]; decide), if_neg (by rw [hf, ho]; decide)] at hr
  rw [p2] at hf
  rw [chk_drop, getE_append, if_neg (by rw [hf]; decide)] at hg
  exact ⟨by have := h.le; omega, hg, by omega⟩
theorem GI.fin {t : TabR} {key : ByteArray} {seq : Int} {k n : Nat} (hT : entsTB t = true) (h : GI t key seq k n) (hk : t.parts.length = k) : getE key seq (tabEnts t) = (zE, false) ∧ n = rdsT key seq t.parts := by
  have hr := h.rds
  have hg := h.get
  subst hk
  rw [List.drop_length] at hr
  have := flat_drop hT 0 t.parts.length (by omega)
  rw [List.drop_length] at this
  rw [← this] at hg
  exact ⟨by rw [hg]; rfl, by simpa [rdsT] using hr⟩
theorem getE_mem {key : ByteArray} {seq : Int} {l : List EntR} (h : (getE key seq l).2 = true) : (getE key seq l).1 ∈ l ∧ (getE key seq l).1.key.toList = key.toList ∧ (getE key seq l).1.seq ≤ seq := by
  rcases getE_cases key seq l with ⟨j, hj, g1, g2, g3, g4⟩ | ⟨_, g2⟩
  · rw [g4]; exact ⟨List.getElem_mem hj, g1, g2⟩
  · rw [g2] at h; cases h
theorem getE_has {key : ByteArray} {seq : Int} {l : List EntR} {x : EntR} (h : x ∈ l) (h1 : x.key.toList = key.toList) (h2 : x.seq ≤ seq) : (getE key seq l).2 = true := by
  rcases getE_cases key seq l with ⟨j, hj, g1, g2, g3, g4⟩ | ⟨g1, g2⟩
  · rw [g4]
  · obtain ⟨i, hi, rfl⟩ := List.getElem_of_mem h
    exact absurd ⟨h1, h2⟩ (g1 i hi)
/-- The program's test: what is wanted is among a part's entries. -/
theorem GI.has {t : TabR} {key : ByteArray} {seq : Int} {k n : Nat} (hT : entsTB t = true) (h : GI t key seq k n) (hk : k < t.parts.length) (hl : less t.parts[k].last key = false) :
    ((getE key seq (tabEnts t)).2 && hasE (rdBlk t.parts[k].text) (getE key seq (tabEnts t)).1) = (getE key seq (rdBlk t.parts[k].text)).2 := by
  rcases hf : (getE key seq (rdBlk t.parts[k].text)).2 with _ | _
  · rw [Bool.eq_false_iff]
    intro hc
    rw [Bool.and_eq_true, hasE_iff] at hc
    obtain ⟨_, m1, m2⟩ := getE_mem hc.1
    rw [getE_has hc.2 m1 m2] at hf
    cases hf
  · have := (h.hit hT hk hl hf).1
    rw [this, hf, Bool.true_and, hasE_iff]
    exact (getE_mem hf).1
end Sp
end Go.Proofs.Ytfbbdnicplbmdaa
/- Walks: markText of the laws. -/
set_option linter.unusedVariables false
set_option linter.unusedSimpArgs false
namespace Go.Proofs.Ytfbbdnicplbmdaa
open Go.RowKit Sp
attribute [local go_sem] str_size str_append
namespace Sp
/-- The digits of a number, none of 0. -/
def digs (n : Nat) : List UInt8 := if h : n = 0 then [] else digs (n / 10) ++ [UInt8.ofNat (48 + n % 10)]
termination_by n
decreasing_by omega
theorem digs_zero : digs 0 = [] := by rw [digs]; simp
theorem digs_pos {n : Nat} (h : n ≠ 0) : digs n = digs (n / 10) ++ [UInt8.ofNat (48 + n % 10)] := by rw [digs]; simp [h]
theorem digs_length (k : Nat) : ∀ n, n < 10 ^ k → (digs n).length ≤ k := by
  induction k with
  | zero => intro n h; have : n = 0 := by omega
            subst this; simp [digs_zero]
  | succ k ih =>
    intro n h
    by_cases h0 : n = 0
    · subst h0; simp [digs_zero]
    · rw [digs_pos h0, List.length_append]
      have := ih (n / 10) (by rw [Nat.pow_succ] at h; omega)
      simp; omega
/-- The mark of a number above 0. -/
def markL (n : Nat) : List UInt8 := 109 :: digs n
end Sp

set_option maxRecDepth 100000 in
set_option maxHeartbeats 400000 in
theorem markText_any (m : Nat) (w : World) (h1 : 1 ≤ (m : Int)) (h : (m : Int) ≤ 999999999) :
    Calls Try.prog 127 #[.int .i64 m] w fun e w' => e = .returned (.string (str (markL m))) ∧ Below w.heap.size w w' := by
  have hlen : (digs m).length ≤ 9 := digs_length 9 m (by omega)
  go_enter Try.func127, Try.ntmps127
  go_wp2
  go_loopw [0, 3] (fun a o wr => ∃ (q : Nat) (out : List UInt8), (q : Int) ≤ 999999999 ∧ a = .int .i64 q ∧ o = .string (str out) ∧ digs m = digs q ++ out ∧ Below w.heap.size w wr) (fun a _ _ => (intOf a).toNat)
  case atStart => exact ⟨m, [], h, rfl, rfl, by simp, Below.refl _ _⟩
  case round =>
    obtain ⟨q, out, hq, rfl, rfl, hinv, hbl⟩ := hrel
    have hol : out.length ≤ 9 := by have := congrArg List.length hinv; simp only [List.length_append] at this; omega
    by_cases hz : 0 < (q : Int)
    · have hst := digs_pos (n := q) (by omega)
      have HI := Lib.hid (show digs m = digs (q / 10) ++ (UInt8.ofNat (48 + q % 10) :: out) from by rw [hinv, hst, List.append_assoc]; rfl)
      clear hst hinv
      have kc := conv_one (P := Try.prog) Try.underlying22 Try.underlying5 Try.underlying9
      have hu : (48 + (q : Int) % 10).toNat = 48 + q % 10 := by omega
      have hcat : str (UInt8.ofNat (48 + q % 10) :: out) = str [UInt8.ofNat (48 + q % 10)] ++ str out := by rw [str_append]; rfl
      have HC := Lib.hid hcat
      clear hcat
      go_wp2
      go_roundw
      case rel => exact ⟨q / 10, UInt8.ofNat (48 + q % 10) :: out, by omega, by go_num, by rw [show UInt8.ofNat (48 + q % 10) = 48 + UInt8.ofNat (q % 10) from by rw [UInt8.ofNat_add]; rfl], HI.out, hbl.alloc (by have := hbl.size; omega) _⟩
      case measure => simp [intOf]; omega
    · obtain rfl : q = 0 := by omega
      have HI := Lib.hid (show markL m = 109 :: out from by unfold markL; rw [hinv, digs_zero]; rfl)
      clear hinv
      have HC := Lib.hid (show str (109 :: out) = str [109] ++ str out from by rw [str_append]; rfl)
      go_wp2
      go_ret
      exact ⟨by rw [HI.out, HC.out]; rfl, hbl⟩
theorem markText_int (x : Int) (w : World) (h1 : 1 ≤ x) (h : x ≤ 999999999) :
    Calls Try.prog 127 #[.int .i64 x] w fun e w' => e = .returned (.string (str (markL x.toNat))) ∧ Below w.heap.size w w' := by
  obtain ⟨m, rfl⟩ : ∃ m : Nat, x = m := ⟨x.toNat, by omega⟩
  exact markText_any m w h1 h
end Go.Proofs.Ytfbbdnicplbmdaa
/- Walks: the laws' helper that marks a row of Part. -/
set_option linter.unusedVariables false
set_option linter.unusedSimpArgs false
namespace Go.Proofs.Ytfbbdnicplbmdaa
open Go.RowKit Sp Go.Sort

namespace Sp
def mkPart (k : Nat) : PartR := ⟨str (markL k), str (markL (k + 1))⟩
def marksPart (k m : Nat) : List PartR := (List.range m).map fun i => mkPart (k + 2 * i)
theorem marksPart_length (k m : Nat) : (marksPart k m).length = m := by simp [marksPart]
theorem marksPart_step (k : Nat) (l : List PartR) (i : Nat) (h : i < l.length) : ((marksPart k i ++ l.drop i).map PartR.cells).set i (mkPart (k + 2 * i)).cells = (marksPart k (i + 1) ++ l.drop (i + 1)).map PartR.cells := by
  rw [List.map_append, List.set_append_right _ _ (by simp [marksPart_length])]
  rw [show i - ((marksPart k i).map PartR.cells).length = 0 from by simp [marksPart_length], List.drop_eq_getElem_cons h, List.map_cons, List.set_cons_zero]
  unfold marksPart
  rw [List.range_succ]
  simp
end Sp

set_option maxRecDepth 100000 in
set_option maxHeartbeats 800000 in
theorem markPartS_any (l : List PartR) (k : Nat) (w : World) (base g cap : Nat) (hown : w.ownsRow base 99 2 (.slice (some ⟨g, 0, none⟩) l.length cap) l.length (l.map PartR.cells).flatten) (hcap : l.length ≤ cap) (hk1 : 1 ≤ (k : Int)) (hkl : (k : Int) + 2 * l.length ≤ 999999999) :
    Calls Try.prog 128 #[(.slice (some ⟨g, 0, none⟩) l.length cap), .int .i64 k] w fun e w' => e = .returned (.int .i64 ((k + 2 * l.length : Nat) : Int)) ∧ w'.ownsRow base 99 2 (.slice (some ⟨g, 0, none⟩) l.length cap) l.length ((marksPart k l.length).map PartR.cells).flatten ∧ w.grownBy w' (some g) := by
  have hdrop : ∀ i, (marksPart k i ++ l.drop i).length = max i l.length := by intro i; simp [marksPart_length]; omega
  go_enter Try.func128, Try.ntmps128
  go_wp2
  go_loopw [1, 5] (fun a i wr => ∃ j : Nat, j ≤ l.length ∧ i = .int .i64 j ∧ a = .int .i64 ((k : Int) + 2 * j) ∧ wr.ownsRow base 99 2 (.slice (some ⟨g, 0, none⟩) l.length cap) l.length ((marksPart k j ++ l.drop j).map PartR.cells).flatten ∧ w.grownBy wr (some g)) (fun _ i _ => l.length - (intOf i).toNat)
  case atStart => exact ⟨0, by omega, rfl, by simp, by simpa [marksPart] using hown, touch_refl _ _⟩
  case round =>
    obtain ⟨j, hj, rfl, rfl, hr, ht⟩ := hrel
    by_cases hlt : j < l.length
    · have hll := hdrop j
      have hsz0 : g < wr.heap.size := (hr.lt _ rfl).2
      have hx : ∀ (xs : List Value), xs.length = l.length * 2 → j * 2 + 2 ≤ xs.length := fun xs h => by rw [h]; have : j + 1 ≤ l.length := hlt; have := Nat.mul_le_mul_right 2 this; omega
      have hst := marksPart_step k l j hlt
      have HE := Lib.hid ((set_row2 (ll := (marksPart k j ++ l.drop j).map PartR.cells) (fun c hc => by obtain ⟨x, _, rfl⟩ := List.mem_map.1 hc; rfl) j (by simp only [List.length_map]; omega) (.string (str (markL (k + 2 * j)))) (.string (str (markL (k + 2 * j + 1))))).trans (congrArg List.flatten hst))
      clear hst
      go_wp2_with (go_at_call 127; refine (markText_int _ _ (by omega) (by omega)).mono ?_; rintro e w0 ⟨rfl, b0⟩; have r0 := own_below hr b0; have t0 := touch_below ht b0; obtain ⟨x0, q0⟩ := cell_owns r0 (j * 2) (by have := r0.1; omega); have z0 := r0.frozenAt; have s0 := (r0.stored (j * 2) (.string (str (markL (k + 2 * j))))).1; have y0 := touch_set t0 (j * 2) (.string (str (markL (k + 2 * j)))))
      go_wp2_with (go_at_call 127; refine (markText_int _ _ (by omega) (by omega)).mono ?_; rintro e w1 ⟨rfl, b1⟩; have r1 := own_below s0 b1; have t1 := touch_below y0 b1; obtain ⟨x1, q1⟩ := cell_owns r1 (j * 2 + 1) (by have := r1.1; omega); have z1 := r1.frozenAt; have s1 := (r1.stored (j * 2 + 1) (.string (str (markL (k + 2 * j + 1))))).1; have y1 := touch_set t1 (j * 2 + 1) (.string (str (markL (k + 2 * j + 1)))))
      go_roundw
      case rel => exact ⟨j + 1, by omega, by go_num, by go_num, by rw [← HE.out]; exact s1, y1⟩
      case measure => simp [intOf]; omega
    · obtain rfl : j = l.length := by omega
      go_wp2
      go_ret
      exact ⟨by go_num, by simpa using hr, ht⟩
end Go.Proofs.Ytfbbdnicplbmdaa
/- Walks: the laws' helper that reads the marks of a row of Part. -/
set_option linter.unusedVariables false
set_option linter.unusedSimpArgs false
namespace Go.Proofs.Ytfbbdnicplbmdaa
open Go.RowKit Sp Go.Sort

set_option maxRecDepth 100000 in
set_option maxHeartbeats 800000 in
theorem heldPartS_any (v : Value) (k m : Nat) (w : World) (h : SlT PartR.cells 2 w v (marksPart k m)) (hk1 : 1 ≤ (k : Int)) (hkl : (k : Int) + 2 * m ≤ 999999999) :
    Calls Try.prog 129 #[v, .int .i64 k] w fun e w' => e = .returned (.int .i64 ((k + 2 * m : Nat) : Int)) ∧ Below w.heap.size w w' := by
  obtain ⟨ao, cap, rfl, hlc, hcm, hsh⟩ := h.shape
  rw [marksPart_length] at *
  go_enter Try.func129, Try.ntmps129
  go_wp2
  go_loopw [1, 5] (fun a i wr => ∃ j : Nat, j ≤ m ∧ i = .int .i64 j ∧ a = .int .i64 ((k : Int) + 2 * j) ∧ Below w.heap.size w wr) (fun _ i _ => m - (intOf i).toNat)
  case atStart => exact ⟨0, by omega, rfl, by simp, Below.refl _ _⟩
  case round =>
    obtain ⟨j, hj, rfl, rfl, hbl⟩ := hrel
    by_cases hlt : j < m
    · obtain ⟨b, off, rfl, hb, hc⟩ := hsh (by first | omega | (rw [marksPart_length]; omega))
      have c0 : w.cell? ⟨b, off + j * 2, none⟩ = some (.string (str (markL (k + 2 * j)))) := hc j (by rw [marksPart_length]; exact hlt) 0 _ (by simp [marksPart, mkPart, PartR.cells])
      have c1 : w.cell? ⟨b, off + j * 2 + 1, none⟩ = some (.string (str (markL (k + 2 * j + 1)))) := hc j (by rw [marksPart_length]; exact hlt) 1 _ (by simp [marksPart, mkPart, PartR.cells])
      clear hsh hc h
      have d0 := cell_regrown ((hbl.cell (by exact hb)).trans c0)
      have v0 : ∀ d os, Calls Try.prog 127 #[.int .i64 ((k : Int) + 2 * j)] (grow (redrawn wr d) os) fun e w'' => e = .returned (.string (str (markL (k + 2 * j)))) ∧ ∃ p : Regrown, w'' = grow (redrawn wr p.d) p.os := fun d os => Calls.regrown_of (by have h := markText_int ((k : Int) + 2 * j) (grow (redrawn wr d) os) (by omega) (by omega); rwa [show ((k : Int) + 2 * j).toNat = (k + 2 * j) from by omega] at h)
      go_wp2
      refine wp_region_quiet_below (by kernel_rfl) (by kernel_rfl) ?_
      repeat (first | go_big_quiet_step (exact v0 _ _) | go_big_quiet_step (fail))
      refine wpQuiet_nil ?_
      intro w0 hw0
      have b0 : RowKit.Below w.heap.size w w0 := by obtain ⟨p, rfl⟩ := hw0; exact hbl.trans ((below_regrown _ _ _).mono hbl.size)
      clear hw0 v0 d0
      have d1 := cell_regrown ((b0.cell (by exact hb)).trans c1)
      have v1 : ∀ d os, Calls Try.prog 127 #[.int .i64 ((k : Int) + 2 * j + 1)] (grow (redrawn w0 d) os) fun e w'' => e = .returned (.string (str (markL (k + 2 * j + 1)))) ∧ ∃ p : Regrown, w'' = grow (redrawn w0 p.d) p.os := fun d os => Calls.regrown_of (by have h := markText_int ((k : Int) + 2 * j + 1) (grow (redrawn w0 d) os) (by omega) (by omega); rwa [show ((k : Int) + 2 * j + 1).toNat = (k + 2 * j + 1) from by omega] at h)
      go_wp2
      refine wp_region_quiet_below (by kernel_rfl) (by kernel_rfl) ?_
      repeat (first | go_big_quiet_step (exact v1 _ _) | go_big_quiet_step (fail))
      refine wpQuiet_nil ?_
      intro w1 hw1
      have b1 : RowKit.Below w.heap.size w w1 := by obtain ⟨p, rfl⟩ := hw1; exact b0.trans ((below_regrown _ _ _).mono b0.size)
      clear hw1 v1 d1
      go_wp2
      go_roundw
      case rel => exact ⟨j + 1, by omega, by go_num, by go_num, b1⟩
      case measure => simp [intOf]; omega
    · obtain rfl : j = m := by omega
      clear hsh h
      go_wp2
      go_ret
      exact ⟨by go_num, hbl⟩
end Go.Proofs.Ytfbbdnicplbmdaa
/- Plain: rows of one's own that lie between two block numbers; worlds that differ in such blocks alone. -/
set_option linter.unusedVariables false
set_option linter.unusedSimpArgs false
namespace Go.Proofs.Ytfbbdnicplbmdaa
open Go.RowKit Sp

/-- The later world differs from the elder, of the blocks that this has, in those from lo up to below hi alone. -/
structure Wrote (lo hi : Nat) (w w' : World) : Prop where
  os : w'.os = w.os
  tape : w'.tape = w.tape
  output : w'.output = w.output
  size : w.heap.size ≤ w'.heap.size
  block : ∀ k, k < w.heap.size → (k < lo ∨ hi ≤ k) → w'.heap[k]? = w.heap[k]?
theorem Wrote.refl (lo hi : Nat) (w : World) : Wrote lo hi w w := ⟨rfl, rfl, rfl, Nat.le_refl _, fun _ _ _ => rfl⟩
theorem Wrote.trans {lo hi : Nat} {a b c : World} (h : Wrote lo hi a b) (k : Wrote lo hi b c) : Wrote lo hi a c :=
  ⟨k.os.trans h.os, k.tape.trans h.tape, k.output.trans h.output, Nat.le_trans h.size k.size, fun i hi h' => (k.block i (Nat.lt_of_lt_of_le hi h.size) h').trans (h.block i hi h')⟩
theorem Wrote.wide {lo hi lo' hi' : Nat} {a b : World} (h : Wrote lo hi a b) (h1 : lo' ≤ lo) (h2 : hi ≤ hi') : Wrote lo' hi' a b :=
  ⟨h.os, h.tape, h.output, h.size, fun k hk hh => h.block k hk (by omega)⟩
theorem Wrote.of_below {lo hi : Nat} {a b : World} (h : Below a.heap.size a b) : Wrote lo hi a b := ⟨h.os, h.tape, h.output, h.size, fun k hk _ => h.block k hk⟩
theorem Wrote.below {lo hi B : Nat} {a b : World} (h : Wrote lo hi a b) (hB : B ≤ lo) (hs : B ≤ a.heap.size) : Below B a b := ⟨h.os, h.tape, h.output, h.size, fun k hk => h.block k (by omega) (by omega)⟩
theorem Wrote.of_touch {lo hi : Nat} {a b : World} {r : Option Nat} (h : a.grownBy b r) (hr : ∀ k, r = some k → lo ≤ k ∧ k < hi) : Wrote lo hi a b :=
  ⟨h.os, h.tape, h.output, h.size, fun k hk hh => h.block k hk (fun e => by have := hr k e.symm; omega)⟩
theorem Wrote.cell {lo hi : Nat} {a b : World} (h : Wrote lo hi a b) {p : Addr} (hp : p.block < a.heap.size) (hh : p.block < lo ∨ hi ≤ p.block) : b.cell? p = a.cell? p := by
  simp only [World.cell?]; rw [h.block _ hp hh]

theorem bcellB {B : Nat} {W w1 : World} (hb : Below B W w1) : (∀ b o, b < B → w1.cell? ⟨b, o, none⟩ = W.cell? ⟨b, o, none⟩) ∧ (∀ b o, b < B → w1.frozen? ⟨b, o, none⟩ = W.frozen? ⟨b, o, none⟩) :=
  ⟨fun b o h => hb.cell (p := ⟨b, o, none⟩) h, fun b o h => hb.frozen (p := ⟨b, o, none⟩) h⟩

/-- v is a row of one's own of the records l, in a block from lo up to below hi (or nil). -/
def Row {α : Type} (enc : α → List Value) (T : TypeId) (size lo hi : Nat) (w : World) (v : Value) (l : List α) : Prop :=
  w.ownsRow lo T size v l.length (l.map enc).flatten ∧ ∀ k, v.ownBlock = some k → k < hi
section
variable {α : Type} {enc : α → List Value} {T : TypeId} {size lo hi : Nat} {w w' : World} {v : Value} {l : List α}
theorem Row.of_own {n : Nat} (h : w.ownsRow lo T size v n (l.map enc).flatten) (hn : n = l.length) : Row enc T size lo w.heap.size w v l := by
  subst hn; exact ⟨h, fun k hk => (h.lt k hk).2⟩
theorem Row.nil (w : World) (lo hi : Nat) : Row enc T size lo hi w (.slice none 0 0) ([] : List α) := ⟨World.ownsRow_nil w lo T size, fun k hk => by simp [Value.ownBlock] at hk⟩
theorem Row.wide (h : Row enc T size lo hi w v l) {lo' hi' : Nat} (h1 : lo' ≤ lo) (h2 : hi ≤ hi') : Row enc T size lo' hi' w v l :=
  ⟨own_mono h.1 h1, fun k hk => Nat.lt_of_lt_of_le (h.2 k hk) h2⟩
theorem Row.slT (h : Row enc T size lo hi w v l) (hs : ∀ x, (enc x).length = size) (hp : 0 < size) : SlT enc size w v l := SlT.of_own h.1 hs hp
theorem Row.below (h : Row enc T size lo hi w v l) (hb : Below w.heap.size w w') : Row enc T size lo hi w' v l := ⟨own_below h.1 hb, h.2⟩
/-- A row outside the blocks that were written. -/
theorem Row.kept (h : Row enc T size lo hi w v l) {a b : Nat} (hw : Wrote a b w w') (hd : hi ≤ a ∨ b ≤ lo) : Row enc T size lo hi w' v l := by
  refine ⟨⟨h.1.1, ?_⟩, h.2⟩
  rcases h.1.2 with hn | ⟨g, cap, cur, hv, hb', hg, rest⟩
  · exact .inl hn
  · have h2 := h.2 g (by rw [hv]; rfl)
    exact .inr ⟨g, cap, cur, hv, hb', (hw.block g (Array.getElem?_eq_some_iff.1 hg).1 (by omega)).trans hg, rest⟩
/-- A row whose block is known lies between any numbers about it. -/
theorem Row.cut {g n cap : Nat} (h : Row enc T size lo hi w (.slice (some ⟨g, 0, none⟩) n cap) l) {lo' hi' : Nat} (h0 : lo' ≤ g) (h2 : g < hi') : Row enc T size lo' hi' w (.slice (some ⟨g, 0, none⟩) n cap) l := by
  refine ⟨⟨h.1.1, ?_⟩, fun k hk => by simp [Value.ownBlock] at hk; omega⟩
  rcases h.1.2 with hn | ⟨g', cap', cur, hv, hb', rest⟩
  · exact .inl hn
  · simp at hv
    exact .inr ⟨g', cap', cur, by simp [hv], by omega, rest⟩
/-- nil, or a slice of its own block. -/
theorem Row.shape (h : Row enc T size lo hi w v l) : (v = .slice none 0 0 ∧ l = []) ∨ ∃ g cap, v = .slice (some ⟨g, 0, none⟩) l.length cap ∧ l.length ≤ cap ∧ cap ≤ 9223372036854775807 ∧ lo ≤ g ∧ g < hi ∧ g < w.heap.size := by
  rcases h.1.2 with ⟨hv, hn⟩ | ⟨g, cap, cur, hv, hb', hg, hc, hm, _⟩
  · exact .inl ⟨hv, List.eq_nil_of_length_eq_zero hn⟩
  · exact .inr ⟨g, cap, hv, hc, by simpa [maxLen] using hm, hb', h.2 g (by rw [hv]; rfl), (Array.getElem?_eq_some_iff.1 hg).1⟩
theorem Row.form (h : Row enc T size lo hi w v l) : ∃ ao cap, v = .slice ao l.length cap := by
  rcases h.shape with ⟨rfl, rfl⟩ | ⟨g, cap, rfl, _⟩
  · exact ⟨none, 0, rfl⟩
  · exact ⟨_, cap, rfl⟩
/-- A row that was laid above a block number. -/
theorem Row.up {n lo' : Nat} (h : w.ownsRow lo' T size v n (l.map enc).flatten) (hn : n = l.length) (hlo : lo ≤ lo') : Row enc T size lo w.heap.size w v l :=
  (Row.of_own h hn).wide hlo (Nat.le_refl _)
end
end Go.Proofs.Ytfbbdnicplbmdaa
/- Walks: the laws' helper that marks a row of Part, nil or not, said of rows. -/
set_option linter.unusedVariables false
set_option linter.unusedSimpArgs false
namespace Go.Proofs.Ytfbbdnicplbmdaa
open Go.RowKit Sp Go.Sort

set_option maxRecDepth 100000 in
set_option maxHeartbeats 400000 in
theorem markPartS_nil (k : Nat) (w : World) (hk1 : 1 ≤ (k : Int)) (hkl : (k : Int) ≤ 999999999) :
    Calls Try.prog 128 #[.slice none 0 0, .int .i64 k] w fun e w' => e = .returned (.int .i64 (k : Int)) ∧ w' = w := by
  go_enter Try.func128, Try.ntmps128
  go_wp2
  go_loopw [1, 5] (fun a i wr => i = .int .i64 0 ∧ a = .int .i64 k ∧ wr = w) (fun _ _ _ => 0)
  case atStart => exact ⟨rfl, rfl, rfl⟩
  case round =>
    obtain ⟨rfl, rfl, rfl⟩ := hrel
    go_wp2
    go_ret
    exact ⟨rfl, rfl⟩
theorem markPartS_row (v : Value) (l : List PartR) (k : Nat) (w : World) (lo hi : Nat) (h : Row PartR.cells 99 2 lo hi w v l) (hk1 : 1 ≤ (k : Int)) (hkl : (k : Int) + 2 * l.length ≤ 999999999) :
    Calls Try.prog 128 #[v, .int .i64 k] w fun e w' => e = .returned (.int .i64 ((k + 2 * l.length : Nat) : Int)) ∧ Row PartR.cells 99 2 lo hi w' v (marksPart k l.length) ∧ Wrote lo hi w w' := by
  rcases h.shape with ⟨rfl, rfl⟩ | ⟨g, cap, rfl, hlc, hcm, hg1, hg2, hg3⟩
  · refine (markPartS_nil k w hk1 (by simp at hkl; omega)).mono ?_
    rintro e w' ⟨rfl, rfl⟩
    exact ⟨by simp, by have := Row.nil (enc := PartR.cells) (T := 99) (size := 2) w' lo hi; simpa [marksPart] using this, Wrote.refl _ _ _⟩
  · refine (markPartS_any l k w lo g cap h.1 hlc hk1 hkl).mono ?_
    rintro e w' ⟨rfl, hr, ht⟩
    refine ⟨rfl, ⟨by rw [marksPart_length]; exact hr, h.2⟩, Wrote.of_touch ht fun k hk => ?_⟩
    obtain rfl : g = k := Option.some.inj hk
    exact ⟨hg1, hg2⟩
theorem heldPartS_row (v : Value) (k m : Nat) (w : World) (lo hi : Nat) (h : Row PartR.cells 99 2 lo hi w v (marksPart k m)) (hk1 : 1 ≤ (k : Int)) (hkl : (k : Int) + 2 * m ≤ 999999999) :
    Calls Try.prog 129 #[v, .int .i64 k] w fun e w' => e = .returned (.int .i64 ((k + 2 * m : Nat) : Int)) ∧ Below w.heap.size w w' :=
  heldPartS_any v k m w (h.slT (fun _ => rfl) (by decide)) hk1 hkl
theorem markPartS_rowi (v : Value) (l : List PartR) (x : Int) (k : Nat) (hx : x = (k : Int)) (w : World) (lo hi : Nat) (h : Row PartR.cells 99 2 lo hi w v l) (hk1 : 1 ≤ (k : Int)) (hkl : (k : Int) + 2 * l.length ≤ 999999999) :
    Calls Try.prog 128 #[v, .int .i64 x] w fun e w' => e = .returned (.int .i64 ((k + 2 * l.length : Nat) : Int)) ∧ Row PartR.cells 99 2 lo hi w' v (marksPart k l.length) ∧ Wrote lo hi w w' := by
  subst hx; exact markPartS_row v l k w lo hi h hk1 hkl
theorem heldPartS_rowi (v : Value) (x : Int) (k m : Nat) (hx : x = (k : Int)) (w : World) (lo hi : Nat) (h : Row PartR.cells 99 2 lo hi w v (marksPart k m)) (hk1 : 1 ≤ (k : Int)) (hkl : (k : Int) + 2 * m ≤ 999999999) :
    Calls Try.prog 129 #[v, .int .i64 x] w fun e w' => e = .returned (.int .i64 ((k + 2 * m : Nat) : Int)) ∧ Below w.heap.size w w' := by
  subst hx; exact heldPartS_row v k m w lo hi h hk1 hkl
end Go.Proofs.Ytfbbdnicplbmdaa
/- Walks: the laws' helpers that mark Table and read its marks; its slices are rows of one's own. -/
set_option linter.unusedVariables false
set_option linter.unusedSimpArgs false
namespace Go.Proofs.Ytfbbdnicplbmdaa
open Go.RowKit Sp Go.Sort

/-- The value is the record, with slices of its own in the blocks from lo up to below hi. -/
def RowTable (lo hi : Nat) (w : World) (v : Value) (d : TabR) : Prop := ∃ s0 : Value, v = .agg #[s0, .string d.bloom, .int .i64 d.top] ∧ Row PartR.cells 99 2 lo hi w s0 d.parts
theorem RowTable.is {lo hi : Nat} {w : World} {v : Value} {d : TabR} (h : RowTable lo hi w v d) : IsTable w v d := by
  obtain ⟨s0, rfl, r0⟩ := h
  exact ⟨s0, rfl, r0.slT (fun _ => rfl) (by decide)⟩
theorem RowTable.below {lo hi : Nat} {w : World} {v : Value} {d : TabR} {w' : World} (h : RowTable lo hi w v d) (hb : Below w.heap.size w w') : RowTable lo hi w' v d := by
  obtain ⟨s0, rfl, r0⟩ := h
  exact ⟨s0, rfl, r0.below hb⟩
theorem RowTable.kept {lo hi : Nat} {w : World} {v : Value} {d : TabR} {w' : World} {a b : Nat} (h : RowTable lo hi w v d) (hw : Wrote a b w w') (hd : hi ≤ a ∨ b ≤ lo) : RowTable lo hi w' v d := by
  obtain ⟨s0, rfl, r0⟩ := h
  exact ⟨s0, rfl, r0.kept hw (by omega)⟩
theorem RowTable.wide {lo hi : Nat} {w : World} {v : Value} {d : TabR} (h : RowTable lo hi w v d) {lo' hi' : Nat} (h1 : lo' ≤ lo) (h2 : hi ≤ hi') : RowTable lo' hi' w v d := by
  obtain ⟨s0, rfl, r0⟩ := h
  exact ⟨s0, rfl, r0.wide h1 h2⟩
theorem toTable_row (v : Value) (d : TabR) (w : World) (h : IsTable w v d) (l0 : (d.parts.length : Int) ≤ 1048576) :
    Calls Try.prog 59 #[v] w fun e w' => ∃ g0 : Nat, e = .returned (.agg #[.slice (some ⟨g0, 0, none⟩) d.parts.length d.parts.length, .string d.bloom, .int .i64 d.top]) ∧ RowTable w.heap.size w'.heap.size w' (.agg #[.slice (some ⟨g0, 0, none⟩) d.parts.length d.parts.length, .string d.bloom, .int .i64 d.top]) d ∧ Below w.heap.size w w' := by
  refine (toTable_any v d w h l0).mono ?_
  rintro e w' ⟨g0, rfl, o0, hb⟩
  exact ⟨g0, rfl, ⟨_, rfl, (Row.of_own o0 rfl)⟩, hb⟩
theorem IsTable.s0 {w : World} {d : TabR} {a0 : Value} {a1 : ByteArray} {a2 : Int} (h : IsTable w (.agg #[a0, .string a1, .int .i64 a2]) d) : SlT PartR.cells 2 w a0 d.parts := by
  obtain ⟨s0, he, h0⟩ := h
  simp at he
  obtain rfl : a0 = s0 := by first | exact he.1 | exact he.2.1 | exact he.2.2.1 | exact he
  exact h0
/-- The record, marked from k on. -/
def Sp.TabR.marked (d : TabR) (k : Nat) : TabR := { d with parts := marksPart (k) d.parts.length }
set_option maxRecDepth 100000 in
set_option maxHeartbeats 800000 in
theorem markTable_row (v : Value) (d : TabR) (k : Nat) (w : World) (lo hi : Nat) (h : RowTable lo hi w v d) (hhi : hi ≤ w.heap.size) (hk1 : 1 ≤ (k : Int)) (hkl : (k : Int) + 2 * d.parts.length ≤ 999999999) :
    Calls Try.prog 55 #[v, .int .i64 k] w fun e w' => e = .returned (.int .i64 ((k + 2 * d.parts.length : Nat) : Int)) ∧ RowTable lo hi w' v (d.marked k) ∧ Wrote lo hi w w' := by
  obtain ⟨s0, rfl, r0⟩ := h
  have hbox : ∀ o : Obj, RowKit.Below w.heap.size w (w.alloc o) := fun o => (Below.refl _ _).alloc (Nat.le_refl _) _
  go_enter Try.func55, Try.ntmps55
  go_wp2_with (go_at_call 128; refine (markPartS_rowi s0 _ _ (k) (by omega) _ lo hi (r0.below (hbox _)) (by omega) (by omega)).mono ?_; rintro e w0 ⟨rfl, q0, t0⟩)
  go_ret
  exact ⟨ret_int (by omega), ⟨s0, rfl, q0⟩, Wrote.trans (Wrote.of_below (hbox _)) t0⟩

set_option maxRecDepth 100000 in
set_option maxHeartbeats 800000 in
theorem heldTable_row (v : Value) (d : TabR) (k : Nat) (w : World) (lo hi : Nat) (h : RowTable lo hi w v (d.marked k)) (hk1 : 1 ≤ (k : Int)) (hkl : (k : Int) + 2 * d.parts.length ≤ 999999999) :
    Calls Try.prog 56 #[v, .int .i64 k] w fun e w' => e = .returned (.int .i64 ((k + 2 * d.parts.length : Nat) : Int)) ∧ Below w.heap.size w w' := by
  obtain ⟨s0, rfl, r0⟩ := h
  have hbox : ∀ o : Obj, RowKit.Below w.heap.size w (w.alloc o) := fun o => (Below.refl _ _).alloc (Nat.le_refl _) _
  go_enter Try.func56, Try.ntmps56
  go_wp2_with (go_at_call 129; refine (heldPartS_rowi s0 _ (k) _ (by omega) _ lo hi (r0.below (hbox _)) (by omega) (by omega)).mono ?_; rintro e w0 ⟨rfl, b0⟩; have x0 := Below.trans (hbox _) (b0.mono (Below.size (hbox _))))
  go_ret
  exact ⟨ret_int (by omega), x0⟩
theorem markTable_rowi (v : Value) (d : TabR) (x : Int) (k : Nat) (hx : x = (k : Int)) (w : World) (lo hi : Nat) (h : RowTable lo hi w v d) (hhi : hi ≤ w.heap.size) (hk1 : 1 ≤ (k : Int)) (hkl : (k : Int) + 2 * d.parts.length ≤ 999999999) :
    Calls Try.prog 55 #[v, .int .i64 x] w fun e w' => e = .returned (.int .i64 ((k + 2 * d.parts.length : Nat) : Int)) ∧ RowTable lo hi w' v (d.marked k) ∧ Wrote lo hi w w' := by
  subst hx; exact markTable_row v d k w lo hi h hhi hk1 hkl
theorem heldTable_rowi (v : Value) (d : TabR) (x : Int) (k : Nat) (hx : x = (k : Int)) (w : World) (lo hi : Nat) (h : RowTable lo hi w v (d.marked k)) (hk1 : 1 ≤ (k : Int)) (hkl : (k : Int) + 2 * d.parts.length ≤ 999999999) :
    Calls Try.prog 56 #[v, .int .i64 x] w fun e w' => e = .returned (.int .i64 ((k + 2 * d.parts.length : Nat) : Int)) ∧ Below w.heap.size w w' := by
  subst hx; exact heldTable_row v d k w lo hi h hk1 hkl
end Go.Proofs.Ytfbbdnicplbmdaa
/- Laws of the walk: append of a whole slice of records to a row of one's own. -/
set_option linter.unusedVariables false
set_option linter.unusedSimpArgs false
namespace Go.Proofs.Ytfbbdnicplbmdaa
open Go.RowKit Sp
theorem flat_length {α : Type} {enc : α → List Value} {size : Nat} (henc : ∀ x, (enc x).length = size) (l : List α) : (l.map enc).flatten.length = l.length * size := by
  induction l with
  | nil => simp
  | cons x l ih => rw [List.map_cons, List.flatten_cons, List.length_append, ih, henc, List.length_cons, Nat.succ_mul]; omega
theorem flat_cell {α : Type} {enc : α → List Value} {size : Nat} (henc : ∀ x, (enc x).length = size) (hp : 0 < size) (l : List α) (w : World) (b off : Nat)
    (hc : ∀ i (hi : i < l.length) j u, (enc l[i])[j]? = some u → w.cell? ⟨b, off + i * size + j, none⟩ = some u) (j : Nat) (u : Value) (h : (l.map enc).flatten[j]? = some u) : w.cell? ⟨b, off + j, none⟩ = some u := by
  have hj := (List.getElem?_eq_some_iff.1 h).1
  rw [flat_length henc] at hj
  have hd : j / size < l.length := by rw [Nat.div_lt_iff_lt_mul hp]; exact hj
  have hm : j % size < size := Nat.mod_lt _ hp
  have hml : j % size < (enc l[j / size]).length := by rw [henc]; exact hm
  have e := flat_at (size := size) (l.map enc) (fun cs h => by obtain ⟨x, _, rfl⟩ := List.mem_map.1 h; exact henc x) (j / size) (enc l[j / size]) (by simp [hd]) (j % size) _ (List.getElem?_eq_getElem hml)
  have hjs : j / size * size + j % size = j := by rw [Nat.mul_comm]; exact Nat.div_add_mod _ _
  rw [hjs, h] at e
  obtain rfl := Option.some.inj e
  have := hc (j / size) hd (j % size) _ (List.getElem?_eq_getElem hml)
  rw [Nat.add_assoc, hjs] at this
  exact this
section
variable {P : Program} {ops : Array Oper} {rest : List Oper} {o : Oper} {a : Act} {Q : Exit → Act → World → Prop}
theorem run_app_sl {α : Type} {enc : α → List Value} {w : World} {e t ty : TypeId} {size bytes : Nat} {z : Value} (ht : P.underlying t = some (.slice e)) (hinf : (P.info? e).map (fun i => (i.zero, i.size, i.bytes)) = some (some z, size, bytes)) (hzs : z.cells.size = size) (hsz : 0 < size)
    {base : Nat} {v : Value} {n : Nat} {xs : List Value} (hown : w.ownsRow base e size v n xs)
    {l : List α} (ao : Option Addr) (cap : Nat) (hy : SlT enc size w (.slice ao l.length cap) l) (henc : ∀ x, (enc x).length = size) (h1 : ∀ x, ∀ u ∈ enc x, u.oneCell' = true)
    (hlen : (n + l.length) * bytes ≤ 140737488355328 ∧ n + l.length ≤ 9223372036854775807) (hbase : base ≤ w.heap.size) :
    ∃ v' w', (Builtin.append_ #[t, t] ty #[v, .slice ao l.length cap]).run P w = .ok v' w' ∧ w'.ownsRow base e size v' (n + l.length) (xs ++ (l.map enc).flatten) ∧ w.grownBy w' v.ownBlock ∧ (v'.ownBlock = v.ownBlock ∨ v'.ownBlock = some w.heap.size) := by
  obtain ⟨i, hi, hz, hsize, hby⟩ := info_parts hinf
  obtain ⟨ao', cp, hv, _, _, hsh⟩ := hy.shape
  obtain ⟨rfl, rfl⟩ : ao = ao' ∧ cap = cp := by simpa using hv
  cases ao with
  | some ad =>
    obtain ⟨v', w', hrun, r1, r2, _, r3⟩ := run_append_own_at (P := P) w base t ty e i z size bytes ht hi hz hsize hby hzs hsz v n xs hown ad l.length cap (l.map enc).flatten (flat_length henc l)
      (fun j u hj => by
        have hl : 0 < l.length := by
          have := (List.getElem?_eq_some_iff.1 hj).1
          rw [flat_length henc] at this
          exact Nat.pos_of_ne_zero fun h0 => by rw [h0] at this; omega
        obtain ⟨b, off, hb, _, hc⟩ := hsh hl
        obtain rfl := Option.some.inj hb
        rw [add_none]
        exact flat_cell henc hsz l w b off hc j u hj)
      (fun u hu => by
        obtain ⟨c, hc, hu⟩ := List.mem_flatten.1 hu
        obtain ⟨y, _, rfl⟩ := List.mem_map.1 hc
        exact h1 y u hu) (by simp only [maxLen]; omega) hlen.1 hbase
    exact ⟨v', w', hrun, r1, r2, r3⟩
  | none =>
    have hl : l.length = 0 := Nat.eq_zero_of_not_pos fun h => by
      obtain ⟨b, off, hb, _⟩ := hsh h
      cases hb
    have : l = [] := List.eq_nil_of_length_eq_zero hl
    subst this
    have hS : Src P i.size t (.slice none 0 cap) 0 [] w := Src.ofNil w ht cap
    have hrun : (Builtin.append_ #[t, t] ty #[v, .slice none 0 cap]).run P w = .ok v w := by
      rcases hown.2 with ⟨rfl, rfl⟩ | ⟨g, cp, cur, rfl, _, _, hle, _⟩
      · exact run_append_nothing w t t ty e i ht hi none 0 0 (Nat.le_refl _) _ hS
      · exact run_append_nothing w t t ty e i ht hi _ n cp (by omega) _ hS
    refine ⟨v, w, hrun, by simpa using hown, World.grownBy.refl _ _, .inl rfl⟩
/-- append(v, y...): y a slice of records. -/
theorem app_recs {α : Type} {enc : α → List Value} {w0 : World} {e : TypeId} (hgd : o.guard = none) {s x : Operand} {t : TypeId}
    (ho : o.op = .call { callee := .builtin .append, args := #[s, x], argTypes := #[t, t] })
    {size bytes : Nat} {z : Value} (ht : P.underlying t = some (.slice e)) (hinf : (P.info? e).map (fun i => (i.zero, i.size, i.bytes)) = some (some z, size, bytes)) (hzs : z.cells.size = size) (hsz : 0 < size)
    {base : Nat} {v : Value} {n : Nat} {xs : List Value} (hown : w0.ownsRow base e size v n xs) (hs : a.eval s = v)
    {l : List α} (ad : Option Addr) (cap : Nat) (hy : SlT enc size w0 (.slice ad l.length cap) l) (hx : a.eval x = .slice ad l.length cap) (henc : ∀ x, (enc x).length = size) (h1 : ∀ x, ∀ u ∈ enc x, u.oneCell' = true)
    (hlen : (n + l.length) * bytes ≤ 140737488355328 ∧ n + l.length ≤ 9223372036854775807) {B0 : Nat} {W0 : World} (hbl : Below B0 W0 w0) (hB : B0 ≤ base) (hbase : base ≤ w0.heap.size)
    (hK : ∀ v' w', w'.ownsRow base e size v' (n + l.length) (xs ++ (l.map enc).flatten) → Below B0 W0 w' → w0.grownBy w' v.ownBlock → wpList P ops Q rest (a.put o.dst v') w') :
    wpList P ops Q (o :: rest) a w0 := by
  refine wpList_plain hgd fun K hK2 => ?_
  obtain ⟨v', w', hr, h2, h3, _⟩ := run_app_sl (P := P) (ty := o.type) ht hinf hzs hsz hown ad cap hy henc h1 hlen hbase
  unfold Oper.wp execOp
  simp only [ho, resolve, invoke, builtin, Sem.run_bind, Sem.run_pure, Result.andThen_ok, List.map_toArray, List.map_cons, List.map_nil, hs, hx, hr]
  exact hK2 _ _ (hK v' w' h2 (hbl.grown h3 (by omega) fun k hk => by have := hown.lt k hk; omega) h3)
end
end Go.Proofs.Ytfbbdnicplbmdaa
/- Laws for one step of a region that draws its order: append of a whole slice of records. No program in sight. -/
set_option linter.unusedVariables false
set_option linter.unusedSimpArgs false
namespace Go.Proofs.Ytfbbdnicplbmdaa
open Go.RowKit Sp

theorem own0 {W : World} {e : TypeId} {size base k : Nat} (hk : W.heap.size = k) (hb : base ≤ k) : (W.alloc (.cells #[] e)).ownsRow base e size (.slice (some ⟨k, 0, none⟩) 0 0) 0 [] := by
  subst hk
  exact World.ownsRow_lit (base := base) (e := e) (size := size) W #[] 0 hb (by simp [maxLen]) (by simp)
/-- A row of one's own is left alone by what grows another block. -/
theorem own_grown {w w' : World} {base e size : Nat} {v : Value} {n : Nat} {xs : List Value} {r : Option Nat} (h : w.ownsRow base e size v n xs) (hg : w.grownBy w' r) (hne : ∀ k, v.ownBlock = some k → r ≠ some k) : w'.ownsRow base e size v n xs := by
  refine ⟨h.1, ?_⟩
  rcases h.2 with hn | ⟨g, cap, cur, hv, hb', hc, rest⟩
  · exact .inl hn
  · exact .inr ⟨g, cap, cur, hv, hb', (hg.block g (Array.getElem?_eq_some_iff.1 hc).1 (by have := hne g (by rw [hv]; rfl); exact fun e => this e.symm)).trans hc, rest⟩
theorem own_ne {a b n c m d : Nat} (h : a ≠ b) : ∀ k, (Value.slice (some ⟨a, 0, none⟩) n c).ownBlock = some k → (Value.slice (some ⟨b, 0, none⟩) m d).ownBlock ≠ some k := by
  intro k h1 h2
  simp [Value.ownBlock] at h1 h2
  omega
/-- Two values whose own blocks are not one. -/
def Apart (a b : Value) : Prop := ∀ k, a.ownBlock = some k → b.ownBlock ≠ some k

theorem step_app_recs {α : Type} {enc : α → List Value} {P : Program} {ops : Array Oper} {o : Oper} {a : Act} {w : World} {K : Act → World → Prop} {Q : Exit → Act → World → Prop} {E : Prop}
    (hgd : o.guard = none) {s x : Operand} {t : TypeId} (hop : o.op = Op.call { callee := Callee.builtin Builtin.append, args := #[s, x], argTypes := #[t, t] })
    {e : TypeId} {size bytes : Nat} {z : Value} (ht : P.underlying t = some (.slice e)) (hinf : (P.info? e).map (fun i => (i.zero, i.size, i.bytes)) = some (some z, size, bytes)) (hzs : z.cells.size = size) (hsz : 0 < size)
    {base : Nat} {v : Value} {n : Nat} {xs : List Value} (hs : a.eval s = v) (hown : w.ownsRow base e size v n xs)
    {l : List α} (ad : Option Addr) (cap : Nat) (hx : a.eval x = .slice ad l.length cap) (hy : SlT enc size w (.slice ad l.length cap) l) (henc : ∀ x, (enc x).length = size) (h1 : ∀ x, ∀ u ∈ enc x, u.oneCell' = true)
    (hlen : (n + l.length) * bytes ≤ 140737488355328 ∧ n + l.length ≤ 9223372036854775807) {B0 : Nat} {W0 : World} (hbl : Below B0 W0 w) (hB : B0 ≤ base) (hbase : base ≤ w.heap.size)
    (hK : ∀ v' w', w'.ownsRow base e size v' (n + l.length) (xs ++ (l.map enc).flatten) → Below B0 W0 w' → w.grownBy w' v.ownBlock → (v'.ownBlock = v.ownBlock ∨ v'.ownBlock = some w.heap.size) → K (a.put o.dst v') w') :
    if Region.wanted o (yielded ops a.tmps) = true then Oper.wp P o a w K Q else E := by
  have hw : Region.wanted o (yielded ops a.tmps) = true := by simp [Region.wanted, hgd]
  rw [if_pos hw]
  obtain ⟨v', w', hrun, r1, r2, r3⟩ := run_app_sl (P := P) (ty := o.type) ht hinf hzs hsz hown ad cap hy henc h1 hlen hbase
  have hb2 : Below B0 W0 w' := hbl.grown r2 (by omega) fun k hk => by have := hown.lt k hk; omega
  unfold Oper.wp
  simp [execOp, hop, resolve, invoke, builtin, hs, hx, hrun, Result.andThen]
  exact hK v' w' r1 hb2 r2 r3
theorem step_app_at {P : Program} {ops : Array Oper} {o : Oper} {a : Act} {w : World} {K : Act → World → Prop} {Q : Exit → Act → World → Prop} {E : Prop}
    (hgd : o.guard = none) {s x : Operand} {t : TypeId} (hop : o.op = Op.call { callee := Callee.builtin Builtin.append, args := #[s, x], argTypes := #[t, t] })
    {e : TypeId} {size bytes : Nat} {z : Value} (ht : P.underlying t = some (.slice e)) (hinf : (P.info? e).map (fun i => (i.zero, i.size, i.bytes)) = some (some z, size, bytes)) (hzs : z.cells.size = size) (hsz : 0 < size)
    {base : Nat} {v : Value} {n : Nat} {xs : List Value} (hs : a.eval s = v) (hown : w.ownsRow base e size v n xs)
    {g : Nat} {news : Array Value} (m : Nat) (hx : a.eval x = .slice (some ⟨g, 0, none⟩) m m) (hg : w.heap[g]? = some (.cells news e (0, 0))) (hl : news.size = m * size) (h1 : ∀ u ∈ news.toList, u.oneCell' = true)
    (hlen : (n + m) * bytes ≤ 140737488355328 ∧ n + m ≤ 9223372036854775807) {B0 : Nat} {W0 : World} (hbl : Below B0 W0 w) (hB : B0 ≤ base) (hbase : base ≤ w.heap.size)
    (hK : ∀ v' w', w'.ownsRow base e size v' (n + m) (xs ++ news.toList) → Below B0 W0 w' → w.grownBy w' v.ownBlock → (v'.ownBlock = v.ownBlock ∨ v'.ownBlock = some w.heap.size) → K (a.put o.dst v') w') :
    if Region.wanted o (yielded ops a.tmps) = true then Oper.wp P o a w K Q else E := by
  have hw : Region.wanted o (yielded ops a.tmps) = true := by simp [Region.wanted, hgd]
  rw [if_pos hw]
  obtain ⟨i, hi, hz, hsize, hby⟩ := info_parts hinf
  obtain ⟨v', w', hrun, r1, r2, _, r3⟩ := run_append_own_at (P := P) w base t o.type e i z size bytes ht hi hz hsize hby hzs hsz v n xs hown ⟨g, 0, none⟩ m m news.toList (by simpa using hl)
    (fun j u hj => by rw [add_none, Nat.zero_add, cell_of_row w g j news e (0, 0) hg]; simpa using hj) h1 (by simp only [maxLen]; omega) hlen.1 hbase
  have hb2 : Below B0 W0 w' := hbl.grown r2 (by omega) fun k hk => by have := hown.lt k hk; omega
  unfold Oper.wp
  simp [execOp, hop, resolve, invoke, builtin, hs, hx, hrun, Result.andThen]
  exact hK v' w' r1 hb2 r2 r3
end Go.Proofs.Ytfbbdnicplbmdaa
/- Laws of the walk: rows of one's own beside boxes that were laid behind them. No program in sight. -/
set_option linter.unusedVariables false
set_option linter.unusedSimpArgs false
namespace Go.Proofs.Ytfbbdnicplbmdaa
open Go.RowKit Sp
theorem own_far {w : World} {base e size : Nat} {v : Value} {n : Nat} {xs : List Value} (h : w.ownsRow base e size v n xs) (p : Addr) (u : Value) (hp : v.ownBlock ≠ some p.block) : (w.setCell p u).ownsRow base e size v n xs := by
  refine ⟨h.1, ?_⟩
  rcases h.2 with hn | ⟨g, cap, cur, hv, hb', hg, rest⟩
  · exact .inl hn
  · exact .inr ⟨g, cap, cur, hv, hb', (Below.heap_setCell _ _ _ _ (by intro e; apply hp; rw [hv, ← e]; rfl)).trans hg, rest⟩
/-- What a row's growth leaves alone: cells and marks of a block that is not the row's. -/
theorem gcell {w w' : World} {r : Option Nat} (hg : w.grownBy w' r) {b : Nat} (hb : b < w.heap.size) (hn : r ≠ some b) :
    (∀ o, w'.cell? ⟨b, o, none⟩ = w.cell? ⟨b, o, none⟩) ∧ (∀ o, w'.frozen? ⟨b, o, none⟩ = w.frozen? ⟨b, o, none⟩) := by
  have h := hg.block b hb (fun e => hn e.symm)
  refine ⟨fun o => ?_, fun o => ?_⟩
  · simp only [World.cell?]; rw [h]
  · simp only [World.frozen?]; rw [h]
section
variable {P : Program} {ops : Array Oper} {rest : List Oper} {o : Oper} {a : Act} {Q : Exit → Act → World → Prop}
theorem app_new_at {w0 : World} {news : Array Value} {e : TypeId} (hgd : o.guard = none) {s x : Operand} {t : TypeId}
    (ho : o.op = .call { callee := .builtin .append, args := #[s, x], argTypes := #[t, t] })
    {size bytes : Nat} {z : Value} (ht : P.underlying t = some (.slice e)) (hinf : (P.info? e).map (fun i => (i.zero, i.size, i.bytes)) = some (some z, size, bytes)) (hzs : z.cells.size = size) (hsz : 0 < size)
    {base : Nat} {v : Value} {n : Nat} {xs : List Value} (hown : w0.ownsRow base e size v n xs) (hs : a.eval s = v)
    (m : Nat) (hx : a.eval x = .slice (some ⟨w0.heap.size, 0, none⟩) m m) (hl : news.size = m * size) (h1 : ∀ u ∈ news.toList, u.oneCell' = true)
    (hlen : (n + m) * bytes ≤ 140737488355328 ∧ n + m ≤ 9223372036854775807) {B0 : Nat} {W0 : World} (hbl : Below B0 W0 w0) (hB : B0 ≤ base) (hbase : base ≤ w0.heap.size)
    (hK : ∀ v' w', w'.ownsRow base e size v' (n + m) (xs ++ news.toList) → Below B0 W0 w' → w0.grownBy w' v.ownBlock → (v'.ownBlock = v.ownBlock ∨ v'.ownBlock = some (w0.heap.size + 1)) → wpList P ops Q rest (a.put o.dst v') w') :
    wpList P ops Q (o :: rest) a (w0.alloc (.cells news e)) := by
  obtain ⟨i, hi, hz, hsize, hby⟩ := info_parts hinf
  refine wpList_append_own_at (w := w0.alloc (.cells news e)) hgd s x t ho base e i z size bytes ht hi hz hsize hby hzs hsz v n xs hs (hown.alloc _) ⟨w0.heap.size, 0, none⟩ m m news.toList hx (by simpa using hl) (cells_new w0 news e) h1
    (by simp only [maxLen]; omega) hlen.1 (by simp; omega) fun v' w' h2 h3 _ h5 => hK v' w' h2 ?_ ?_ (by simpa using h5)
  · refine (hbl.alloc (by omega) _).grown h3 (by simp; omega) fun k hk => ?_
    have := hown.lt k hk
    omega
  · exact ⟨h3.os, h3.tape, h3.output, Nat.le_trans (by simp) h3.size, fun k hk hne => (h3.block k (by simp; omega) hne).trans (Below.heap_alloc w0 _ k hk)⟩
end
end Go.Proofs.Ytfbbdnicplbmdaa
/- Plain: boxes of one's own, and what keeps them. -/
set_option linter.unusedVariables false
set_option linter.unusedSimpArgs false
namespace Go.Proofs.Ytfbbdnicplbmdaa
open Go.RowKit Sp Go.Sort
/-- The block b holds the cells c. -/
def Bx (w : World) (b : Nat) (c : Array Value) : Prop := ∃ T, w.heap[b]? = some (.cells c T (0, 0))
theorem Bx.new (w : World) (c : Array Value) (T : TypeId) : Bx (w.alloc (.cells c T)) w.heap.size c := ⟨T, heap_alloc_new w _⟩
theorem Bx.lt {w : World} {b : Nat} {c : Array Value} (h : Bx w b c) : b < w.heap.size := by
  obtain ⟨T, hT⟩ := h; exact (Array.getElem?_eq_some_iff.1 hT).1
theorem Bx.below {w w' : World} {b : Nat} {c : Array Value} (h : Bx w b c) (hb : Below w.heap.size w w') : Bx w' b c := by
  obtain ⟨T, hT⟩ := h
  exact ⟨T, (hb.block b (Array.getElem?_eq_some_iff.1 hT).1).trans hT⟩
theorem Bx.grown {w w' : World} {b : Nat} {c : Array Value} (h : Bx w b c) {r : Option Nat} (hg : w.grownBy w' r) (hn : r ≠ some b) : Bx w' b c := by
  have hl := h.lt
  obtain ⟨T, hT⟩ := h
  exact ⟨T, (hg.block b hl (fun e => hn e.symm)).trans hT⟩
theorem Bx.cell {w : World} {b : Nat} {c : Array Value} (h : Bx w b c) (i : Nat) (u : Value) (hu : c[i]? = some u) : w.cell? ⟨b, i, none⟩ = some u := by
  obtain ⟨T, hT⟩ := h
  rw [Lib.cell_of_heap hT]; exact hu
theorem Bx.frozen {w : World} {b : Nat} {c : Array Value} (h : Bx w b c) (j : Nat) : w.frozen? ⟨b, j, none⟩ = false := by
  obtain ⟨T, hT⟩ := h
  exact Lib.frozen_of_heap hT j
theorem Bx.set {w : World} {b : Nat} {c : Array Value} (h : Bx w b c) (i : Nat) (u : Value) : Bx (w.setCell ⟨b, i, none⟩ u) b (c.setIfInBounds i u) := by
  obtain ⟨T, hT⟩ := h
  refine ⟨T, ?_⟩
  simp only [World.setCell]
  rw [Array.getElem?_modify, if_pos rfl, hT]; rfl
theorem Bx.far {w : World} {b : Nat} {c : Array Value} (h : Bx w b c) (p : Addr) (u : Value) (hp : b ≠ p.block) : Bx (w.setCell p u) b c := by
  obtain ⟨T, hT⟩ := h
  exact ⟨T, (Below.heap_setCell _ _ _ _ hp).trans hT⟩
theorem Rd.bx {w : World} {b p : Nat} {s : ByteArray} {bad : Bool} (h : Rd w b s p bad) : Bx w b #[.string s, .int .i64 (p : Nat), .bool bad] := h
theorem Rd.of {w : World} {b p : Nat} {s : ByteArray} {bad : Bool} (h : Bx w b #[.string s, .int .i64 (p : Nat), .bool bad]) : Rd w b s p bad := h
theorem below_set {B : Nat} {w wa : World} (h : Below B w wa) (p : Addr) (u : Value) (hp : B ≤ p.block) : Below B w (wa.setCell p u) :=
  h.trans ⟨rfl, rfl, rfl, by simp [World.setCell], fun k hk => Below.heap_setCell _ _ _ _ (by omega)⟩
end Go.Proofs.Ytfbbdnicplbmdaa
/- Walks: what two keys share. -/
set_option linter.unusedVariables false
set_option linter.unusedSimpArgs false
namespace Go.Proofs.Ytfbbdnicplbmdaa
open Go.RowKit Sp Go.Sort

set_option maxRecDepth 100000 in
set_option maxHeartbeats 800000 in
theorem commonPrefix_any (a b : ByteArray) (w : World) (ha : (a.size : Int) ≤ 1048576) (hb : (b.size : Int) ≤ 1048576) :
    Calls Try.prog 149 #[.string a, .string b] w fun e w' => e = .returned (.int .i64 (comm a.data.toList b.data.toList : Nat)) ∧ Below w.heap.size w w' := by
  go_enter Try.func149, Try.ntmps149
  go_wp2
  go_loopw [5] (fun i wr => ∃ k : Nat, k ≤ a.size ∧ k ≤ b.size ∧ i = .int .i64 k ∧ comm a.data.toList b.data.toList = k + comm (a.data.toList.drop k) (b.data.toList.drop k) ∧ Below w.heap.size w wr) (fun i _ => a.size - (intOf i).toNat)
  case atStart => exact ⟨0, by omega, by omega, rfl, by simp, Below.refl _ _⟩
  case round =>
    obtain ⟨k, hka, hkb, rfl, hc, hbl⟩ := hrel
    have hsa : a.data.toList.length = a.size := by simp
    have hsb : b.data.toList.length = b.size := by simp
    by_cases h1 : k < a.size
    · have q1 : (decide ((k : Int) < (a.size : Int))) = true := decide_eq_true (by omega)
      have g1 : (k : Int) < (a.size : Int) := by omega
      by_cases h2 : k < b.size
      · have q2 : (decide ((k : Int) < (b.size : Int))) = true := decide_eq_true (by omega)
        have g2 : (k : Int) < (b.size : Int) := by omega
        have e1 : a.data.toList[k]'(by simpa using h1) = a[k] := rfl
        have e2 : b.data.toList[k]'(by simpa using h2) = b[k] := rfl
        rcases hq : (((a[k].toNat : Nat) : Int) == ((b[k].toNat : Nat) : Int)) with _ | _
        · have hne : a.data.toList[k]'(by simpa using h1) ≠ b.data.toList[k]'(by simpa using h2) := by
            rw [e1, e2]; intro he; rw [he] at hq; simp at hq
          have hfin : comm a.data.toList b.data.toList = k := by rw [hc, comm_miss (s := a.data.toList) (t := b.data.toList) (by simpa using h1) (by simpa using h2) hne]; rfl
          have HF := Lib.hid hfin
          clear hne e1 e2 hc hfin hsa hsb
          go_wp2
          go_quiet (fail)
          have x3 := below_drewN hbl nq
          generalize wr.drewN nq = W2 at x3 ⊢
          go_wp2
          go_ret
          exact ⟨by rw [HF.out]; rfl, x3⟩
        · have heq : a.data.toList[k]'(by simpa using h1) = b.data.toList[k]'(by simpa using h2) := by
            rw [e1, e2]; simp at hq; exact UInt8.toNat_inj.1 (by omega)
          have HN := Lib.hid (show comm a.data.toList b.data.toList = (k + 1) + comm (a.data.toList.drop (k + 1)) (b.data.toList.drop (k + 1)) from by rw [hc, comm_hit (by simpa using h1) (by simpa using h2) heq]; omega)
          clear heq e1 e2 hc hsa hsb
          go_wp2
          go_quiet (fail)
          have x3 := below_drewN hbl nq
          generalize wr.drewN nq = W2 at x3 ⊢
          go_wp2
          go_roundw
          case rel => exact ⟨k + 1, by omega, by omega, by go_num, HN.out, x3⟩
          case measure => simp [intOf]; omega
      · have q2 : (decide ((k : Int) < (b.size : Int))) = false := decide_eq_false (by omega)
        have HF := Lib.hid (show comm a.data.toList b.data.toList = k from by rw [hc, comm_end2 (by omega)]; rfl)
        clear hc hsa hsb
        go_wp2
        go_quiet (fail)
        have x3 := below_drewN hbl nq
        generalize wr.drewN nq = W2 at x3 ⊢
        go_wp2
        go_ret
        exact ⟨by rw [HF.out]; rfl, x3⟩
    · have q1 : (decide ((k : Int) < (a.size : Int))) = false := decide_eq_false (by omega)
      have HF := Lib.hid (show comm a.data.toList b.data.toList = k from by rw [hc, comm_end1 (by omega)]; rfl)
      clear hc hsa hsb
      go_wp2
      go_quiet (fail)
      have x3 := below_drewN hbl nq
      generalize wr.drewN nq = W2 at x3 ⊢
      go_wp2
      go_ret
      exact ⟨by rw [HF.out]; rfl, x3⟩

set_option maxRecDepth 100000 in
set_option maxHeartbeats 800000 in
theorem l11Shared_any (a b : ByteArray) (w : World) (ha : (a.size : Int) ≤ 1048576) (hb : (b.size : Int) ≤ 1048576) :
    Calls Try.prog 170 #[.string a, .string b] w fun e w' => e = .returned (.int .i64 (comm a.data.toList b.data.toList : Nat)) ∧ Below w.heap.size w w' := by
  go_enter Try.func170, Try.ntmps170
  go_wp2
  go_loopw [5] (fun i wr => ∃ k : Nat, k ≤ a.size ∧ k ≤ b.size ∧ i = .int .i64 k ∧ comm a.data.toList b.data.toList = k + comm (a.data.toList.drop k) (b.data.toList.drop k) ∧ Below w.heap.size w wr) (fun i _ => a.size - (intOf i).toNat)
  case atStart => exact ⟨0, by omega, by omega, rfl, by simp, Below.refl _ _⟩
  case round =>
    obtain ⟨k, hka, hkb, rfl, hc, hbl⟩ := hrel
    have hsa : a.data.toList.length = a.size := by simp
    have hsb : b.data.toList.length = b.size := by simp
    by_cases h1 : k < a.size
    · have q1 : (decide ((k : Int) < (a.size : Int))) = true := decide_eq_true (by omega)
      have g1 : (k : Int) < (a.size : Int) := by omega
      by_cases h2 : k < b.size
      · have q2 : (decide ((k : Int) < (b.size : Int))) = true := decide_eq_true (by omega)
        have g2 : (k : Int) < (b.size : Int) := by omega
        have e1 : a.data.toList[k]'(by simpa using h1) = a[k] := rfl
        have e2 : b.data.toList[k]'(by simpa using h2) = b[k] := rfl
        rcases hq : (((a[k].toNat : Nat) : Int) == ((b[k].toNat : Nat) : Int)) with _ | _
        · have hne : a.data.toList[k]'(by simpa using h1) ≠ b.data.toList[k]'(by simpa using h2) := by
            rw [e1, e2]; intro he; rw [he] at hq; simp at hq
          have hfin : comm a.data.toList b.data.toList = k := by rw [hc, comm_miss (s := a.data.toList) (t := b.data.toList) (by simpa using h1) (by simpa using h2) hne]; rfl
          have HF := Lib.hid hfin
          clear hne e1 e2 hc hfin hsa hsb
          go_wp2
          go_quiet (fail)
          have x3 := below_drewN hbl nq
          generalize wr.drewN nq = W2 at x3 ⊢
          go_wp2
          go_ret
          exact ⟨by rw [HF.out]; rfl, x3⟩
        · have heq : a.data.toList[k]'(by simpa using h1) = b.data.toList[k]'(by simpa using h2) := by
            rw [e1, e2]; simp at hq; exact UInt8.toNat_inj.1 (by omega)
          have HN := Lib.hid (show comm a.data.toList b.data.toList = (k + 1) + comm (a.data.toList.drop (k + 1)) (b.data.toList.drop (k + 1)) from by rw [hc, comm_hit (by simpa using h1) (by simpa using h2) heq]; omega)
          clear heq e1 e2 hc hsa hsb
          go_wp2
          go_quiet (fail)
          have x3 := below_drewN hbl nq
          generalize wr.drewN nq = W2 at x3 ⊢
          go_wp2
          go_roundw
          case rel => exact ⟨k + 1, by omega, by omega, by go_num, HN.out, x3⟩
          case measure => simp [intOf]; omega
      · have q2 : (decide ((k : Int) < (b.size : Int))) = false := decide_eq_false (by omega)
        have HF := Lib.hid (show comm a.data.toList b.data.toList = k from by rw [hc, comm_end2 (by omega)]; rfl)
        clear hc hsa hsb
        go_wp2
        go_quiet (fail)
        have x3 := below_drewN hbl nq
        generalize wr.drewN nq = W2 at x3 ⊢
        go_wp2
        go_ret
        exact ⟨by rw [HF.out]; rfl, x3⟩
    · have q1 : (decide ((k : Int) < (a.size : Int))) = false := decide_eq_false (by omega)
      have HF := Lib.hid (show comm a.data.toList b.data.toList = k from by rw [hc, comm_end1 (by omega)]; rfl)
      clear hc hsa hsb
      go_wp2
      go_quiet (fail)
      have x3 := below_drewN hbl nq
      generalize wr.drewN nq = W2 at x3 ⊢
      go_wp2
      go_ret
      exact ⟨by rw [HF.out]; rfl, x3⟩
end Go.Proofs.Ytfbbdnicplbmdaa
/- Walks: ShowBlock of the reference. -/
set_option linter.unusedVariables false
set_option linter.unusedSimpArgs false
namespace Go.Proofs.Ytfbbdnicplbmdaa
open Go.RowKit Sp Go.Sort
attribute [local go_sem] str_size str_append
theorem str_zero (a : List UInt8) : str a ++ (ByteArray.mk #[0]) = str (a ++ [0]) := str_append a [0]
theorem str_one (a : List UInt8) : str a ++ (ByteArray.mk #[1]) = str (a ++ [1]) := str_append a [1]
attribute [local go_sem] str_zero str_one

set_option maxRecDepth 100000 in
set_option maxHeartbeats 1600000 in
theorem specShowBlock (v : Value) (l : List EntR) (w : World) (h : SlT EntR.cells 4 w v l) (hl : (l.length : Int) ≤ 1048576) :
    Calls Try.prog 123 #[v] w fun e w' => e = .returned (.string (str (showBlkL l))) ∧ Below w.heap.size w w' := by
  have hh := h
  obtain ⟨ao, cap, rfl, hlc, hcm, hsh⟩ := hh.shape
  rcases hn : inB l.length 1 16 with _ | _
  · have HR := Lib.hid (showBlkL_not (l := l) (by simp [blockB, hn]))
    clear hsh hh
    go_enter Try.func123, Try.ntmps123
    go_wp2_with (go_at_call 104; refine (l1In_any _ _ _ _).mono ?_; rintro e w' ⟨rfl, rfl⟩; rw [hn])
    go_ret
    exact ⟨by rw [HR.out]; rfl, Below.refl _ _⟩
  rcases he : entsB l with _ | _
  · have HR := Lib.hid (showBlkL_not (l := l) (by simp [blockB, he]))
    clear hsh hh
    go_enter Try.func123, Try.ntmps123
    go_wp2_with (first | (go_at_call 104; refine (l1In_any _ _ _ _).mono ?_; rintro e w' ⟨rfl, rfl⟩; rw [hn]) | (go_at_call 142; refine (specEnts_any _ l _ h hl).mono ?_; rintro e w1 ⟨rfl, b1⟩; rw [he]))
    go_ret
    exact ⟨by rw [HR.out]; rfl, b1⟩
  have HR := Lib.hid (showBlkL_yes (l := l) (by simp [blockB, hn, he]))
  have h16 : l.length ≤ 16 := by simp [inB] at hn; omega
  have HSZ := Lib.hid (fun k hk => entsB_sizes he k hk)
  have HLN := Lib.hid (fun k hk => blkTo_len he k hk)
  go_enter Try.func123, Try.ntmps123
  go_upto_region 3 with (first | (go_at_call 104; refine (l1In_any _ _ _ _).mono ?_; rintro e w' ⟨rfl, rfl⟩; rw [hn]) | (go_at_call 142; refine (specEnts_any _ l _ h hl).mono ?_; rintro e w1 ⟨rfl, b1⟩; rw [he]))
  clear hn he
  go_wp2
  go_loopw [3, 4, 5, 6] (fun s p n i wr => ∃ k : Nat, k ≤ l.length ∧ i = .int .i64 k ∧ s = .string (str (blkTo l k)) ∧ p = .string (str (plcL (plcTo l k))) ∧ n = .int .i64 ((plcTo l k).length : Nat) ∧ Below w.heap.size w wr) (fun _ _ _ i _ => l.length - (intOf i).toNat)
  case atStart => exact ⟨0, by omega, rfl, rfl, rfl, rfl, b1⟩
  case round =>
    obtain ⟨k, hk, rfl, rfl, rfl, rfl, hbl⟩ := hrel
    have hbk := HLN.out k hk
    have hpk := plcTo_len l k
    have hpl := plcL_len (plcTo l k)
    by_cases hlt : k < l.length
    · obtain ⟨b, off, hb, hbs, hc⟩ := hsh (by omega)
      subst hb
      have hc0 : wr.cell? ⟨b, off + k * 4, none⟩ = some (.string l[k].key) := (hbl.cell (p := ⟨b, off + k * 4, none⟩) hbs).trans (hc k hlt 0 _ rfl)
      have hc1 : wr.cell? ⟨b, off + k * 4 + 1, none⟩ = some (.int .i64 l[k].seq) := (hbl.cell (p := ⟨b, off + k * 4 + 1, none⟩) hbs).trans (hc k hlt 1 _ rfl)
      have hc2 : wr.cell? ⟨b, off + k * 4 + 2, none⟩ = some (.bool l[k].del) := (hbl.cell (p := ⟨b, off + k * 4 + 2, none⟩) hbs).trans (hc k hlt 2 _ rfl)
      have hc3 : wr.cell? ⟨b, off + k * 4 + 3, none⟩ = some (.string l[k].val) := (hbl.cell (p := ⟨b, off + k * 4 + 3, none⟩) hbs).trans (hc k hlt 3 _ rfl)
      have hsz := HSZ.out k hlt
      have HS := Lib.hid (blkTo_step hlt)
      have HL : ∀ n, entL n l[k] = varL n ++ (pieL (l[k].key.data.toList.drop n) ++ (varL l[k].seq ++ ((if l[k].del then [1] else [0]) ++ pieL l[k].val.data.toList))) := fun n => rfl
      have hshl := shr_le hlt
      have HN : ¬ k % 4 = 0 → ∃ p : ByteArray, wr.cell? ⟨b, off + (k - 1) * 4, none⟩ = some (.string p) ∧ p.size ≤ 10 ∧ shr l k = comm p.data.toList l[k].key.data.toList := fun h4 => by
        have hp : k - 1 < l.length := by omega
        exact ⟨l[k - 1].key, (hbl.cell (p := ⟨b, off + (k - 1) * 4, none⟩) hbs).trans (hc (k - 1) hp 0 _ rfl), (HSZ.out (k - 1) hp).1, by rw [shr_next h4 hlt hp, comm_symm]⟩
      have HNN := Lib.hid HN
      clear hc hsh h hh HN
      generalize l[k].key = ky at *
      generalize l[k].seq = sq at *
      generalize l[k].val = vl at *
      generalize hd : l[k].del = dl at *
      generalize hT : blkTo l k = T at *
      generalize hU : plcTo l k = U at *
      generalize hS4 : shr l k = sn at *
      cases dl with
      | false =>
        have HP := Lib.hid HL
        clear HL
        by_cases h4 : k % 4 = 0
        · have h4i : ((k : Int) % 4) = 0 := by omega
          have HB := Lib.hid (show plcTo l (k + 1) = U ++ [(T.length : Int)] from by have h := plcTo_hit l h4; rwa [hU, hT] at h)
          have HZ := Lib.hid (show sn = 0 from by rw [← hS4]; exact shr_zero h4)
          go_upto_region 12 with fail
          have d0 : (wr.alloc (.cells #[.string ky, .int .i64 sq, .bool false, .string vl] 30)).cell? ⟨wr.heap.size, 0, none⟩ = some (.string ky) := by simp [go_sem]
          have d1 : (wr.alloc (.cells #[.string ky, .int .i64 sq, .bool false, .string vl] 30)).cell? ⟨wr.heap.size, 1, none⟩ = some (.int .i64 sq) := by simp [go_sem]
          have d2 : (wr.alloc (.cells #[.string ky, .int .i64 sq, .bool false, .string vl] 30)).cell? ⟨wr.heap.size, 2, none⟩ = some (.bool false) := by simp [go_sem]
          have d3 : (wr.alloc (.cells #[.string ky, .int .i64 sq, .bool false, .string vl] 30)).cell? ⟨wr.heap.size, 3, none⟩ = some (.string vl) := by simp [go_sem]
          have hzA : wr.heap.size < (wr.alloc (.cells #[.string ky, .int .i64 sq, .bool false, .string vl] 30)).heap.size := by simp
          have xA := hbl.alloc hbl.size (.cells #[.string ky, .int .i64 sq, .bool false, .string vl] 30)
          generalize (wr.alloc (.cells #[.string ky, .int .i64 sq, .bool false, .string vl] 30)) = wA at d0 d1 d2 d3 xA hzA ⊢
          clear hc0 hc1 hc2 hc3
          have hvT := varL_length (T.length : Int)
          go_upto_region 18 with (go_at_call 131; refine (specVar _ _).mono ?_; rintro e w2 ⟨rfl, b2⟩; have x2 := xA.trans (b2.mono xA.size); obtain ⟨hc, hf⟩ := bcell b2; have f0 := (hc wr.heap.size 0 hzA).trans d0; have f1 := (hc wr.heap.size 1 hzA).trans d1; have f2 := (hc wr.heap.size 2 hzA).trans d2; have f3 := (hc wr.heap.size 3 hzA).trans d3; clear hc hf d0 d1 d2 d3)
          have k0 := cell_regrown f0
          have hv1 := varL_length (0 : Int)
          have hv2 := varL_length sq
          have hp1 := pie_len ky.data.toList
          have hp2 := pie_len vl.data.toList
          have hky : ky.data.toList.length = ky.size := by simp
          have hvs : vl.data.toList.length = vl.size := by simp
          skip
          have k1 := cell_regrown f1
          have k3 := cell_regrown f3
          have cA : ∀ d os, Calls Try.prog 131 #[.int .i64 0] (grow (redrawn w2 d) os) fun e w'' => e = .returned (.string (str (varL 0))) ∧ ∃ p : Regrown, w'' = grow (redrawn w2 p.d) p.os := fun d os => Calls.regrown_of (specVar _ _)
          have cC : ∀ d os, Calls Try.prog 131 #[.int .i64 sq] (grow (redrawn w2 d) os) fun e w'' => e = .returned (.string (str (varL sq))) ∧ ∃ p : Regrown, w'' = grow (redrawn w2 p.d) p.os := fun d os => Calls.regrown_of (specVar _ _)
          have cD : ∀ d os, Calls Try.prog 132 #[.string vl] (grow (redrawn w2 d) os) fun e w'' => e = .returned (.string (str (pieL vl.data.toList))) ∧ ∃ p : Regrown, w'' = grow (redrawn w2 p.d) p.os := fun d os => Calls.regrown_of (l6Piece_any _ _ (by omega))
          have cB : ∀ d os, Calls Try.prog 132 #[.string ky] (grow (redrawn w2 d) os) fun e w'' => e = .returned (.string (str (pieL ky.data.toList))) ∧ ∃ p : Regrown, w'' = grow (redrawn w2 p.d) p.os := fun d os => Calls.regrown_of (by have h := l6Piece_any ky (grow (redrawn w2 d) os) (by omega); exact h)
          refine wp_region_quiet_below (by kernel_rfl) (by kernel_rfl) ?_
          iterate 2 (go_big_quiet_step (fail))
          go_big_quiet_step (exact cA _ _)
          iterate 5 (go_big_quiet_step (fail))
          go_big_quiet_step (exact cB _ _)
          iterate 3 (go_big_quiet_step (fail))
          go_big_quiet_step (exact cC _ _)
          iterate 5 (go_big_quiet_step (fail))
          go_big_quiet_step (exact cD _ _)
          repeat (go_big_quiet_step (fail))
          refine wpQuiet_nil ?_
          intro w4 hw'
          have x4 : RowKit.Below w.heap.size w w4 := by obtain ⟨p, rfl⟩ := hw'; exact x2.trans ((below_regrown _ _ _).mono x2.size)
          clear hw' cA cB cC cD k0 k1 k3 f0 f1 f2 f3
          go_wp2
          go_roundw
          case rel => exact ⟨k + 1, by omega, by go_num, by rw [HS.out, HP.out, HZ.out]; simp, by rw [HB.out]; rw [plcL_snoc], by rw [HB.out]; simp, x4⟩
          case measure => simp [intOf]; omega
        · obtain ⟨p, hpc, hps, hpe⟩ := HNN.out h4
          have hp0 : (0 : Int) ≤ (k : Int) - 1 := by omega
          have hp1' : ((k : Int) - 1).toNat = k - 1 := by omega
          have hp2 : (k : Int) - 1 < l.length := by omega
          have hp3 : IntKind.i64.wrap ((k : Int) - 1) = (k : Int) - 1 := by rw [IntKind.wrap_i64]; omega
          have h4i : ¬ ((k : Int) % 4) = 0 := by omega
          have HB := Lib.hid (show plcTo l (k + 1) = U from by rw [plcTo_miss l h4, hU])
          have HZ := Lib.hid (show sn = sn from rfl)
          have EXD : (ky.extract sn ky.size).data.toList = ky.data.toList.drop sn := by simp [ByteArray.data_extract, List.take_of_length_le]
          have EXS : (ky.extract sn ky.size).size = ky.size - sn := by simp
          have hsk : (sn : Int) ≤ ky.size := by omega
          go_upto_region 14 with fail
          have d0 : (wr.alloc (.cells #[.string ky, .int .i64 sq, .bool false, .string vl] 30)).cell? ⟨wr.heap.size, 0, none⟩ = some (.string ky) := by simp [go_sem]
          have d1 : (wr.alloc (.cells #[.string ky, .int .i64 sq, .bool false, .string vl] 30)).cell? ⟨wr.heap.size, 1, none⟩ = some (.int .i64 sq) := by simp [go_sem]
          have d2 : (wr.alloc (.cells #[.string ky, .int .i64 sq, .bool false, .string vl] 30)).cell? ⟨wr.heap.size, 2, none⟩ = some (.bool false) := by simp [go_sem]
          have d3 : (wr.alloc (.cells #[.string ky, .int .i64 sq, .bool false, .string vl] 30)).cell? ⟨wr.heap.size, 3, none⟩ = some (.string vl) := by simp [go_sem]
          have hzA : wr.heap.size < (wr.alloc (.cells #[.string ky, .int .i64 sq, .bool false, .string vl] 30)).heap.size := by simp
          have d5 : (wr.alloc (.cells #[.string ky, .int .i64 sq, .bool false, .string vl] 30)).cell? ⟨b, off + (k - 1) * 4, none⟩ = some (.string p) := by rw [World.cell?_alloc_past _ _ _ (Nat.lt_of_lt_of_le hbs hbl.size)]; exact hpc
          have xA := hbl.alloc hbl.size (.cells #[.string ky, .int .i64 sq, .bool false, .string vl] 30)
          generalize (wr.alloc (.cells #[.string ky, .int .i64 sq, .bool false, .string vl] 30)) = wA at d0 d1 d2 d3 d5 xA hzA ⊢
          clear hc0 hc1 hc2 hc3 hpc
          have j0 := cell_regrown d0
          have j5 := cell_regrown d5
          have cS : ∀ d os, Calls Try.prog 170 #[.string p, .string ky] (grow (redrawn wA d) os) fun e w'' => e = .returned (.int .i64 (sn : Int)) ∧ ∃ p : Regrown, w'' = grow (redrawn wA p.d) p.os := fun d os => Calls.regrown_of (by rw [hpe]; exact l11Shared_any _ _ _ (by omega) (by omega))
          have HPE := Lib.hid hpe
          clear hpe
          refine wp_region_quiet_below (by kernel_rfl) (by kernel_rfl) ?_
          repeat (first | go_big_quiet_step (exact cS _ _) | go_big_quiet_step (fail))
          refine wpQuiet_nil ?_
          intro w2 hw'
          have b2 : RowKit.Below wA.heap.size wA w2 := by obtain ⟨p, rfl⟩ := hw'; exact below_regrown _ _ _
          have x2 := xA.trans (b2.mono xA.size)
          obtain ⟨hc, hf⟩ := bcell b2
          have f0 := (hc wr.heap.size 0 hzA).trans d0
          have f1 := (hc wr.heap.size 1 hzA).trans d1
          have f2 := (hc wr.heap.size 2 hzA).trans d2
          have f3 := (hc wr.heap.size 3 hzA).trans d3
          clear hc hf d0 d1 d2 d3 d5 hw' cS j0 j5 b2
          go_upto_region 18 with fail
          have k0 := cell_regrown f0
          have hv1 := varL_length ((sn : Int) : Int)
          have hv2 := varL_length sq
          have hp1 := pie_len (ky.data.toList.drop sn)
          have hp2 := pie_len vl.data.toList
          have hky : ky.data.toList.length = ky.size := by simp
          have hvs : vl.data.toList.length = vl.size := by simp
          rw [List.length_drop] at hp1
          have k1 := cell_regrown f1
          have k3 := cell_regrown f3
          have cA : ∀ d os, Calls Try.prog 131 #[.int .i64 (sn : Int)] (grow (redrawn w2 d) os) fun e w'' => e = .returned (.string (str (varL (sn : Int)))) ∧ ∃ p : Regrown, w'' = grow (redrawn w2 p.d) p.os := fun d os => Calls.regrown_of (specVar _ _)
          have cC : ∀ d os, Calls Try.prog 131 #[.int .i64 sq] (grow (redrawn w2 d) os) fun e w'' => e = .returned (.string (str (varL sq))) ∧ ∃ p : Regrown, w'' = grow (redrawn w2 p.d) p.os := fun d os => Calls.regrown_of (specVar _ _)
          have cD : ∀ d os, Calls Try.prog 132 #[.string vl] (grow (redrawn w2 d) os) fun e w'' => e = .returned (.string (str (pieL vl.data.toList))) ∧ ∃ p : Regrown, w'' = grow (redrawn w2 p.d) p.os := fun d os => Calls.regrown_of (l6Piece_any _ _ (by omega))
          have cB : ∀ d os, Calls Try.prog 132 #[.string (ky.extract sn ky.size)] (grow (redrawn w2 d) os) fun e w'' => e = .returned (.string (str (pieL (ky.data.toList.drop sn)))) ∧ ∃ p : Regrown, w'' = grow (redrawn w2 p.d) p.os := fun d os => Calls.regrown_of (by have h := l6Piece_any (ky.extract sn ky.size) (grow (redrawn w2 d) os) (by rw [EXS]; omega); rw [EXD] at h; exact h)
          refine wp_region_quiet_below (by kernel_rfl) (by kernel_rfl) ?_
          iterate 2 (go_big_quiet_step (fail))
          go_big_quiet_step (exact cA _ _)
          iterate 5 (go_big_quiet_step (fail))
          go_big_quiet_step (exact cB _ _)
          iterate 3 (go_big_quiet_step (fail))
          go_big_quiet_step (exact cC _ _)
          iterate 5 (go_big_quiet_step (fail))
          go_big_quiet_step (exact cD _ _)
          repeat (go_big_quiet_step (fail))
          refine wpQuiet_nil ?_
          intro w4 hw'
          have x4 : RowKit.Below w.heap.size w w4 := by obtain ⟨p, rfl⟩ := hw'; exact x2.trans ((below_regrown _ _ _).mono x2.size)
          clear hw' cA cB cC cD k0 k1 k3 f0 f1 f2 f3
          go_wp2
          go_roundw
          case rel => exact ⟨k + 1, by omega, by go_num, by rw [HS.out, HP.out, HZ.out]; simp, by rw [HB.out], by rw [HB.out], x4⟩
          case measure => simp [intOf]; omega
      | true =>
        have HP := Lib.hid HL
        clear HL
        by_cases h4 : k % 4 = 0
        · have h4i : ((k : Int) % 4) = 0 := by omega
          have HB := Lib.hid (show plcTo l (k + 1) = U ++ [(T.length : Int)] from by have h := plcTo_hit l h4; rwa [hU, hT] at h)
          have HZ := Lib.hid (show sn = 0 from by rw [← hS4]; exact shr_zero h4)
          go_upto_region 12 with fail
          have d0 : (wr.alloc (.cells #[.string ky, .int .i64 sq, .bool true, .string vl] 30)).cell? ⟨wr.heap.size, 0, none⟩ = some (.string ky) := by simp [go_sem]
          have d1 : (wr.alloc (.cells #[.string ky, .int .i64 sq, .bool true, .string vl] 30)).cell? ⟨wr.heap.size, 1, none⟩ = some (.int .i64 sq) := by simp [go_sem]
          have d2 : (wr.alloc (.cells #[.string ky, .int .i64 sq, .bool true, .string vl] 30)).cell? ⟨wr.heap.size, 2, none⟩ = some (.bool true) := by simp [go_sem]
          have d3 : (wr.alloc (.cells #[.string ky, .int .i64 sq, .bool true, .string vl] 30)).cell? ⟨wr.heap.size, 3, none⟩ = some (.string vl) := by simp [go_sem]
          have hzA : wr.heap.size < (wr.alloc (.cells #[.string ky, .int .i64 sq, .bool true, .string vl] 30)).heap.size := by simp
          have xA := hbl.alloc hbl.size (.cells #[.string ky, .int .i64 sq, .bool true, .string vl] 30)
          generalize (wr.alloc (.cells #[.string ky, .int .i64 sq, .bool true, .string vl] 30)) = wA at d0 d1 d2 d3 xA hzA ⊢
          clear hc0 hc1 hc2 hc3
          have hvT := varL_length (T.length : Int)
          go_upto_region 18 with (go_at_call 131; refine (specVar _ _).mono ?_; rintro e w2 ⟨rfl, b2⟩; have x2 := xA.trans (b2.mono xA.size); obtain ⟨hc, hf⟩ := bcell b2; have f0 := (hc wr.heap.size 0 hzA).trans d0; have f1 := (hc wr.heap.size 1 hzA).trans d1; have f2 := (hc wr.heap.size 2 hzA).trans d2; have f3 := (hc wr.heap.size 3 hzA).trans d3; clear hc hf d0 d1 d2 d3)
          have k0 := cell_regrown f0
          have hv1 := varL_length (0 : Int)
          have hv2 := varL_length sq
          have hp1 := pie_len ky.data.toList
          have hp2 := pie_len vl.data.toList
          have hky : ky.data.toList.length = ky.size := by simp
          have hvs : vl.data.toList.length = vl.size := by simp
          skip
          have k1 := cell_regrown f1
          have k3 := cell_regrown f3
          have cA : ∀ d os, Calls Try.prog 131 #[.int .i64 0] (grow (redrawn w2 d) os) fun e w'' => e = .returned (.string (str (varL 0))) ∧ ∃ p : Regrown, w'' = grow (redrawn w2 p.d) p.os := fun d os => Calls.regrown_of (specVar _ _)
          have cC : ∀ d os, Calls Try.prog 131 #[.int .i64 sq] (grow (redrawn w2 d) os) fun e w'' => e = .returned (.string (str (varL sq))) ∧ ∃ p : Regrown, w'' = grow (redrawn w2 p.d) p.os := fun d os => Calls.regrown_of (specVar _ _)
          have cD : ∀ d os, Calls Try.prog 132 #[.string vl] (grow (redrawn w2 d) os) fun e w'' => e = .returned (.string (str (pieL vl.data.toList))) ∧ ∃ p : Regrown, w'' = grow (redrawn w2 p.d) p.os := fun d os => Calls.regrown_of (l6Piece_any _ _ (by omega))
          have cB : ∀ d os, Calls Try.prog 132 #[.string ky] (grow (redrawn w2 d) os) fun e w'' => e = .returned (.string (str (pieL ky.data.toList))) ∧ ∃ p : Regrown, w'' = grow (redrawn w2 p.d) p.os := fun d os => Calls.regrown_of (by have h := l6Piece_any ky (grow (redrawn w2 d) os) (by omega); exact h)
          refine wp_region_quiet_below (by kernel_rfl) (by kernel_rfl) ?_
          iterate 2 (go_big_quiet_step (fail))
          go_big_quiet_step (exact cA _ _)
          iterate 5 (go_big_quiet_step (fail))
          go_big_quiet_step (exact cB _ _)
          iterate 3 (go_big_quiet_step (fail))
          go_big_quiet_step (exact cC _ _)
          iterate 5 (go_big_quiet_step (fail))
          go_big_quiet_step (exact cD _ _)
          repeat (go_big_quiet_step (fail))
          refine wpQuiet_nil ?_
          intro w4 hw'
          have x4 : RowKit.Below w.heap.size w w4 := by obtain ⟨p, rfl⟩ := hw'; exact x2.trans ((below_regrown _ _ _).mono x2.size)
          clear hw' cA cB cC cD k0 k1 k3 f0 f1 f2 f3
          go_wp2
          go_roundw
          case rel => exact ⟨k + 1, by omega, by go_num, by rw [HS.out, HP.out, HZ.out]; simp, by rw [HB.out]; rw [plcL_snoc], by rw [HB.out]; simp, x4⟩
          case measure => simp [intOf]; omega
        · obtain ⟨p, hpc, hps, hpe⟩ := HNN.out h4
          have hp0 : (0 : Int) ≤ (k : Int) - 1 := by omega
          have hp1' : ((k : Int) - 1).toNat = k - 1 := by omega
          have hp2 : (k : Int) - 1 < l.length := by omega
          have hp3 : IntKind.i64.wrap ((k : Int) - 1) = (k : Int) - 1 := by rw [IntKind.wrap_i64]; omega
          have h4i : ¬ ((k : Int) % 4) = 0 := by omega
          have HB := Lib.hid (show plcTo l (k + 1) = U from by rw [plcTo_miss l h4, hU])
          have HZ := Lib.hid (show sn = sn from rfl)
          have EXD : (ky.extract sn ky.size).data.toList = ky.data.toList.drop sn := by simp [ByteArray.data_extract, List.take_of_length_le]
          have EXS : (ky.extract sn ky.size).size = ky.size - sn := by simp
          have hsk : (sn : Int) ≤ ky.size := by omega
          go_upto_region 14 with fail
          have d0 : (wr.alloc (.cells #[.string ky, .int .i64 sq, .bool true, .string vl] 30)).cell? ⟨wr.heap.size, 0, none⟩ = some (.string ky) := by simp [go_sem]
          have d1 : (wr.alloc (.cells #[.string ky, .int .i64 sq, .bool true, .string vl] 30)).cell? ⟨wr.heap.size, 1, none⟩ = some (.int .i64 sq) := by simp [go_sem]
          have d2 : (wr.alloc (.cells #[.string ky, .int .i64 sq, .bool true, .string vl] 30)).cell? ⟨wr.heap.size, 2, none⟩ = some (.bool true) := by simp [go_sem]
          have d3 : (wr.alloc (.cells #[.string ky, .int .i64 sq, .bool true, .string vl] 30)).cell? ⟨wr.heap.size, 3, none⟩ = some (.string vl) := by simp [go_sem]
          have hzA : wr.heap.size < (wr.alloc (.cells #[.string ky, .int .i64 sq, .bool true, .string vl] 30)).heap.size := by simp
          have d5 : (wr.alloc (.cells #[.string ky, .int .i64 sq, .bool true, .string vl] 30)).cell? ⟨b, off + (k - 1) * 4, none⟩ = some (.string p) := by rw [World.cell?_alloc_past _ _ _ (Nat.lt_of_lt_of_le hbs hbl.size)]; exact hpc
          have xA := hbl.alloc hbl.size (.cells #[.string ky, .int .i64 sq, .bool true, .string vl] 30)
          generalize (wr.alloc (.cells #[.string ky, .int .i64 sq, .bool true, .string vl] 30)) = wA at d0 d1 d2 d3 d5 xA hzA ⊢
          clear hc0 hc1 hc2 hc3 hpc
          have j0 := cell_regrown d0
          have j5 := cell_regrown d5
          have cS : ∀ d os, Calls Try.prog 170 #[.string p, .string ky] (grow (redrawn wA d) os) fun e w'' => e = .returned (.int .i64 (sn : Int)) ∧ ∃ p : Regrown, w'' = grow (redrawn wA p.d) p.os := fun d os => Calls.regrown_of (by rw [hpe]; exact l11Shared_any _ _ _ (by omega) (by omega))
          have HPE := Lib.hid hpe
          clear hpe
          refine wp_region_quiet_below (by kernel_rfl) (by kernel_rfl) ?_
          repeat (first | go_big_quiet_step (exact cS _ _) | go_big_quiet_step (fail))
          refine wpQuiet_nil ?_
          intro w2 hw'
          have b2 : RowKit.Below wA.heap.size wA w2 := by obtain ⟨p, rfl⟩ := hw'; exact below_regrown _ _ _
          have x2 := xA.trans (b2.mono xA.size)
          obtain ⟨hc, hf⟩ := bcell b2
          have f0 := (hc wr.heap.size 0 hzA).trans d0
          have f1 := (hc wr.heap.size 1 hzA).trans d1
          have f2 := (hc wr.heap.size 2 hzA).trans d2
          have f3 := (hc wr.heap.size 3 hzA).trans d3
          clear hc hf d0 d1 d2 d3 d5 hw' cS j0 j5 b2
          go_upto_region 18 with fail
          have k0 := cell_regrown f0
          have hv1 := varL_length ((sn : Int) : Int)
          have hv2 := varL_length sq
          have hp1 := pie_len (ky.data.toList.drop sn)
          have hp2 := pie_len vl.data.toList
          have hky : ky.data.toList.length = ky.size := by simp
          have hvs : vl.data.toList.length = vl.size := by simp
          rw [List.length_drop] at hp1
          have k1 := cell_regrown f1
          have k3 := cell_regrown f3
          have cA : ∀ d os, Calls Try.prog 131 #[.int .i64 (sn : Int)] (grow (redrawn w2 d) os) fun e w'' => e = .returned (.string (str (varL (sn : Int)))) ∧ ∃ p : Regrown, w'' = grow (redrawn w2 p.d) p.os := fun d os => Calls.regrown_of (specVar _ _)
          have cC : ∀ d os, Calls Try.prog 131 #[.int .i64 sq] (grow (redrawn w2 d) os) fun e w'' => e = .returned (.string (str (varL sq))) ∧ ∃ p : Regrown, w'' = grow (redrawn w2 p.d) p.os := fun d os => Calls.regrown_of (specVar _ _)
          have cD : ∀ d os, Calls Try.prog 132 #[.string vl] (grow (redrawn w2 d) os) fun e w'' => e = .returned (.string (str (pieL vl.data.toList))) ∧ ∃ p : Regrown, w'' = grow (redrawn w2 p.d) p.os := fun d os => Calls.regrown_of (l6Piece_any _ _ (by omega))
          have cB : ∀ d os, Calls Try.prog 132 #[.string (ky.extract sn ky.size)] (grow (redrawn w2 d) os) fun e w'' => e = .returned (.string (str (pieL (ky.data.toList.drop sn)))) ∧ ∃ p : Regrown, w'' = grow (redrawn w2 p.d) p.os := fun d os => Calls.regrown_of (by have h := l6Piece_any (ky.extract sn ky.size) (grow (redrawn w2 d) os) (by rw [EXS]; omega); rw [EXD] at h; exact h)
          refine wp_region_quiet_below (by kernel_rfl) (by kernel_rfl) ?_
          iterate 2 (go_big_quiet_step (fail))
          go_big_quiet_step (exact cA _ _)
          iterate 5 (go_big_quiet_step (fail))
          go_big_quiet_step (exact cB _ _)
          iterate 3 (go_big_quiet_step (fail))
          go_big_quiet_step (exact cC _ _)
          iterate 5 (go_big_quiet_step (fail))
          go_big_quiet_step (exact cD _ _)
          repeat (go_big_quiet_step (fail))
          refine wpQuiet_nil ?_
          intro w4 hw'
          have x4 : RowKit.Below w.heap.size w w4 := by obtain ⟨p, rfl⟩ := hw'; exact x2.trans ((below_regrown _ _ _).mono x2.size)
          clear hw' cA cB cC cD k0 k1 k3 f0 f1 f2 f3
          go_wp2
          go_roundw
          case rel => exact ⟨k + 1, by omega, by go_num, by rw [HS.out, HP.out, HZ.out]; simp, by rw [HB.out], by rw [HB.out], x4⟩
          case measure => simp [intOf]; omega
    · obtain rfl : k = l.length := by omega
      have hvn := varL_length ((plcTo l l.length).length : Int)
      have hfx := fixedL_length_le ((blkTo l l.length).length : Int) 2
      clear hsh h hh
      unfold showKL at HR
      generalize blkTo l l.length = T at *
      generalize plcTo l l.length = U at *
      go_wp2_with (first | (go_at_call 131; refine (specVar _ _).mono ?_; rintro e w2 ⟨rfl, b2⟩; have x2 := hbl.trans (b2.mono hbl.size)) | (go_at_call 157; refine (specFixed _ _ _ (by omega)).mono ?_; rintro e w3 ⟨rfl, b3⟩; have x3 := x2.trans (b3.mono x2.size)))
      go_ret
      exact ⟨by rw [HR.out]; simp, x3⟩
end Go.Proofs.Ytfbbdnicplbmdaa
/- Walks: what a strings.Builder's WriteString does. -/
set_option linter.unusedVariables false
set_option linter.unusedSimpArgs false
namespace Go.Proofs.Ytfbbdnicplbmdaa
open Go.RowKit Sp

set_option maxRecDepth 100000 in
set_option maxHeartbeats 1000000 in
theorem copyUsed (b : Nat) (w : World) (h0 : w.cell? ⟨b, 0, none⟩ = some (.pointer (some ⟨b, 0, none⟩))) :
    Calls Try.prog 144 #[.pointer (some ⟨b, 0, none⟩)] w fun e w' => e = .returned (.tuple #[]) ∧ w' = w := by
  have hi : (Try.prog.info? 105).map (fun i => i.size) = some 2 := by kernel_rfl
  obtain ⟨j, hj, _⟩ := Option.map_eq_some_iff.1 hi
  have hne := Lib.run_neq_ptr_same (P := Try.prog) w ⟨b, 0, none⟩ Try.underlying103 hj
  go_enter Try.func144, Try.ntmps144
  go_wp2
  go_end0
  exact ⟨rfl, rfl⟩

set_option maxRecDepth 100000 in
set_option maxHeartbeats 1000000 in
theorem copyFresh (b : Nat) (w : World) (h0 : w.cell? ⟨b, 0, none⟩ = some (.pointer none)) (hsh : w.shape? b = some (105, 2)) (hfz : w.frozen? ⟨b, 0, none⟩ = false) :
    Calls Try.prog 144 #[.pointer (some ⟨b, 0, none⟩)] w fun e w' => e = .returned (.tuple #[]) ∧ w' = w.setCell ⟨b, 0, none⟩ (.pointer (some ⟨b, 0, none⟩)) := by
  have hi : (Try.prog.info? 105).map (fun i => i.size) = some 2 := by kernel_rfl
  obtain ⟨j, hj, hjs⟩ := Option.map_eq_some_iff.1 hi
  have hto := Lib.run_to_unsafe (P := Try.prog) w ⟨b, 0, none⟩ Try.underlying103 Try.underlying195 hj (by rw [hjs]; decide) hsh (Nat.zero_lt_succ 1)
  have hfr := Lib.run_from_unsafe (P := Try.prog) w ⟨b, 0, none⟩ Try.underlying195 Try.underlying103 hj hsh (by kernel_rfl)
  have hne : ∀ args, (callFunc 178 args).run Try.prog w = ((Extern.AbiNoEscape.same args).run Try.prog w).andThen fun v w' => .ok (.value v) w' := fun args => run_callFunc_extern Try.func178 (by kernel_rfl) (by kernel_rfl) (by kernel_rfl) (e := Extern.AbiNoEscape.same) (by kernel_rfl) args w
  have hse : ∀ x : Value, (Extern.AbiNoEscape.same #[x]).run Try.prog w = .ok x w := fun x => rfl
  go_enter Try.func144, Try.ntmps144
  go_wp2
  go_end0
  exact ⟨rfl, rfl⟩

theorem bld_below {T e : TypeId} {B b : Nat} {bs : List Value} {w w' : World} (h : Lib.IsBuilder T e B b bs w) (hb : Below w.heap.size w w') : Lib.IsBuilder T e B b bs w' := by
  have key : ∀ p, Lib.BuilderAt T e B b p bs w → Lib.BuilderAt T e B b p bs w' := by
    rintro p ⟨hB, v, hbk, hown, hne⟩
    exact ⟨hB, v, (hb.block b (Array.getElem?_eq_some_iff.1 hbk).1).trans hbk, hown.kept ⟨hb.os, hb.tape, hb.output, hb.size, fun k hk _ => hb.block k hk⟩ (row := none) (by cases h : v.ownBlock with | none => exact .inl rfl | some x => exact .inr (by simp)), hne⟩
  exact h.imp (key _) (key _)
set_option maxRecDepth 100000 in
set_option maxHeartbeats 1000000 in
/-- WriteString: the bytes behind those that the builder holds. -/
theorem writeStr_any (B b : Nat) (l : List UInt8) (s : ByteArray) (w : World) (h : Lib.IsBuilder 105 5 B b (Lib.byteCells l) w) (hlen : (l.length : Int) + s.size ≤ 140737488355328) (hBw : B ≤ w.heap.size) :
    Calls Try.prog 76 #[.pointer (some ⟨b, 0, none⟩), .string s] w fun e w' => e = .returned (.tuple #[.int .i64 s.size, .nilIface]) ∧ Lib.IsBuilder 105 5 B b (Lib.byteCells (l ++ s.data.toList)) w' ∧ Below B w w' ∧ (∀ (k : Nat) (cs : Array Value) (T : TypeId) (fr : Nat × Nat), w.heap[k]? = some (.cells cs T fr) → T ≠ 5 → k ≠ b → w'.heap[k]? = some (.cells cs T fr)) := by
  obtain ⟨i0, hi, hz0, hz1, hz2⟩ := info_parts info_u8
  have hcc : Calls Try.prog 144 #[.pointer (some ⟨b, 0, none⟩)] w fun e w' => e = .returned (.tuple #[]) ∧ Lib.BuilderAt 105 5 B b (.pointer (some ⟨b, 0, none⟩)) (Lib.byteCells l) w' ∧ Below B w w' ∧ ∀ k, k ≠ b → w'.heap[k]? = w.heap[k]? := by
    rcases h with h | h
    · refine (copyFresh b w h.cell0 h.shape h.frozen0).mono ?_
      rintro e w' ⟨rfl, rfl⟩
      exact ⟨rfl, h.used _, (Below.refl B w).setCell (p := ⟨b, 0, none⟩) h.1 _, fun k hk => Below.heap_setCell _ _ _ _ (fun e => hk e)⟩
    · refine (copyUsed b w h.cell0).mono ?_
      rintro e w' ⟨rfl, rfl⟩
      exact ⟨rfl, h, Below.refl B _, fun k hk => rfl⟩
  have hbl := Lib.byteCells_length l
  have HC := Lib.hid hcc
  clear hcc h
  go_enter Try.func76, Try.ntmps76
  go_wp2_with fail
  refine HC.out.mono ?_
  rintro e w1 ⟨rfl, ⟨hB, v, hbk, hown, hne⟩, b1, hk1⟩
  have hlt : b < w1.heap.size := (Array.getElem?_eq_some_iff.1 hbk).1
  have c1 : w1.cell? ⟨b, 1, none⟩ = some v := by rw [Lib.cell_of_heap hbk]; rfl
  go_wp2_with (at_builtin; refine Lib.wpList_append_own_string _ rfl _ _ 22 9 rfl B 5 i0 Try.underlying22 Try.underlying9 hi hz0 hz1 hz2 _ _ _ rfl hown s rfl ?c3 ?c4 ?c5 ?_)
  case c3 => rw [hbl]; unfold maxLen; omega
  case c4 => rw [hbl]; omega
  case c5 => have := b1.size; omega
  intro v' w2 hown' hgrow _
  have hb2 : w2.heap[b]? = some (.cells #[.pointer (some ⟨b, 0, none⟩), v] 105 (0, 0)) := by
    rw [hgrow.block b hlt (fun e => hne e.symm)]; exact hbk
  have d1 : w2.cell? ⟨b, 1, none⟩ = some v := by rw [Lib.cell_of_heap hb2]; rfl
  have f1 : w2.frozen? ⟨b, 1, none⟩ = false := Lib.frozen_of_heap hb2 1
  have hx : Lib.byteCells l ++ Lib.strCells s = Lib.byteCells (l ++ s.data.toList) := by
    unfold Lib.byteCells Lib.strCells; rw [List.map_append]
  have hll : l.length + s.size = (Lib.byteCells (l ++ s.data.toList)).length := by
    rw [Lib.byteCells_length, List.length_append]; simp
  rw [hx, hll] at hown'
  have hput := Lib.BuilderAt.put hB hb2 hown' (by decide)
  have x2 : Below B w w2 := b1.trans ⟨hgrow.os, hgrow.tape, hgrow.output, hgrow.size, fun k hk => hgrow.block k (by have := b1.size; omega) (by intro he; have := (hown.lt k he.symm).1; omega)⟩
  have x3 := x2.setCell (p := ⟨b, 1, none⟩) hB v'
  have hk3 : ∀ (k : Nat) (cs : Array Value) (T : TypeId) (fr : Nat × Nat), w.heap[k]? = some (.cells cs T fr) → T ≠ 5 → k ≠ b → (w2.setCell ⟨b, 1, none⟩ v').heap[k]? = some (.cells cs T fr) := by
    intro k cs T fr hk hT hkb
    have e1 := (hk1 k hkb).trans hk
    have hno := Lib.ownBlock_ne hown e1 hT
    rw [Below.heap_setCell _ _ _ _ (fun e => hkb e), hgrow.block k (Array.getElem?_eq_some_iff.1 e1).1 (fun e => hno e.symm)]
    exact e1
  obtain ⟨ao, n', c', rfl⟩ : ∃ ao n c, v' = .slice ao n c := by
    rcases hown'.2 with ⟨h, _⟩ | ⟨g, cap, cur, h, _⟩
    · exact ⟨_, _, _, h⟩
    · exact ⟨_, _, _, h⟩
  clear hown' hown hgrow hbk hx hll hbl HC b1 c1
  go_wp2
  go_ret2
  exact ⟨rfl, .inr hput, x3, hk3⟩
end Go.Proofs.Ytfbbdnicplbmdaa
/- Plain and laws: cells stored in a row from one place on; a row cut short; clear. No program in sight. -/
set_option linter.unusedVariables false
set_option linter.unusedSimpArgs false
namespace Go.Proofs.Ytfbbdnicplbmdaa
open Go.RowKit Sp
namespace Sp
def setAll {α : Type} : List α → Nat → List α → List α
  | xs, _, [] => xs
  | xs, o, u :: us => setAll (xs.set o u) (o + 1) us
theorem setAll_length {α : Type} : ∀ (us xs : List α) (o : Nat), (setAll xs o us).length = xs.length
  | [], _, _ => rfl
  | u :: us, xs, o => by rw [setAll, setAll_length us]; simp
theorem setAll_take {α : Type} : ∀ (us xs : List α) (o k : Nat), k ≤ o → (setAll xs o us).take k = xs.take k
  | [], _, _, _, _ => rfl
  | u :: us, xs, o, k, h => by rw [setAll, setAll_take us _ _ _ (by omega), List.take_set_of_le h]
theorem setAll_eq {α : Type} : ∀ (us xs : List α) (o : Nat), o + us.length ≤ xs.length → (setAll xs o us).take (o + us.length) = xs.take o ++ us
  | [], xs, o, _ => by simp [setAll]
  | u :: us, xs, o, h => by
    rw [setAll, show o + (u :: us).length = (o + 1) + us.length from by simp; omega, setAll_eq us _ _ (by simp at h ⊢; omega)]
    rw [List.take_succ_eq_append_getElem (by simp at h ⊢; omega), List.take_set_of_le (Nat.le_refl _)]
    simp
theorem flat_take {α β : Type} {f : α → List β} {n : Nat} (hf : ∀ x, (f x).length = n) : ∀ (l : List α) (k : Nat), ((l.map f).flatten).take (k * n) = ((l.take k).map f).flatten
  | [], k => by simp
  | x :: l, 0 => by simp
  | x :: l, k + 1 => by
    rw [List.map_cons, List.flatten_cons, List.take_succ_cons, List.map_cons, List.flatten_cons, List.take_append, ← flat_take hf l k, hf]
    rw [List.take_of_length_le (by rw [hf, Nat.succ_mul]; omega), show (k + 1) * n - n = k * n from by rw [Nat.succ_mul]; omega]
end Sp
theorem own_setCells {e size base g n cap : Nat} : ∀ (us : List Value) (w : World) (xs : List Value) (o : Nat), w.ownsRow base e size (.slice (some ⟨g, 0, none⟩) n cap) n xs →
    (w.setCells g o us).ownsRow base e size (.slice (some ⟨g, 0, none⟩) n cap) n (setAll xs o us) ∧ w.grownBy (w.setCells g o us) (some g)
  | [], w, xs, o, h => ⟨h, ⟨rfl, rfl, rfl, Nat.le_refl _, fun k _ _ => rfl⟩⟩
  | u :: us, w, xs, o, h => by
    have h1 := h.stored o u
    have h2 := own_setCells us (w.setCell ⟨g, o, none⟩ u) _ (o + 1) h1.1
    refine ⟨h2.1, ?_⟩
    have a := h1.2
    have b := h2.2
    exact ⟨b.os.trans a.os, b.tape.trans a.tape, b.output.trans a.output, Nat.le_trans a.size b.size, fun k hk hne => (b.block k (Nat.lt_of_lt_of_le hk a.size) hne).trans (a.block k hk hne)⟩
theorem own_cut {w : World} {e size base g n cap m : Nat} {xs : List Value} (h : w.ownsRow base e size (.slice (some ⟨g, 0, none⟩) n cap) n xs) (hm : m ≤ n) : w.ownsRow base e size (.slice (some ⟨g, 0, none⟩) m cap) m (xs.take (m * size)) := by
  refine ⟨by rw [List.length_take, h.1]; exact Nat.min_eq_left (Nat.mul_le_mul_right _ hm), ?_⟩
  rcases h.2 with ⟨hn, _⟩ | ⟨g', cap', cur, hv, hb', hg, hc, hcm, hcs, ht⟩
  · cases hn
  · simp only [Value.slice.injEq, Option.some.injEq, Addr.mk.injEq, and_true, true_and] at hv
    obtain ⟨rfl, rfl⟩ := hv
    refine .inr ⟨g, cap, cur, rfl, hb', hg, by omega, hcm, hcs, ?_⟩
    rw [← ht, List.take_take, Nat.min_eq_left (Nat.mul_le_mul_right _ hm)]
theorem own_cell {w : World} {e size base g n cap : Nat} {xs : List Value} (h : w.ownsRow base e size (.slice (some ⟨g, 0, none⟩) n cap) n xs) {k : Nat} {u : Value} (hk : xs[k]? = some u) : w.cell? ⟨g, k, none⟩ = some u := by
  rcases h.2 with ⟨hn, _⟩ | ⟨g', cap', cur, hv, hb', hg, hc, hcm, hcs, ht⟩
  · cases hn
  · simp only [Value.slice.injEq, Option.some.injEq, Addr.mk.injEq, and_true, true_and] at hv
    obtain ⟨rfl, rfl⟩ := hv
    rw [cell_of_row w g k cur e (0, 0) hg]
    rw [← ht, List.getElem?_take] at hk
    split at hk
    · simpa using hk
    · simp at hk
theorem run_clear_recs {P : Program} (w : World) (t e ty : TypeId) (z : Value) (ht : P.underlying t = some (.slice e)) (hv : ∀ w, (zeroValue e).run P w = .ok z w) (h1 : ∀ u ∈ (Builtin.zeroCells z.cells 1).toList, u.oneCell' = true) (b o c : Nat)
    (hc : ∀ j, j < (Builtin.zeroCells z.cells 1).toList.length → (w.cell? ⟨b, o + j, none⟩).isSome = true) (hf : ∀ j, j < (Builtin.zeroCells z.cells 1).toList.length → w.frozen? ⟨b, o + j, none⟩ = false) :
    (Builtin.clear_ #[t] ty #[.slice (some ⟨b, o, none⟩) 1 c]).run P w = .ok (.tuple #[]) (w.setCells b o (Builtin.zeroCells z.cells 1).toList) := by
  have hst := run_storeCells_cells (P := P) b o (Builtin.zeroCells z.cells 1).toList 0 w (by simpa using hc) (by simpa using hf) h1
  simp only [Nat.add_zero] at hst
  simp [Builtin.clear_, run_underlying ht, hv, hst]
end Go.Proofs.Ytfbbdnicplbmdaa
/- Laws of the walk: a builder beside a row of another type. -/
set_option linter.unusedVariables false
set_option linter.unusedSimpArgs false
namespace Go.Proofs.Ytfbbdnicplbmdaa
open Go.RowKit Sp
theorem own_typed {w : World} {base e size : Nat} {v : Value} {n : Nat} {xs : List Value} (h : w.ownsRow base e size v n xs) {k : Nat} (hk : v.ownBlock = some k) : ∃ cur, w.heap[k]? = some (.cells cur e (0, 0)) := by
  rcases h.2 with ⟨hv, _⟩ | ⟨g, cap, cur, hv, hb', hg, _⟩
  · rw [hv] at hk; simp [Value.ownBlock] at hk
  · rw [hv] at hk
    obtain rfl : g = k := Option.some.inj hk
    exact ⟨cur, hg⟩
/-- A row whose block is kept is kept. -/
theorem own_kept {w w' : World} {base e size : Nat} {v : Value} {n : Nat} {xs : List Value} (h : w.ownsRow base e size v n xs) (hk : ∀ (k : Nat) (cs : Array Value) (fr : Nat × Nat), w.heap[k]? = some (.cells cs e fr) → w'.heap[k]? = some (.cells cs e fr)) : w'.ownsRow base e size v n xs := by
  refine ⟨h.1, ?_⟩
  rcases h.2 with hn | ⟨g, cap, cur, hv, hb', hg, rest⟩
  · exact .inl hn
  · exact .inr ⟨g, cap, cur, hv, hb', hk _ _ _ hg, rest⟩
theorem bld_ne {T e e' : TypeId} {B b k : Nat} {bs : List Value} {w : World} {cs : Array Value} {fr : Nat × Nat} (h : Lib.IsBuilder T e B b bs w) (hk : w.heap[k]? = some (.cells cs e' fr)) (hne : e' ≠ T) : k ≠ b := by
  intro hkb
  subst hkb
  rcases h with ⟨_, v, hbk, _⟩ | ⟨_, v, hbk, _⟩
  all_goals
    rw [hbk] at hk
    simp at hk
    exact hne hk.2.1.symm
theorem bld_grown {T e : TypeId} {B b : Nat} {bs : List Value} {w w' : World} {base e' size' : Nat} {v' : Value} {n' : Nat} {xs' : List Value} (h : Lib.IsBuilder T e B b bs w) (hr : w.ownsRow base e' size' v' n' xs') (h1 : e' ≠ e) (h2 : e' ≠ T) (hg : w.grownBy w' v'.ownBlock) : Lib.IsBuilder T e B b bs w' := by
  have key : ∀ p, Lib.BuilderAt T e B b p bs w → Lib.BuilderAt T e B b p bs w' := by
    rintro p ⟨hB, v, hbk, hown, hne⟩
    refine ⟨hB, v, (hg.block b (Array.getElem?_eq_some_iff.1 hbk).1 (fun hk => ?_)).trans hbk, own_grown hown hg (fun k hk hk' => ?_), hne⟩
    · obtain ⟨cur, hc⟩ := own_typed hr hk.symm
      rw [hbk] at hc
      simp at hc
      exact h2 hc.2.symm
    · obtain ⟨c1, q1⟩ := own_typed hown hk
      obtain ⟨c2, q2⟩ := own_typed hr hk'
      rw [q1] at q2
      simp at q2
      exact h1 q2.2.symm
  exact h.imp (key _) (key _)
end Go.Proofs.Ytfbbdnicplbmdaa
/- Walks: ShowBlock of the program. -/
set_option linter.unusedVariables false
set_option linter.unusedSimpArgs false
namespace Go.Proofs.Ytfbbdnicplbmdaa
open Go.RowKit Sp Go.Sort
attribute [local go_sem] str_size str_append
namespace Sp
def flgL (b : Bool) : List UInt8 := if b then [1] else [0]
theorem flgL_len (b : Bool) : (flgL b).length = 1 := by cases b <;> rfl
end Sp
theorem halI (W : World) (o : Obj) : RowKit.Below W.heap.size W (W.alloc o) := (Below.refl _ _).alloc (Nat.le_refl _) _
set_option maxRecDepth 100000 in
theorem flagB_any (b : Bool) (w : World) : Calls Try.prog 101 #[.bool b] w fun e w' => e = .returned (.string (str (if b then [1] else [0]))) ∧ w = w' := by
  cases b
  all_goals
    go_enter Try.func101, Try.ntmps101
    go_wp2
    go_ret
    exact ⟨rfl, rfl⟩
theorem info_I : (Try.prog.info? 3).map (fun i => (i.zero, i.size, i.bytes)) = some (some (.int .i64 0), 1, 8) := by kernel_rfl
namespace Sp
def intCells (x : Int) : List Value := [.int .i64 x]
theorem intCells_flat (l : List Int) : (l.map intCells).flatten = l.map (fun x => .int .i64 x) := by
  induction l with
  | nil => rfl
  | cons a l ih => simp [intCells, ih]
end Sp

set_option maxRecDepth 100000 in
set_option maxHeartbeats 1600000 in
theorem implShowBlock (v : Value) (l : List EntR) (w : World) (h : SlT EntR.cells 4 w v l) (hl : (l.length : Int) ≤ 1048576) :
    Calls Try.prog 86 #[v] w fun e w' => e = .returned (.string (str (showBlkL l))) ∧ Below w.heap.size w w' := by
  have hh := h
  obtain ⟨ao, cap, rfl, hlc, hcm, hsh⟩ := hh.shape
  rcases hn : inB l.length 1 16 with _ | _
  · have HR := Lib.hid (showBlkL_not (l := l) (by simp [blockB, hn]))
    clear hsh hh
    go_enter Try.func86, Try.ntmps86
    go_wp2_with (go_at_call 108; refine (inRange_any _ _ _ _).mono ?_; rintro e w' ⟨rfl, rfl⟩; rw [hn])
    go_ret
    exact ⟨by rw [HR.out]; rfl, Below.refl _ _⟩
  rcases he : entsB l with _ | _
  · have HR := Lib.hid (showBlkL_not (l := l) (by simp [blockB, he]))
    clear hsh hh
    go_enter Try.func86, Try.ntmps86
    go_wp2_with (first | (go_at_call 108; refine (inRange_any _ _ _ _).mono ?_; rintro e w' ⟨rfl, rfl⟩; rw [hn]) | (go_at_call 146; refine (implEnts_any _ l _ h hl).mono ?_; rintro e w1 ⟨rfl, b1⟩; rw [he]))
    go_ret
    exact ⟨by rw [HR.out]; rfl, b1⟩
  have HR := Lib.hid (showBlkL_yes (l := l) (by simp [blockB, hn, he]))
  have h16 : l.length ≤ 16 := by simp [inB] at hn; omega
  have HSZ := Lib.hid (fun k hk => entsB_sizes he k hk)
  have HLN := Lib.hid (fun k hk => blkTo_len he k hk)
  go_enter Try.func86, Try.ntmps86
  go_upto_region 3 with (first | (go_at_call 108; refine (inRange_any _ _ _ _).mono ?_; rintro e w' ⟨rfl, rfl⟩; rw [hn]) | (go_at_call 146; refine (implEnts_any _ l _ h hl).mono ?_; rintro e w1 ⟨rfl, b1⟩; rw [he]))
  clear hn he
  have hbld := Lib.fresh_isBuilder 105 5 w1
  have xb := b1.alloc b1.size (.cells #[.pointer none, .slice none 0 0] 105)
  have hzb : w1.heap.size < (w1.alloc (.cells #[.pointer none, .slice none 0 0] 105)).heap.size := by simp
  go_wp2
  go_loopw [4, 22] (fun o i wr => ∃ k : Nat, k ≤ l.length ∧ i = .int .i64 k ∧ wr.ownsRow w.heap.size 3 1 o (plcTo l k).length ((plcTo l k).map intCells).flatten ∧ Lib.IsBuilder 105 5 w1.heap.size w1.heap.size (Lib.byteCells (blkTo l k)) wr ∧ Below w.heap.size w wr ∧ w1.heap.size < wr.heap.size) (fun _ i _ => l.length - (intOf i).toNat)
  case atStart => exact ⟨0, by omega, rfl, by simpa [plcTo] using World.ownsRow_nil _ w.heap.size 3 1, hbld, xb, hzb⟩
  case round =>
    obtain ⟨k, hk, rfl, hr, hbd, hbl, hzr⟩ := hrel
    obtain ⟨oo, co, rfl⟩ := (Row.of_own hr rfl).form
    have hbk := HLN.out k hk
    have hpk := plcTo_len l k
    by_cases hlt : k < l.length
    · obtain ⟨b, off, hb, hbs, hc⟩ := hsh (by omega)
      subst hb
      have hc0 : wr.cell? ⟨b, off + k * 4, none⟩ = some (.string l[k].key) := (hbl.cell (p := ⟨b, off + k * 4, none⟩) hbs).trans (hc k hlt 0 _ rfl)
      have hc1 : wr.cell? ⟨b, off + k * 4 + 1, none⟩ = some (.int .i64 l[k].seq) := (hbl.cell (p := ⟨b, off + k * 4 + 1, none⟩) hbs).trans (hc k hlt 1 _ rfl)
      have hc2 : wr.cell? ⟨b, off + k * 4 + 2, none⟩ = some (.bool l[k].del) := (hbl.cell (p := ⟨b, off + k * 4 + 2, none⟩) hbs).trans (hc k hlt 2 _ rfl)
      have hc3 : wr.cell? ⟨b, off + k * 4 + 3, none⟩ = some (.string l[k].val) := (hbl.cell (p := ⟨b, off + k * 4 + 3, none⟩) hbs).trans (hc k hlt 3 _ rfl)
      have hsz := HSZ.out k hlt
      have HS := Lib.hid (blkTo_step hlt)
      have HL : ∀ n, entL n l[k] = varL n ++ (pieL (l[k].key.data.toList.drop n) ++ (varL l[k].seq ++ (flgL l[k].del ++ pieL l[k].val.data.toList))) := fun n => rfl
      have hshl := shr_le hlt
      have HN : ¬ k % 4 = 0 → ∃ p : ByteArray, wr.cell? ⟨b, off + (k - 1) * 4, none⟩ = some (.string p) ∧ p.size ≤ 10 ∧ shr l k = comm l[k].key.data.toList p.data.toList := fun h4 => by
        have hp : k - 1 < l.length := by omega
        exact ⟨l[k - 1].key, (hbl.cell (p := ⟨b, off + (k - 1) * 4, none⟩) hbs).trans (hc (k - 1) hp 0 _ rfl), (HSZ.out (k - 1) hp).1, shr_next h4 hlt hp⟩
      have HNN := Lib.hid HN
      clear hc hsh h hh HN
      generalize l[k].key = ky at *
      generalize l[k].seq = sq at *
      generalize l[k].val = vl at *
      generalize hd : l[k].del = dl at *
      generalize hT : blkTo l k = T at *
      generalize hU : plcTo l k = U at *
      generalize hS4 : shr l k = sn at *
      have HP := Lib.hid HL
      clear HL
      by_cases h4 : k % 4 = 0
      · have h4i : ((k : Int) % 4) = 0 := by omega
        have HB := Lib.hid (show plcTo l (k + 1) = U ++ [(T.length : Int)] from by have h := plcTo_hit l h4; rwa [hU, hT] at h)
        have HZ := Lib.hid (show sn = 0 from by rw [← hS4]; exact shr_zero h4)
        have d0 : (wr.alloc (.cells #[.string ky, .int .i64 sq, .bool dl, .string vl] 30)).cell? ⟨wr.heap.size, 0, none⟩ = some (.string ky) := by simp [go_sem]
        have dh : (wr.alloc (.cells #[.string ky, .int .i64 sq, .bool dl, .string vl] 30)).heap[wr.heap.size]? = some (.cells #[.string ky, .int .i64 sq, .bool dl, .string vl] 30 (0, 0)) := heap_alloc_new wr _
        have hzA : wr.heap.size < (wr.alloc (.cells #[.string ky, .int .i64 sq, .bool dl, .string vl] 30)).heap.size := by simp
        have xA := hbl.alloc hbl.size (.cells #[.string ky, .int .i64 sq, .bool dl, .string vl] 30)
        have rA := hr.alloc (.cells #[.string ky, .int .i64 sq, .bool dl, .string vl] 30)
        have bA := bld_below hbd (halI wr (.cells #[.string ky, .int .i64 sq, .bool dl, .string vl] 30))
        go_upto_region 10 with fail
        generalize (wr.alloc (.cells #[.string ky, .int .i64 sq, .bool dl, .string vl] 30)) = wA at d0 dh xA rA bA hzA ⊢
        clear hc0 hc1 hc2 hc3
        go_upto_region 12 with (first | (go_at_call 148; refine (Try.Builder_Len _ _ _ _ bA).mono ?_; rintro e w' ⟨rfl, rfl⟩; rw [Lib.byteCells_length]) | (at_builtin; refine app_new rfl rfl Try.underlying125 info_I rfl (by decide) rA rfl 1 rfl rfl (by simp [Value.oneCell']) (by omega) xA (Nat.le_refl _) xA.size ?_; intro o2 W r2 xW g2))
        have fh := (g2.block wr.heap.size hzA (fun e => by have := (hr.lt _ e.symm).2; omega)).trans dh
        have bW := bld_grown bA rA (by decide) (by decide) g2
        have rW : W.ownsRow w.heap.size 3 1 o2 (plcTo l (k + 1)).length ((plcTo l (k + 1)).map intCells).flatten := by rw [HB.out]; simpa [intCells] using r2
        have hzW : wr.heap.size < W.heap.size := Nat.lt_of_lt_of_le hzA g2.size
        have z1W : w1.heap.size < W.heap.size := Nat.lt_trans hzr hzW
        clear g2 r2 bA rA xA dh d0 hr hbd
        cases dl with
        | false =>
          have hv1 := varL_length (0 : Int)
          have hv2 := varL_length sq
          have hp1 := pie_len ky.data.toList
          have hp2 := pie_len vl.data.toList
          have hky : ky.data.toList.length = ky.size := by simp
          have hvs : vl.data.toList.length = vl.size := by simp
          skip
          have hfl := flgL_len false
          have hc1 : ¬ 9223372036854775807 < (varL 0).length + (pieL ky.data.toList).length := by omega
          have hc2 : ¬ 9223372036854775807 < (varL 0).length + ((pieL ky.data.toList).length + (varL sq).length) := by omega
          have hc2' : ¬ 9223372036854775807 < (varL 0).length + (pieL ky.data.toList).length + (varL sq).length := by omega
          have hc3 : ¬ 9223372036854775807 < (varL 0).length + ((pieL ky.data.toList).length + ((varL sq).length + 1)) := by omega
          have hc3' : ¬ 9223372036854775807 < (varL 0).length + (pieL ky.data.toList).length + (varL sq).length + 1 := by omega
          have hc4 : ¬ 9223372036854775807 < (varL 0).length + ((pieL ky.data.toList).length + ((varL sq).length + (1 + (pieL vl.data.toList).length))) := by omega
          have hc4' : ¬ 9223372036854775807 < (varL 0).length + (pieL ky.data.toList).length + (varL sq).length + 1 + (pieL vl.data.toList).length := by omega
          have hc6 : ¬ 9223372036854775807 < (varL 0).length + ((pieL ky.data.toList).length + (varL sq).length) + 1 := by omega
          have hc7 : ¬ 9223372036854775807 < (varL 0).length + ((pieL ky.data.toList).length + ((varL sq).length + 1)) + (pieL vl.data.toList).length := by omega
          have hc5 : ¬ 9223372036854775807 < (varL 0).length + ((pieL ky.data.toList).length + ((varL sq).length + ((pieL vl.data.toList).length + 1))) := by omega
          have g0 : W.drew.cell? ⟨wr.heap.size, 0, none⟩ = some (.string ky) := by rw [Lib.cell_of_heap (w := W.drew) fh]; rfl
          have g1 : W.drew.cell? ⟨wr.heap.size, 1, none⟩ = some (.int .i64 sq) := by rw [Lib.cell_of_heap (w := W.drew) fh]; rfl
          have g2 : W.drew.cell? ⟨wr.heap.size, 2, none⟩ = some (.bool false) := by rw [Lib.cell_of_heap (w := W.drew) fh]; rfl
          have g3 : W.drew.cell? ⟨wr.heap.size, 3, none⟩ = some (.string vl) := by rw [Lib.cell_of_heap (w := W.drew) fh]; rfl
          have hzD : wr.heap.size < W.drew.heap.size := hzW
          have xD : RowKit.Below w.heap.size w W.drew := xW.drew
          have HBD := Lib.hid (show Lib.IsBuilder 105 5 w1.heap.size w1.heap.size (Lib.byteCells T) W.drew from bW)
          have HFD := Lib.hid (show W.drew.heap[wr.heap.size]? = some (.cells #[.string ky, .int .i64 sq, .bool false, .string vl] 30 (0, 0)) from fh)
          have HRD := Lib.hid (show W.drew.ownsRow w.heap.size 3 1 o2 (plcTo l (k + 1)).length ((plcTo l (k + 1)).map intCells).flatten from rW)
          have hz1D : w1.heap.size ≤ W.drew.heap.size := Nat.le_of_lt z1W
          clear fh rW bW xW
          go_region_held3 (fun w' => w'.cell? ⟨wr.heap.size, 0, none⟩ = some (.string ky) ∧ w'.cell? ⟨wr.heap.size, 1, none⟩ = some (.int .i64 sq) ∧ w'.cell? ⟨wr.heap.size, 2, none⟩ = some (.bool false) ∧ w'.cell? ⟨wr.heap.size, 3, none⟩ = some (.string vl))
            (refine ⟨?_, ?_, ?_, ?_⟩ <;> assumption)
            (first
              | (go_at_call 76; have gg := D5; clear gg; refine (writeStr_any w1.heap.size w1.heap.size T _ _ (bld_below HBD.out D5) (by rw [str_size]; simp; omega) (Nat.le_trans hz1D D5.size)).mono ?_; rintro e a6 ⟨rfl, hb6, b6, k6⟩; have o6 := k6 _ _ _ _ ((D5.block wr.heap.size hzD).trans HFD.out) (by decide) (by omega); have m0 : a6.cell? ⟨wr.heap.size, 0, none⟩ = some (.string ky) := (by rw [Lib.cell_of_heap o6]; rfl); have m1 : a6.cell? ⟨wr.heap.size, 1, none⟩ = some (.int .i64 sq) := (by rw [Lib.cell_of_heap o6]; rfl); have m2 : a6.cell? ⟨wr.heap.size, 2, none⟩ = some (.bool false) := (by rw [Lib.cell_of_heap o6]; rfl); have m3 : a6.cell? ⟨wr.heap.size, 3, none⟩ = some (.string vl) := (by rw [Lib.cell_of_heap o6]; rfl))
              | (go_at_call 78; have gg := D3; clear gg; refine (short_any vl _ (by omega)).mono ?_; rintro e a5 ⟨rfl, c5⟩; have D5 := D3.trans (c5.mono D3.size); have p0 := (bcell D5).1 wr.heap.size 0 hzD; have p1 := (bcell D5).1 wr.heap.size 1 hzD; have p2 := (bcell D5).1 wr.heap.size 2 hzD; have p3 := (bcell D5).1 wr.heap.size 3 hzD; rw [g0] at p0; rw [g1] at p1; rw [g2] at p2; rw [g3] at p3)
              | (go_at_call 101; refine (flagB_any false _).mono ?_; rintro e w' ⟨rfl, rfl⟩)
              | (go_at_call 77; have gg := D2; clear gg; refine (implVar sq _).mono ?_; rintro e a3 ⟨rfl, c3⟩; have D3 := D2.trans (c3.mono D2.size); have r0 := (bcell D3).1 wr.heap.size 0 hzD; have r1 := (bcell D3).1 wr.heap.size 1 hzD; have r2 := (bcell D3).1 wr.heap.size 2 hzD; have r3 := (bcell D3).1 wr.heap.size 3 hzD; rw [g0] at r0; rw [g1] at r1; rw [g2] at r2; rw [g3] at r3)
              | (go_at_call 78; refine (short_any ky _ (by omega)).mono ?_; rintro e a2 ⟨rfl, c2⟩; have D2 := D1.trans (c2.mono D1.size); have s0 := (bcell D2).1 wr.heap.size 0 hzD; have s1 := (bcell D2).1 wr.heap.size 1 hzD; have s2 := (bcell D2).1 wr.heap.size 2 hzD; have s3 := (bcell D2).1 wr.heap.size 3 hzD; rw [g0] at s0; rw [g1] at s1; rw [g2] at s2; rw [g3] at s3)
              | (go_at_call 77; refine (implVar 0 _).mono ?_; rintro e a1 ⟨rfl, c1⟩; have D1 := c1; have t0 := (bcell D1).1 wr.heap.size 0 hzD; have t1 := (bcell D1).1 wr.heap.size 1 hzD; have t2 := (bcell D1).1 wr.heap.size 2 hzD; have t3 := (bcell D1).1 wr.heap.size 3 hzD; rw [g0] at t0; rw [g1] at t1; rw [g2] at t2; rw [g3] at t3))
          all_goals
            rw [str_data] at hb6
            have x6 : RowKit.Below w.heap.size w a6 := (xD.trans (D5.mono xD.size)).trans (b6.mono b1.size)
            have q5 := bld_below HBD.out D5
            have r6 := own_kept (own_below HRD.out D5) (fun j cs fr hj => k6 j cs _ fr hj (by decide) (bld_ne q5 hj (by decide)))
            have z6 : w1.heap.size < a6.heap.size := Nat.lt_of_lt_of_le z1W (Nat.le_trans D5.size b6.size)
            clear q5 k6 b6 D5 D3 D2 D1
            go_wp2
            go_roundw
            case rel => exact ⟨k + 1, by omega, by go_num, r6, by rw [HS.out, HP.out, HZ.out]; simpa [flgL] using hb6, x6, z6⟩
            case measure => simp [intOf]; omega
        | true =>
          have hv1 := varL_length (0 : Int)
          have hv2 := varL_length sq
          have hp1 := pie_len ky.data.toList
          have hp2 := pie_len vl.data.toList
          have hky : ky.data.toList.length = ky.size := by simp
          have hvs : vl.data.toList.length = vl.size := by simp
          skip
          have hfl := flgL_len true
          have hc1 : ¬ 9223372036854775807 < (varL 0).length + (pieL ky.data.toList).length := by omega
          have hc2 : ¬ 9223372036854775807 < (varL 0).length + ((pieL ky.data.toList).length + (varL sq).length) := by omega
          have hc2' : ¬ 9223372036854775807 < (varL 0).length + (pieL ky.data.toList).length + (varL sq).length := by omega
          have hc3 : ¬ 9223372036854775807 < (varL 0).length + ((pieL ky.data.toList).length + ((varL sq).length + 1)) := by omega
          have hc3' : ¬ 9223372036854775807 < (varL 0).length + (pieL ky.data.toList).length + (varL sq).length + 1 := by omega
          have hc4 : ¬ 9223372036854775807 < (varL 0).length + ((pieL ky.data.toList).length + ((varL sq).length + (1 + (pieL vl.data.toList).length))) := by omega
          have hc4' : ¬ 9223372036854775807 < (varL 0).length + (pieL ky.data.toList).length + (varL sq).length + 1 + (pieL vl.data.toList).length := by omega
          have hc6 : ¬ 9223372036854775807 < (varL 0).length + ((pieL ky.data.toList).length + (varL sq).length) + 1 := by omega
          have hc7 : ¬ 9223372036854775807 < (varL 0).length + ((pieL ky.data.toList).length + ((varL sq).length + 1)) + (pieL vl.data.toList).length := by omega
          have hc5 : ¬ 9223372036854775807 < (varL 0).length + ((pieL ky.data.toList).length + ((varL sq).length + ((pieL vl.data.toList).length + 1))) := by omega
          have g0 : W.drew.cell? ⟨wr.heap.size, 0, none⟩ = some (.string ky) := by rw [Lib.cell_of_heap (w := W.drew) fh]; rfl
          have g1 : W.drew.cell? ⟨wr.heap.size, 1, none⟩ = some (.int .i64 sq) := by rw [Lib.cell_of_heap (w := W.drew) fh]; rfl
          have g2 : W.drew.cell? ⟨wr.heap.size, 2, none⟩ = some (.bool true) := by rw [Lib.cell_of_heap (w := W.drew) fh]; rfl
          have g3 : W.drew.cell? ⟨wr.heap.size, 3, none⟩ = some (.string vl) := by rw [Lib.cell_of_heap (w := W.drew) fh]; rfl
          have hzD : wr.heap.size < W.drew.heap.size := hzW
          have xD : RowKit.Below w.heap.size w W.drew := xW.drew
          have HBD := Lib.hid (show Lib.IsBuilder 105 5 w1.heap.size w1.heap.size (Lib.byteCells T) W.drew from bW)
          have HFD := Lib.hid (show W.drew.heap[wr.heap.size]? = some (.cells #[.string ky, .int .i64 sq, .bool true, .string vl] 30 (0, 0)) from fh)
          have HRD := Lib.hid (show W.drew.ownsRow w.heap.size 3 1 o2 (plcTo l (k + 1)).length ((plcTo l (k + 1)).map intCells).flatten from rW)
          have hz1D : w1.heap.size ≤ W.drew.heap.size := Nat.le_of_lt z1W
          clear fh rW bW xW
          go_region_held3 (fun w' => w'.cell? ⟨wr.heap.size, 0, none⟩ = some (.string ky) ∧ w'.cell? ⟨wr.heap.size, 1, none⟩ = some (.int .i64 sq) ∧ w'.cell? ⟨wr.heap.size, 2, none⟩ = some (.bool true) ∧ w'.cell? ⟨wr.heap.size, 3, none⟩ = some (.string vl))
            (refine ⟨?_, ?_, ?_, ?_⟩ <;> assumption)
            (first
              | (go_at_call 76; have gg := D5; clear gg; refine (writeStr_any w1.heap.size w1.heap.size T _ _ (bld_below HBD.out D5) (by rw [str_size]; simp; omega) (Nat.le_trans hz1D D5.size)).mono ?_; rintro e a6 ⟨rfl, hb6, b6, k6⟩; have o6 := k6 _ _ _ _ ((D5.block wr.heap.size hzD).trans HFD.out) (by decide) (by omega); have m0 : a6.cell? ⟨wr.heap.size, 0, none⟩ = some (.string ky) := (by rw [Lib.cell_of_heap o6]; rfl); have m1 : a6.cell? ⟨wr.heap.size, 1, none⟩ = some (.int .i64 sq) := (by rw [Lib.cell_of_heap o6]; rfl); have m2 : a6.cell? ⟨wr.heap.size, 2, none⟩ = some (.bool true) := (by rw [Lib.cell_of_heap o6]; rfl); have m3 : a6.cell? ⟨wr.heap.size, 3, none⟩ = some (.string vl) := (by rw [Lib.cell_of_heap o6]; rfl))
              | (go_at_call 78; have gg := D3; clear gg; refine (short_any vl _ (by omega)).mono ?_; rintro e a5 ⟨rfl, c5⟩; have D5 := D3.trans (c5.mono D3.size); have p0 := (bcell D5).1 wr.heap.size 0 hzD; have p1 := (bcell D5).1 wr.heap.size 1 hzD; have p2 := (bcell D5).1 wr.heap.size 2 hzD; have p3 := (bcell D5).1 wr.heap.size 3 hzD; rw [g0] at p0; rw [g1] at p1; rw [g2] at p2; rw [g3] at p3)
              | (go_at_call 101; refine (flagB_any true _).mono ?_; rintro e w' ⟨rfl, rfl⟩)
              | (go_at_call 77; have gg := D2; clear gg; refine (implVar sq _).mono ?_; rintro e a3 ⟨rfl, c3⟩; have D3 := D2.trans (c3.mono D2.size); have r0 := (bcell D3).1 wr.heap.size 0 hzD; have r1 := (bcell D3).1 wr.heap.size 1 hzD; have r2 := (bcell D3).1 wr.heap.size 2 hzD; have r3 := (bcell D3).1 wr.heap.size 3 hzD; rw [g0] at r0; rw [g1] at r1; rw [g2] at r2; rw [g3] at r3)
              | (go_at_call 78; refine (short_any ky _ (by omega)).mono ?_; rintro e a2 ⟨rfl, c2⟩; have D2 := D1.trans (c2.mono D1.size); have s0 := (bcell D2).1 wr.heap.size 0 hzD; have s1 := (bcell D2).1 wr.heap.size 1 hzD; have s2 := (bcell D2).1 wr.heap.size 2 hzD; have s3 := (bcell D2).1 wr.heap.size 3 hzD; rw [g0] at s0; rw [g1] at s1; rw [g2] at s2; rw [g3] at s3)
              | (go_at_call 77; refine (implVar 0 _).mono ?_; rintro e a1 ⟨rfl, c1⟩; have D1 := c1; have t0 := (bcell D1).1 wr.heap.size 0 hzD; have t1 := (bcell D1).1 wr.heap.size 1 hzD; have t2 := (bcell D1).1 wr.heap.size 2 hzD; have t3 := (bcell D1).1 wr.heap.size 3 hzD; rw [g0] at t0; rw [g1] at t1; rw [g2] at t2; rw [g3] at t3))
          all_goals
            rw [str_data] at hb6
            have x6 : RowKit.Below w.heap.size w a6 := (xD.trans (D5.mono xD.size)).trans (b6.mono b1.size)
            have q5 := bld_below HBD.out D5
            have r6 := own_kept (own_below HRD.out D5) (fun j cs fr hj => k6 j cs _ fr hj (by decide) (bld_ne q5 hj (by decide)))
            have z6 : w1.heap.size < a6.heap.size := Nat.lt_of_lt_of_le z1W (Nat.le_trans D5.size b6.size)
            clear q5 k6 b6 D5 D3 D2 D1
            go_wp2
            go_roundw
            case rel => exact ⟨k + 1, by omega, by go_num, r6, by rw [HS.out, HP.out, HZ.out]; simpa [flgL] using hb6, x6, z6⟩
            case measure => simp [intOf]; omega
      · obtain ⟨p, hpc, hps, hpe⟩ := HNN.out h4
        have hp0 : (0 : Int) ≤ (k : Int) - 1 := by omega
        have hp1' : ((k : Int) - 1).toNat = k - 1 := by omega
        have hp2' : (k : Int) - 1 < l.length := by omega
        have hp3 : IntKind.i64.wrap ((k : Int) - 1) = (k : Int) - 1 := by rw [IntKind.wrap_i64]; omega
        have h4i : ¬ ((k : Int) % 4) = 0 := by omega
        have HB := Lib.hid (show plcTo l (k + 1) = U from by rw [plcTo_miss l h4, hU])
        have HZ := Lib.hid (show sn = sn from rfl)
        have EXD : (ky.extract sn ky.size).data.toList = ky.data.toList.drop sn := by simp [ByteArray.data_extract, List.take_of_length_le]
        have EXS : (ky.extract sn ky.size).size = ky.size - sn := by simp
        have hsk : (sn : Int) ≤ ky.size := by omega
        have d0 : (wr.alloc (.cells #[.string ky, .int .i64 sq, .bool dl, .string vl] 30)).cell? ⟨wr.heap.size, 0, none⟩ = some (.string ky) := by simp [go_sem]
        have dh : (wr.alloc (.cells #[.string ky, .int .i64 sq, .bool dl, .string vl] 30)).heap[wr.heap.size]? = some (.cells #[.string ky, .int .i64 sq, .bool dl, .string vl] 30 (0, 0)) := heap_alloc_new wr _
        have hzA : wr.heap.size < (wr.alloc (.cells #[.string ky, .int .i64 sq, .bool dl, .string vl] 30)).heap.size := by simp
        have xA := hbl.alloc hbl.size (.cells #[.string ky, .int .i64 sq, .bool dl, .string vl] 30)
        have rA := hr.alloc (.cells #[.string ky, .int .i64 sq, .bool dl, .string vl] 30)
        have bA := bld_below hbd (halI wr (.cells #[.string ky, .int .i64 sq, .bool dl, .string vl] 30))
        have d5 : (wr.alloc (.cells #[.string ky, .int .i64 sq, .bool dl, .string vl] 30)).cell? ⟨b, off + (k - 1) * 4, none⟩ = some (.string p) := by rw [World.cell?_alloc_past _ _ _ (Nat.lt_of_lt_of_le hbs hbl.size)]; exact hpc
        go_upto_region 11 with fail
        generalize (wr.alloc (.cells #[.string ky, .int .i64 sq, .bool dl, .string vl] 30)) = wA at d0 d5 dh xA rA bA hzA ⊢
        clear hc0 hc1 hc2 hc3 hpc
        have j0 := cell_regrown d0
        have j5 := cell_regrown d5
        have cS : ∀ d os, Calls Try.prog 149 #[.string ky, .string p] (grow (redrawn wA d) os) fun e w'' => e = .returned (.int .i64 (sn : Int)) ∧ ∃ p : Regrown, w'' = grow (redrawn wA p.d) p.os := fun d os => Calls.regrown_of (by rw [hpe]; exact commonPrefix_any _ _ _ (by omega) (by omega))
        have HPE := Lib.hid hpe
        clear hpe
        refine wp_region_quiet_below (by kernel_rfl) (by kernel_rfl) ?_
        repeat (first | go_big_quiet_step (exact cS _ _) | go_big_quiet_step (fail))
        refine wpQuiet_nil ?_
        intro W hw'
        have b2 : RowKit.Below wA.heap.size wA W := by obtain ⟨p, rfl⟩ := hw'; exact below_regrown _ _ _
        have xW := xA.trans (b2.mono xA.size)
        have fh := (b2.block wr.heap.size hzA).trans dh
        have bW := bld_below bA b2
        have rW : W.ownsRow w.heap.size 3 1 (.slice oo U.length co) (plcTo l (k + 1)).length ((plcTo l (k + 1)).map intCells).flatten := by rw [HB.out]; exact own_below rA b2
        have hzW : wr.heap.size < W.heap.size := Nat.lt_of_lt_of_le hzA b2.size
        have z1W : w1.heap.size < W.heap.size := Nat.lt_trans hzr hzW
        clear hw' cS j0 j5 d0 d5 b2 bA rA xA dh hr hbd
        go_upto_region 12 with fail
        cases dl with
        | false =>
          have hv1 := varL_length ((sn : Int) : Int)
          have hv2 := varL_length sq
          have hp1 := pie_len (ky.data.toList.drop sn)
          have hp2 := pie_len vl.data.toList
          have hky : ky.data.toList.length = ky.size := by simp
          have hvs : vl.data.toList.length = vl.size := by simp
          rw [List.length_drop] at hp1
          have hfl := flgL_len false
          have hc1 : ¬ 9223372036854775807 < (varL (sn : Int)).length + (pieL (ky.data.toList.drop sn)).length := by omega
          have hc2 : ¬ 9223372036854775807 < (varL (sn : Int)).length + ((pieL (ky.data.toList.drop sn)).length + (varL sq).length) := by omega
          have hc2' : ¬ 9223372036854775807 < (varL (sn : Int)).length + (pieL (ky.data.toList.drop sn)).length + (varL sq).length := by omega
          have hc3 : ¬ 9223372036854775807 < (varL (sn : Int)).length + ((pieL (ky.data.toList.drop sn)).length + ((varL sq).length + 1)) := by omega
          have hc3' : ¬ 9223372036854775807 < (varL (sn : Int)).length + (pieL (ky.data.toList.drop sn)).length + (varL sq).length + 1 := by omega
          have hc4 : ¬ 9223372036854775807 < (varL (sn : Int)).length + ((pieL (ky.data.toList.drop sn)).length + ((varL sq).length + (1 + (pieL vl.data.toList).length))) := by omega
          have hc4' : ¬ 9223372036854775807 < (varL (sn : Int)).length + (pieL (ky.data.toList.drop sn)).length + (varL sq).length + 1 + (pieL vl.data.toList).length := by omega
          have hc6 : ¬ 9223372036854775807 < (varL (sn : Int)).length + ((pieL (ky.data.toList.drop sn)).length + (varL sq).length) + 1 := by omega
          have hc7 : ¬ 9223372036854775807 < (varL (sn : Int)).length + ((pieL (ky.data.toList.drop sn)).length + ((varL sq).length + 1)) + (pieL vl.data.toList).length := by omega
          have hc5 : ¬ 9223372036854775807 < (varL (sn : Int)).length + ((pieL (ky.data.toList.drop sn)).length + ((varL sq).length + ((pieL vl.data.toList).length + 1))) := by omega
          have g0 : W.drew.cell? ⟨wr.heap.size, 0, none⟩ = some (.string ky) := by rw [Lib.cell_of_heap (w := W.drew) fh]; rfl
          have g1 : W.drew.cell? ⟨wr.heap.size, 1, none⟩ = some (.int .i64 sq) := by rw [Lib.cell_of_heap (w := W.drew) fh]; rfl
          have g2 : W.drew.cell? ⟨wr.heap.size, 2, none⟩ = some (.bool false) := by rw [Lib.cell_of_heap (w := W.drew) fh]; rfl
          have g3 : W.drew.cell? ⟨wr.heap.size, 3, none⟩ = some (.string vl) := by rw [Lib.cell_of_heap (w := W.drew) fh]; rfl
          have hzD : wr.heap.size < W.drew.heap.size := hzW
          have xD : RowKit.Below w.heap.size w W.drew := xW.drew
          have HBD := Lib.hid (show Lib.IsBuilder 105 5 w1.heap.size w1.heap.size (Lib.byteCells T) W.drew from bW)
          have HFD := Lib.hid (show W.drew.heap[wr.heap.size]? = some (.cells #[.string ky, .int .i64 sq, .bool false, .string vl] 30 (0, 0)) from fh)
          have HRD := Lib.hid (show W.drew.ownsRow w.heap.size 3 1 (.slice oo U.length co) (plcTo l (k + 1)).length ((plcTo l (k + 1)).map intCells).flatten from rW)
          have hz1D : w1.heap.size ≤ W.drew.heap.size := Nat.le_of_lt z1W
          clear fh rW bW xW
          go_region_held3 (fun w' => w'.cell? ⟨wr.heap.size, 0, none⟩ = some (.string ky) ∧ w'.cell? ⟨wr.heap.size, 1, none⟩ = some (.int .i64 sq) ∧ w'.cell? ⟨wr.heap.size, 2, none⟩ = some (.bool false) ∧ w'.cell? ⟨wr.heap.size, 3, none⟩ = some (.string vl))
            (refine ⟨?_, ?_, ?_, ?_⟩ <;> assumption)
            (first
              | (go_at_call 76; have gg := D5; clear gg; refine (writeStr_any w1.heap.size w1.heap.size T _ _ (bld_below HBD.out D5) (by rw [str_size]; simp; omega) (Nat.le_trans hz1D D5.size)).mono ?_; rintro e a6 ⟨rfl, hb6, b6, k6⟩; have o6 := k6 _ _ _ _ ((D5.block wr.heap.size hzD).trans HFD.out) (by decide) (by omega); have m0 : a6.cell? ⟨wr.heap.size, 0, none⟩ = some (.string ky) := (by rw [Lib.cell_of_heap o6]; rfl); have m1 : a6.cell? ⟨wr.heap.size, 1, none⟩ = some (.int .i64 sq) := (by rw [Lib.cell_of_heap o6]; rfl); have m2 : a6.cell? ⟨wr.heap.size, 2, none⟩ = some (.bool false) := (by rw [Lib.cell_of_heap o6]; rfl); have m3 : a6.cell? ⟨wr.heap.size, 3, none⟩ = some (.string vl) := (by rw [Lib.cell_of_heap o6]; rfl))
              | (go_at_call 78; have gg := D3; clear gg; refine (short_any vl _ (by omega)).mono ?_; rintro e a5 ⟨rfl, c5⟩; have D5 := D3.trans (c5.mono D3.size); have p0 := (bcell D5).1 wr.heap.size 0 hzD; have p1 := (bcell D5).1 wr.heap.size 1 hzD; have p2 := (bcell D5).1 wr.heap.size 2 hzD; have p3 := (bcell D5).1 wr.heap.size 3 hzD; rw [g0] at p0; rw [g1] at p1; rw [g2] at p2; rw [g3] at p3)
              | (go_at_call 101; refine (flagB_any false _).mono ?_; rintro e w' ⟨rfl, rfl⟩)
              | (go_at_call 77; have gg := D2; clear gg; refine (implVar sq _).mono ?_; rintro e a3 ⟨rfl, c3⟩; have D3 := D2.trans (c3.mono D2.size); have r0 := (bcell D3).1 wr.heap.size 0 hzD; have r1 := (bcell D3).1 wr.heap.size 1 hzD; have r2 := (bcell D3).1 wr.heap.size 2 hzD; have r3 := (bcell D3).1 wr.heap.size 3 hzD; rw [g0] at r0; rw [g1] at r1; rw [g2] at r2; rw [g3] at r3)
              | (go_at_call 78; refine (short_any (ky.extract sn ky.size) _ (by rw [EXS]; omega)).mono ?_; rintro e a2 ⟨rfl, c2⟩; rw [EXD]; have D2 := D1.trans (c2.mono D1.size); have s0 := (bcell D2).1 wr.heap.size 0 hzD; have s1 := (bcell D2).1 wr.heap.size 1 hzD; have s2 := (bcell D2).1 wr.heap.size 2 hzD; have s3 := (bcell D2).1 wr.heap.size 3 hzD; rw [g0] at s0; rw [g1] at s1; rw [g2] at s2; rw [g3] at s3)
              | (go_at_call 77; refine (implVar (sn : Int) _).mono ?_; rintro e a1 ⟨rfl, c1⟩; have D1 := c1; have t0 := (bcell D1).1 wr.heap.size 0 hzD; have t1 := (bcell D1).1 wr.heap.size 1 hzD; have t2 := (bcell D1).1 wr.heap.size 2 hzD; have t3 := (bcell D1).1 wr.heap.size 3 hzD; rw [g0] at t0; rw [g1] at t1; rw [g2] at t2; rw [g3] at t3))
          all_goals
            rw [str_data] at hb6
            have x6 : RowKit.Below w.heap.size w a6 := (xD.trans (D5.mono xD.size)).trans (b6.mono b1.size)
            have q5 := bld_below HBD.out D5
            have r6 := own_kept (own_below HRD.out D5) (fun j cs fr hj => k6 j cs _ fr hj (by decide) (bld_ne q5 hj (by decide)))
            have z6 : w1.heap.size < a6.heap.size := Nat.lt_of_lt_of_le z1W (Nat.le_trans D5.size b6.size)
            clear q5 k6 b6 D5 D3 D2 D1
            go_wp2
            go_roundw
            case rel => exact ⟨k + 1, by omega, by go_num, r6, by rw [HS.out, HP.out]; simpa [flgL] using hb6, x6, z6⟩
            case measure => simp [intOf]; omega
        | true =>
          have hv1 := varL_length ((sn : Int) : Int)
          have hv2 := varL_length sq
          have hp1 := pie_len (ky.data.toList.drop sn)
          have hp2 := pie_len vl.data.toList
          have hky : ky.data.toList.length = ky.size := by simp
          have hvs : vl.data.toList.length = vl.size := by simp
          rw [List.length_drop] at hp1
          have hfl := flgL_len true
          have hc1 : ¬ 9223372036854775807 < (varL (sn : Int)).length + (pieL (ky.data.toList.drop sn)).length := by omega
          have hc2 : ¬ 9223372036854775807 < (varL (sn : Int)).length + ((pieL (ky.data.toList.drop sn)).length + (varL sq).length) := by omega
          have hc2' : ¬ 9223372036854775807 < (varL (sn : Int)).length + (pieL (ky.data.toList.drop sn)).length + (varL sq).length := by omega
          have hc3 : ¬ 9223372036854775807 < (varL (sn : Int)).length + ((pieL (ky.data.toList.drop sn)).length + ((varL sq).length + 1)) := by omega
          have hc3' : ¬ 9223372036854775807 < (varL (sn : Int)).length + (pieL (ky.data.toList.drop sn)).length + (varL sq).length + 1 := by omega
          have hc4 : ¬ 9223372036854775807 < (varL (sn : Int)).length + ((pieL (ky.data.toList.drop sn)).length + ((varL sq).length + (1 + (pieL vl.data.toList).length))) := by omega
          have hc4' : ¬ 9223372036854775807 < (varL (sn : Int)).length + (pieL (ky.data.toList.drop sn)).length + (varL sq).length + 1 + (pieL vl.data.toList).length := by omega
          have hc6 : ¬ 9223372036854775807 < (varL (sn : Int)).length + ((pieL (ky.data.toList.drop sn)).length + (varL sq).length) + 1 := by omega
          have hc7 : ¬ 9223372036854775807 < (varL (sn : Int)).length + ((pieL (ky.data.toList.drop sn)).length + ((varL sq).length + 1)) + (pieL vl.data.toList).length := by omega
          have hc5 : ¬ 9223372036854775807 < (varL (sn : Int)).length + ((pieL (ky.data.toList.drop sn)).length + ((varL sq).length + ((pieL vl.data.toList).length + 1))) := by omega
          have g0 : W.drew.cell? ⟨wr.heap.size, 0, none⟩ = some (.string ky) := by rw [Lib.cell_of_heap (w := W.drew) fh]; rfl
          have g1 : W.drew.cell? ⟨wr.heap.size, 1, none⟩ = some (.int .i64 sq) := by rw [Lib.cell_of_heap (w := W.drew) fh]; rfl
          have g2 : W.drew.cell? ⟨wr.heap.size, 2, none⟩ = some (.bool true) := by rw [Lib.cell_of_heap (w := W.drew) fh]; rfl
          have g3 : W.drew.cell? ⟨wr.heap.size, 3, none⟩ = some (.string vl) := by rw [Lib.cell_of_heap (w := W.drew) fh]; rfl
          have hzD : wr.heap.size < W.drew.heap.size := hzW
          have xD : RowKit.Below w.heap.size w W.drew := xW.drew
          have HBD := Lib.hid (show Lib.IsBuilder 105 5 w1.heap.size w1.heap.size (Lib.byteCells T) W.drew from bW)
          have HFD := Lib.hid (show W.drew.heap[wr.heap.size]? = some (.cells #[.string ky, .int .i64 sq, .bool true, .string vl] 30 (0, 0)) from fh)
          have HRD := Lib.hid (show W.drew.ownsRow w.heap.size 3 1 (.slice oo U.length co) (plcTo l (k + 1)).length ((plcTo l (k + 1)).map intCells).flatten from rW)
          have hz1D : w1.heap.size ≤ W.drew.heap.size := Nat.le_of_lt z1W
          clear fh rW bW xW
          go_region_held3 (fun w' => w'.cell? ⟨wr.heap.size, 0, none⟩ = some (.string ky) ∧ w'.cell? ⟨wr.heap.size, 1, none⟩ = some (.int .i64 sq) ∧ w'.cell? ⟨wr.heap.size, 2, none⟩ = some (.bool true) ∧ w'.cell? ⟨wr.heap.size, 3, none⟩ = some (.string vl))
            (refine ⟨?_, ?_, ?_, ?_⟩ <;> assumption)
            (first
              | (go_at_call 76; have gg := D5; clear gg; refine (writeStr_any w1.heap.size w1.heap.size T _ _ (bld_below HBD.out D5) (by rw [str_size]; simp; omega) (Nat.le_trans hz1D D5.size)).mono ?_; rintro e a6 ⟨rfl, hb6, b6, k6⟩; have o6 := k6 _ _ _ _ ((D5.block wr.heap.size hzD).trans HFD.out) (by decide) (by omega); have m0 : a6.cell? ⟨wr.heap.size, 0, none⟩ = some (.string ky) := (by rw [Lib.cell_of_heap o6]; rfl); have m1 : a6.cell? ⟨wr.heap.size, 1, none⟩ = some (.int .i64 sq) := (by rw [Lib.cell_of_heap o6]; rfl); have m2 : a6.cell? ⟨wr.heap.size, 2, none⟩ = some (.bool true) := (by rw [Lib.cell_of_heap o6]; rfl); have m3 : a6.cell? ⟨wr.heap.size, 3, none⟩ = some (.string vl) := (by rw [Lib.cell_of_heap o6]; rfl))
              | (go_at_call 78; have gg := D3; clear gg; refine (short_any vl _ (by omega)).mono ?_; rintro e a5 ⟨rfl, c5⟩; have D5 := D3.trans (c5.mono D3.size); have p0 := (bcell D5).1 wr.heap.size 0 hzD; have p1 := (bcell D5).1 wr.heap.size 1 hzD; have p2 := (bcell D5).1 wr.heap.size 2 hzD; have p3 := (bcell D5).1 wr.heap.size 3 hzD; rw [g0] at p0; rw [g1] at p1; rw [g2] at p2; rw [g3] at p3)
              | (go_at_call 101; refine (flagB_any true _).mono ?_; rintro e w' ⟨rfl, rfl⟩)
              | (go_at_call 77; have gg := D2; clear gg; refine (implVar sq _).mono ?_; rintro e a3 ⟨rfl, c3⟩; have D3 := D2.trans (c3.mono D2.size); have r0 := (bcell D3).1 wr.heap.size 0 hzD; have r1 := (bcell D3).1 wr.heap.size 1 hzD; have r2 := (bcell D3).1 wr.heap.size 2 hzD; have r3 := (bcell D3).1 wr.heap.size 3 hzD; rw [g0] at r0; rw [g1] at r1; rw [g2] at r2; rw [g3] at r3)
              | (go_at_call 78; refine (short_any (ky.extract sn ky.size) _ (by rw [EXS]; omega)).mono ?_; rintro e a2 ⟨rfl, c2⟩; rw [EXD]; have D2 := D1.trans (c2.mono D1.size); have s0 := (bcell D2).1 wr.heap.size 0 hzD; have s1 := (bcell D2).1 wr.heap.size 1 hzD; have s2 := (bcell D2).1 wr.heap.size 2 hzD; have s3 := (bcell D2).1 wr.heap.size 3 hzD; rw [g0] at s0; rw [g1] at s1; rw [g2] at s2; rw [g3] at s3)
              | (go_at_call 77; refine (implVar (sn : Int) _).mono ?_; rintro e a1 ⟨rfl, c1⟩; have D1 := c1; have t0 := (bcell D1).1 wr.heap.size 0 hzD; have t1 := (bcell D1).1 wr.heap.size 1 hzD; have t2 := (bcell D1).1 wr.heap.size 2 hzD; have t3 := (bcell D1).1 wr.heap.size 3 hzD; rw [g0] at t0; rw [g1] at t1; rw [g2] at t2; rw [g3] at t3))
          all_goals
            rw [str_data] at hb6
            have x6 : RowKit.Below w.heap.size w a6 := (xD.trans (D5.mono xD.size)).trans (b6.mono b1.size)
            have q5 := bld_below HBD.out D5
            have r6 := own_kept (own_below HRD.out D5) (fun j cs fr hj => k6 j cs _ fr hj (by decide) (bld_ne q5 hj (by decide)))
            have z6 : w1.heap.size < a6.heap.size := Nat.lt_of_lt_of_le z1W (Nat.le_trans D5.size b6.size)
            clear q5 k6 b6 D5 D3 D2 D1
            go_wp2
            go_roundw
            case rel => exact ⟨k + 1, by omega, by go_num, r6, by rw [HS.out, HP.out]; simpa [flgL] using hb6, x6, z6⟩
            case measure => simp [intOf]; omega
    · obtain rfl : k = l.length := by omega
      have hplen := plcL_len (plcTo l l.length)
      have hvn := varL_length ((plcTo l l.length).length : Int)
      have hfx := fixedL_length_le ((blkTo l l.length).length : Int) 2
      clear hsh h hh
      unfold showKL at HR
      generalize blkTo l l.length = T at *
      generalize plcTo l l.length = U at *
      go_upto_region 16 with (first | (go_at_call 148; refine (Try.Builder_Len _ _ _ _ hbd).mono ?_; rintro e w' ⟨rfl, rfl⟩; rw [Lib.byteCells_length]) | (go_at_call 77; refine (implVar _ _).mono ?_; rintro e w2 ⟨rfl, b2⟩; have hb2 := bld_below hbd b2; have r2 := own_below hr b2; have x2 := hbl.trans (b2.mono hbl.size); have z2 := Nat.lt_of_lt_of_le hzr b2.size) | (go_at_call 76; refine (writeStr_any w1.heap.size w1.heap.size T (str (varL U.length)) _ hb2 (by rw [str_size]; omega) (Nat.le_of_lt z2)).mono ?_; rintro e w3 ⟨rfl, hb3, b3, k3⟩; rw [str_data] at hb3; have r3 := own_kept r2 (fun j cs fr hj => k3 j cs _ fr hj (by decide) (bld_ne hb2 hj (by decide))); have x3 := x2.trans (b3.mono b1.size); have z3 := Nat.lt_of_lt_of_le z2 b3.size))
      clear hbd hb2 hr r2 k3 b2 b3
      go_wp2
      go_loopw [72] (fun i wr2 => ∃ j : Nat, j ≤ U.length ∧ i = .int .i64 j ∧ wr2.ownsRow w.heap.size 3 1 (.slice oo U.length co) (U).length ((U).map intCells).flatten ∧ Lib.IsBuilder 105 5 w1.heap.size w1.heap.size (Lib.byteCells (T ++ varL U.length ++ plcL (U.take j))) wr2 ∧ Below w.heap.size w wr2 ∧ w1.heap.size < wr2.heap.size) (fun i _ => U.length - (intOf i).toNat)
      case atStart => exact ⟨0, by omega, rfl, r3, by simpa [plcL] using hb3, x3, z3⟩
      case round =>
        obtain ⟨j, hj, rfl, hr, hbd, hbl2, hz2⟩ := hrel
        have hpj := plcL_len (U.take j)
        rw [List.length_take] at hpj
        by_cases hlt : j < U.length
        · obtain ⟨g, rfl⟩ : ∃ g, oo = some ⟨g, 0, none⟩ := by
            rcases (Row.of_own hr rfl).shape with ⟨hv, hn⟩ | ⟨g, c, hv, _⟩
            · rw [hn] at hlt; simp at hlt
            · simp at hv; exact ⟨g, hv.1⟩
          have c0 : wr.cell? ⟨g, j, none⟩ = some (.int .i64 U[j]) := own_cell hr (by rw [intCells_flat]; simp [hlt])
          have hvj := varL_length U[j]
          have HT := Lib.hid (show plcL (U.take (j + 1)) = plcL (U.take j) ++ varL U[j] from by rw [List.take_succ_eq_append_getElem hlt, plcL_snoc])
          go_wp2_with (first | (go_at_call 77; refine (implVar _ _).mono ?_; rintro e w4 ⟨rfl, b4⟩; have hb4 := bld_below hbd b4; have r4 := own_below hr b4; have x4 := hbl2.trans (b4.mono hbl2.size); have z4 := Nat.lt_of_lt_of_le hz2 b4.size) | (go_at_call 76; refine (writeStr_any w1.heap.size w1.heap.size _ (str (varL U[j])) _ hb4 (by rw [str_size]; simp; omega) (Nat.le_of_lt z4)).mono ?_; rintro e w5 ⟨rfl, hb5, b5, k5⟩; rw [str_data] at hb5; have r5 := own_kept r4 (fun j cs fr hj => k5 j cs _ fr hj (by decide) (bld_ne hb4 hj (by decide))); have x5 := x4.trans (b5.mono b1.size); have z5 := Nat.lt_of_lt_of_le z4 b5.size))
          go_roundw
          case rel => exact ⟨j + 1, by omega, by go_num, r5, by rw [HT.out]; simpa using hb5, x5, z5⟩
          case measure => simp [intOf]; omega
        · obtain rfl : j = U.length := by omega
          rw [List.take_length] at hbd
          go_wp2_with (first | (go_at_call 150; refine (implFixed _ _ _ (by omega)).mono ?_; rintro e w4 ⟨rfl, b4⟩; have hb4 := bld_below hbd b4; have x4 := hbl2.trans (b4.mono hbl2.size); have z4 := Nat.lt_of_lt_of_le hz2 b4.size) | (go_at_call 76; refine (writeStr_any w1.heap.size w1.heap.size _ (str (fixedL T.length 2)) _ hb4 (by rw [str_size]; simp; omega) (Nat.le_of_lt z4)).mono ?_; rintro e w5 ⟨rfl, hb5, b5, _⟩; rw [str_data] at hb5; have x5 := x4.trans (b5.mono b1.size); have z5 := Nat.lt_of_lt_of_le z4 b5.size; have hb5' : Lib.IsBuilder 105 5 w1.heap.size w1.heap.size (Lib.byteCells (T ++ (varL U.length ++ (plcL U ++ fixedL T.length 2)))) w5 := (by simpa using hb5)) | (go_at_call 79; refine (Try.Builder_String_any _ _ _ _ hb5' (Nat.le_of_lt z5)).mono ?_; rintro e w6 ⟨rfl, b6⟩; have x6 := x5.trans (b6.mono b1.size)))
          go_ret
          exact ⟨by rw [HR.out]; rfl, x6⟩
end Go.Proofs.Ytfbbdnicplbmdaa
/- Walks: the laws' helper that marks a row of Ent. -/
set_option linter.unusedVariables false
set_option linter.unusedSimpArgs false
namespace Go.Proofs.Ytfbbdnicplbmdaa
open Go.RowKit Sp Go.Sort

namespace Sp
def mkEnt (k : Nat) : EntR := ⟨str (markL k), (((k + 1) : Nat) : Int), decide ((k + 2) % 3 = 0), str (markL (k + 3))⟩
def marksEnt (k m : Nat) : List EntR := (List.range m).map fun i => mkEnt (k + 4 * i)
theorem marksEnt_length (k m : Nat) : (marksEnt k m).length = m := by simp [marksEnt]
theorem marksEnt_step (k : Nat) (l : List EntR) (i : Nat) (h : i < l.length) : ((marksEnt k i ++ l.drop i).map EntR.cells).set i (mkEnt (k + 4 * i)).cells = (marksEnt k (i + 1) ++ l.drop (i + 1)).map EntR.cells := by
  rw [List.map_append, List.set_append_right _ _ (by simp [marksEnt_length])]
  rw [show i - ((marksEnt k i).map EntR.cells).length = 0 from by simp [marksEnt_length], List.drop_eq_getElem_cons h, List.map_cons, List.set_cons_zero]
  unfold marksEnt
  rw [List.range_succ]
  simp
end Sp

set_option maxRecDepth 100000 in
set_option maxHeartbeats 800000 in
theorem markEntS_any (l : List EntR) (k : Nat) (w : World) (base g cap : Nat) (hown : w.ownsRow base 30 4 (.slice (some ⟨g, 0, none⟩) l.length cap) l.length (l.map EntR.cells).flatten) (hcap : l.length ≤ cap) (hk1 : 1 ≤ (k : Int)) (hkl : (k : Int) + 4 * l.length ≤ 999999999) :
    Calls Try.prog 54 #[(.slice (some ⟨g, 0, none⟩) l.length cap), .int .i64 k] w fun e w' => e = .returned (.int .i64 ((k + 4 * l.length : Nat) : Int)) ∧ w'.ownsRow base 30 4 (.slice (some ⟨g, 0, none⟩) l.length cap) l.length ((marksEnt k l.length).map EntR.cells).flatten ∧ w.grownBy w' (some g) := by
  have hdrop : ∀ i, (marksEnt k i ++ l.drop i).length = max i l.length := by intro i; simp [marksEnt_length]; omega
  go_enter Try.func54, Try.ntmps54
  go_wp2
  go_loopw [1, 5] (fun a i wr => ∃ j : Nat, j ≤ l.length ∧ i = .int .i64 j ∧ a = .int .i64 ((k : Int) + 4 * j) ∧ wr.ownsRow base 30 4 (.slice (some ⟨g, 0, none⟩) l.length cap) l.length ((marksEnt k j ++ l.drop j).map EntR.cells).flatten ∧ w.grownBy wr (some g)) (fun _ i _ => l.length - (intOf i).toNat)
  case atStart => exact ⟨0, by omega, rfl, by simp, by simpa [marksEnt] using hown, touch_refl _ _⟩
  case round =>
    obtain ⟨j, hj, rfl, rfl, hr, ht⟩ := hrel
    by_cases hlt : j < l.length
    · have hll := hdrop j
      have hsz0 : g < wr.heap.size := (hr.lt _ rfl).2
      have hx : ∀ (xs : List Value), xs.length = l.length * 4 → j * 4 + 4 ≤ xs.length := fun xs h => by rw [h]; have : j + 1 ≤ l.length := hlt; have := Nat.mul_le_mul_right 4 this; omega
      have hst := marksEnt_step k l j hlt
      have hbe : (Value.bool (decide (((k : Int) + 4 * j + 2).tmod 3 = 0))) = .bool (decide ((k + 4 * j + 2) % 3 = 0)) := by rw [Int.tmod_eq_emod_of_nonneg (by omega)]; exact congrArg Value.bool (decide_eq_decide.2 (by omega))
      have HE := Lib.hid ((set_row4 (ll := (marksEnt k j ++ l.drop j).map EntR.cells) (fun c hc => by obtain ⟨x, _, rfl⟩ := List.mem_map.1 hc; rfl) j (by simp only [List.length_map]; omega) (.string (str (markL (k + 4 * j)))) (.int .i64 ((k : Int) + 4 * j + 1)) (.bool (decide (((k : Int) + 4 * j + 2).tmod 3 = 0))) (.string (str (markL (k + 4 * j + 3))))).trans ((by rw [hbe]; exact congrArg List.flatten hst) : _ = ((marksEnt k (j + 1) ++ l.drop (j + 1)).map EntR.cells).flatten))
      clear hst hbe
      go_wp2_with (go_at_call 127; refine (markText_int _ _ (by omega) (by omega)).mono ?_; rintro e w0 ⟨rfl, b0⟩; have r0 := own_below hr b0; have t0 := touch_below ht b0; obtain ⟨x0, q0⟩ := cell_owns r0 (j * 4) (by have := r0.1; omega); have z0 := r0.frozenAt; have s0 := (r0.stored (j * 4) (.string (str (markL (k + 4 * j))))).1; have y0 := touch_set t0 (j * 4) (.string (str (markL (k + 4 * j)))); obtain ⟨x1, q1⟩ := cell_owns s0 (j * 4 + 1) (by have := s0.1; omega); have z1 := s0.frozenAt; have s1 := (s0.stored (j * 4 + 1) (.int .i64 ((k : Int) + 4 * j + 1))).1; have y1 := touch_set y0 (j * 4 + 1) (.int .i64 ((k : Int) + 4 * j + 1)); obtain ⟨x2, q2⟩ := cell_owns s1 (j * 4 + 2) (by have := s1.1; omega); have z2 := s1.frozenAt; have s2 := (s1.stored (j * 4 + 2) (.bool (decide (((k : Int) + 4 * j + 2).tmod 3 = 0)))).1; have y2 := touch_set y1 (j * 4 + 2) (.bool (decide (((k : Int) + 4 * j + 2).tmod 3 = 0))))
      go_wp2_with (go_at_call 127; refine (markText_int _ _ (by omega) (by omega)).mono ?_; rintro e w3 ⟨rfl, b3⟩; have r3 := own_below s2 b3; have t3 := touch_below y2 b3; obtain ⟨x3, q3⟩ := cell_owns r3 (j * 4 + 3) (by have := r3.1; omega); have z3 := r3.frozenAt; have s3 := (r3.stored (j * 4 + 3) (.string (str (markL (k + 4 * j + 3))))).1; have y3 := touch_set t3 (j * 4 + 3) (.string (str (markL (k + 4 * j + 3)))))
      go_roundw
      case rel => exact ⟨j + 1, by omega, by go_num, by go_num, by rw [← HE.out]; exact s3, y3⟩
      case measure => simp [intOf]; omega
    · obtain rfl : j = l.length := by omega
      go_wp2
      go_ret
      exact ⟨by go_num, by simpa using hr, ht⟩
end Go.Proofs.Ytfbbdnicplbmdaa
/- Walks: the laws' helper that reads the marks of a row of Ent. -/
set_option linter.unusedVariables false
set_option linter.unusedSimpArgs false
namespace Go.Proofs.Ytfbbdnicplbmdaa
open Go.RowKit Sp Go.Sort

set_option maxRecDepth 100000 in
set_option maxHeartbeats 800000 in
theorem heldEntS_any (v : Value) (k m : Nat) (w : World) (h : SlT EntR.cells 4 w v (marksEnt k m)) (hk1 : 1 ≤ (k : Int)) (hkl : (k : Int) + 4 * m ≤ 999999999) :
    Calls Try.prog 60 #[v, .int .i64 k] w fun e w' => e = .returned (.int .i64 ((k + 4 * m : Nat) : Int)) ∧ Below w.heap.size w w' := by
  obtain ⟨ao, cap, rfl, hlc, hcm, hsh⟩ := h.shape
  rw [marksEnt_length] at *
  go_enter Try.func60, Try.ntmps60
  go_wp2
  go_loopw [1, 5] (fun a i wr => ∃ j : Nat, j ≤ m ∧ i = .int .i64 j ∧ a = .int .i64 ((k : Int) + 4 * j) ∧ Below w.heap.size w wr) (fun _ i _ => m - (intOf i).toNat)
  case atStart => exact ⟨0, by omega, rfl, by simp, Below.refl _ _⟩
  case round =>
    obtain ⟨j, hj, rfl, rfl, hbl⟩ := hrel
    by_cases hlt : j < m
    · obtain ⟨b, off, rfl, hb, hc⟩ := hsh (by first | omega | (rw [marksEnt_length]; omega))
      have c0 : w.cell? ⟨b, off + j * 4, none⟩ = some (.string (str (markL (k + 4 * j)))) := hc j (by rw [marksEnt_length]; exact hlt) 0 _ (by simp [marksEnt, mkEnt, EntR.cells])
      have c1 : w.cell? ⟨b, off + j * 4 + 1, none⟩ = some (.int .i64 (((k + 4 * j + 1) : Nat) : Int)) := hc j (by rw [marksEnt_length]; exact hlt) 1 _ (by simp [marksEnt, mkEnt, EntR.cells])
      have c2 : w.cell? ⟨b, off + j * 4 + 2, none⟩ = some (.bool (decide ((k + 4 * j + 2) % 3 = 0))) := hc j (by rw [marksEnt_length]; exact hlt) 2 _ (by simp [marksEnt, mkEnt, EntR.cells])
      have c3 : w.cell? ⟨b, off + j * 4 + 3, none⟩ = some (.string (str (markL (k + 4 * j + 3)))) := hc j (by rw [marksEnt_length]; exact hlt) 3 _ (by simp [marksEnt, mkEnt, EntR.cells])
      clear hsh hc h
      have d0 := cell_regrown ((hbl.cell (by exact hb)).trans c0)
      have v0 : ∀ d os, Calls Try.prog 127 #[.int .i64 ((k : Int) + 4 * j)] (grow (redrawn wr d) os) fun e w'' => e = .returned (.string (str (markL (k + 4 * j)))) ∧ ∃ p : Regrown, w'' = grow (redrawn wr p.d) p.os := fun d os => Calls.regrown_of (by have h := markText_int ((k : Int) + 4 * j) (grow (redrawn wr d) os) (by omega) (by omega); rwa [show ((k : Int) + 4 * j).toNat = (k + 4 * j) from by omega] at h)
      go_wp2
      refine wp_region_quiet_below (by kernel_rfl) (by kernel_rfl) ?_
      repeat (first | go_big_quiet_step (exact v0 _ _) | go_big_quiet_step (fail))
      refine wpQuiet_nil ?_
      intro w0 hw0
      have b0 : RowKit.Below w.heap.size w w0 := by obtain ⟨p, rfl⟩ := hw0; exact hbl.trans ((below_regrown _ _ _).mono hbl.size)
      clear hw0 v0 d0
      have e1 : w0.cell? ⟨b, off + j * 4 + 1, none⟩ = some (.int .i64 ((k : Int) + 4 * j + 1)) := by rw [b0.cell (by exact hb), c1]; exact congrArg (fun x => some (Value.int .i64 x)) (by omega)
      clear c1
      have hbe : (Value.bool ((((k : Int) + 4 * j + 1 + 1)) % 3 == 0)) = .bool (decide ((k + 4 * j + 2) % 3 = 0)) := congrArg Value.bool (by rw [Bool.eq_iff_iff]; simp only [beq_iff_eq, decide_eq_true_eq]; omega)
      have e2 : w0.cell? ⟨b, off + j * 4 + 2, none⟩ = some (.bool ((((k : Int) + 4 * j + 1 + 1)) % 3 == 0)) := by rw [b0.cell (by exact hb), c2, hbe]
      clear c2 hbe
      have d3 := cell_regrown ((b0.cell (by exact hb)).trans c3)
      have v3 : ∀ d os, Calls Try.prog 127 #[.int .i64 ((k : Int) + 4 * j + 1 + 1 + 1)] (grow (redrawn w0 d) os) fun e w'' => e = .returned (.string (str (markL (k + 4 * j + 3)))) ∧ ∃ p : Regrown, w'' = grow (redrawn w0 p.d) p.os := fun d os => Calls.regrown_of (by have h := markText_int ((k : Int) + 4 * j + 1 + 1 + 1) (grow (redrawn w0 d) os) (by omega) (by omega); rwa [show ((k : Int) + 4 * j + 1 + 1 + 1).toNat = (k + 4 * j + 3) from by omega] at h)
      go_wp2
      refine wp_region_quiet_below (by kernel_rfl) (by kernel_rfl) ?_
      repeat (first | go_big_quiet_step (exact v3 _ _) | go_big_quiet_step (fail))
      refine wpQuiet_nil ?_
      intro w3 hw3
      have b3 : RowKit.Below w.heap.size w w3 := by obtain ⟨p, rfl⟩ := hw3; exact b0.trans ((below_regrown _ _ _).mono b0.size)
      clear hw3 v3 d3
      go_wp2
      go_roundw
      case rel => exact ⟨j + 1, by omega, by go_num, by go_num, b3⟩
      case measure => simp [intOf]; omega
    · obtain rfl : j = m := by omega
      clear hsh h
      go_wp2
      go_ret
      exact ⟨by go_num, hbl⟩
end Go.Proofs.Ytfbbdnicplbmdaa
set_option linter.unusedVariables false
set_option linter.unusedSimpArgs false
namespace Go.Proofs.Ytfbbdnicplbmdaa
open Go.RowKit Sp Go.Sort

set_option maxRecDepth 100000 in
set_option maxHeartbeats 400000 in
theorem markEntS_nil (k : Nat) (w : World) (hk1 : 1 ≤ (k : Int)) (hkl : (k : Int) ≤ 999999999) :
    Calls Try.prog 54 #[.slice none 0 0, .int .i64 k] w fun e w' => e = .returned (.int .i64 (k : Int)) ∧ w' = w := by
  go_enter Try.func54, Try.ntmps54
  go_wp2
  go_loopw [1, 5] (fun a i wr => i = .int .i64 0 ∧ a = .int .i64 k ∧ wr = w) (fun _ _ _ => 0)
  case atStart => exact ⟨rfl, rfl, rfl⟩
  case round =>
    obtain ⟨rfl, rfl, rfl⟩ := hrel
    go_wp2
    go_ret
    exact ⟨rfl, rfl⟩
theorem markEntS_row (v : Value) (l : List EntR) (k : Nat) (w : World) (lo hi : Nat) (h : Row EntR.cells 30 4 lo hi w v l) (hk1 : 1 ≤ (k : Int)) (hkl : (k : Int) + 4 * l.length ≤ 999999999) :
    Calls Try.prog 54 #[v, .int .i64 k] w fun e w' => e = .returned (.int .i64 ((k + 4 * l.length : Nat) : Int)) ∧ Row EntR.cells 30 4 lo hi w' v (marksEnt k l.length) ∧ Wrote lo hi w w' := by
  rcases h.shape with ⟨rfl, rfl⟩ | ⟨g, cap, rfl, hlc, hcm, hg1, hg2, hg3⟩
  · refine (markEntS_nil k w hk1 (by simp at hkl; omega)).mono ?_
    rintro e w' ⟨rfl, rfl⟩
    exact ⟨by simp, by have := Row.nil (enc := EntR.cells) (T := 30) (size := 4) w' lo hi; simpa [marksEnt] using this, Wrote.refl _ _ _⟩
  · refine (markEntS_any l k w lo g cap h.1 hlc hk1 hkl).mono ?_
    rintro e w' ⟨rfl, hr, ht⟩
    refine ⟨rfl, ⟨by rw [marksEnt_length]; exact hr, h.2⟩, Wrote.of_touch ht fun k hk => ?_⟩
    obtain rfl : g = k := Option.some.inj hk
    exact ⟨hg1, hg2⟩
theorem heldEntS_row (v : Value) (k m : Nat) (w : World) (lo hi : Nat) (h : Row EntR.cells 30 4 lo hi w v (marksEnt k m)) (hk1 : 1 ≤ (k : Int)) (hkl : (k : Int) + 4 * m ≤ 999999999) :
    Calls Try.prog 60 #[v, .int .i64 k] w fun e w' => e = .returned (.int .i64 ((k + 4 * m : Nat) : Int)) ∧ Below w.heap.size w w' :=
  heldEntS_any v k m w (h.slT (fun _ => rfl) (by decide)) hk1 hkl
theorem markEntS_rowi (v : Value) (l : List EntR) (x : Int) (k : Nat) (hx : x = (k : Int)) (w : World) (lo hi : Nat) (h : Row EntR.cells 30 4 lo hi w v l) (hk1 : 1 ≤ (k : Int)) (hkl : (k : Int) + 4 * l.length ≤ 999999999) :
    Calls Try.prog 54 #[v, .int .i64 x] w fun e w' => e = .returned (.int .i64 ((k + 4 * l.length : Nat) : Int)) ∧ Row EntR.cells 30 4 lo hi w' v (marksEnt k l.length) ∧ Wrote lo hi w w' := by
  subst hx; exact markEntS_row v l k w lo hi h hk1 hkl
theorem heldEntS_rowi (v : Value) (x : Int) (k m : Nat) (hx : x = (k : Int)) (w : World) (lo hi : Nat) (h : Row EntR.cells 30 4 lo hi w v (marksEnt k m)) (hk1 : 1 ≤ (k : Int)) (hkl : (k : Int) + 4 * m ≤ 999999999) :
    Calls Try.prog 60 #[v, .int .i64 x] w fun e w' => e = .returned (.int .i64 ((k + 4 * m : Nat) : Int)) ∧ Below w.heap.size w w' := by
  subst hx; exact heldEntS_row v k m w lo hi h hk1 hkl
end Go.Proofs.Ytfbbdnicplbmdaa

/- Walks: the laws' helper that compares rows of LogRow. -/
import Derived.Test.YtoflclofcnpjlaaKLogRow1
import Derived.WalkKit
import Derived.WalkSpells
import Derived.WalkLawsBesides
import Derived.BigQuiet
import Derived.Lib.QuietBelow
import Derived.Lib.Hide
set_option linter.unusedVariables false
set_option linter.unusedSimpArgs false
namespace Go.Proofs.Ytoflclofcnpjlaa
open Go.RowKit Sp Go.Sort

set_option maxRecDepth 100000 in
set_option maxHeartbeats 400000 in
theorem eqLogRow_any (ten : Int) (boot : Int) (seq : Int) (text : ByteArray) (sync : Bool) (w : World) :
    Calls Try.prog 67 #[.agg #[.int .i64 ten, .int .i64 boot, .int .i64 seq, .string text, .bool sync], .agg #[.int .i64 ten, .int .i64 boot, .int .i64 seq, .string text, .bool sync]] w fun e w' => e = .returned (.bool true) ∧ Below w.heap.size w w' := by
  go_enter Try.func67, Try.ntmps67
  go_wp2
  go_ret
  exact ⟨rfl, ((Below.refl _ _).alloc (Nat.le_refl _) _).alloc (by simp <;> omega) _⟩

set_option maxRecDepth 100000 in
set_option maxHeartbeats 800000 in
theorem eqLogRowS_any (v v' : Value) (l : List RowR) (w : World) (h : SlT RowR.cells 5 w v l) (h' : SlT RowR.cells 5 w v' l) (hl : (l.length : Int) ≤ 1048576) :
    Calls Try.prog 38 #[v, v'] w fun e w' => e = .returned (.bool true) ∧ Below w.heap.size w w' := by
  obtain ⟨ao, cap, rfl, hlc, hcm, hsh⟩ := h.shape
  obtain ⟨ao', cap', rfl, hlc', hcm', hsh'⟩ := h'.shape
  go_enter Try.func38, Try.ntmps38
  go_wp2
  go_loopw [5] (fun i wr => ∃ k : Nat, (k : Int) ≤ l.length ∧ i = .int .i64 k ∧ Below w.heap.size w wr) (fun i _ => l.length - (intOf i).toNat)
  case atStart => exact ⟨0, by omega, rfl, Below.refl _ _⟩
  case round =>
    obtain ⟨k, hk, rfl, hbl⟩ := hrel
    by_cases hlt : (k : Int) < l.length
    · have hltn : k < l.length := by omega
      obtain ⟨b, off, rfl, hbc, hcc⟩ := hsh (by omega)
      obtain ⟨b', off', rfl, hbd, hcd⟩ := hsh' (by omega)
      have c0 : wr.cell? ⟨b, off + k * 5, none⟩ = some (.int .i64 l[k].ten) := (hbl.cell (by exact hbc)).trans (hcc k hltn 0 _ rfl)
      have c1 : wr.cell? ⟨b, off + k * 5 + 1, none⟩ = some (.int .i64 l[k].boot) := (hbl.cell (by exact hbc)).trans (hcc k hltn 1 _ rfl)
      have c2 : wr.cell? ⟨b, off + k * 5 + 2, none⟩ = some (.int .i64 l[k].seq) := (hbl.cell (by exact hbc)).trans (hcc k hltn 2 _ rfl)
      have c3 : wr.cell? ⟨b, off + k * 5 + 3, none⟩ = some (.string l[k].text) := (hbl.cell (by exact hbc)).trans (hcc k hltn 3 _ rfl)
      have c4 : wr.cell? ⟨b, off + k * 5 + 4, none⟩ = some (.bool l[k].sync) := (hbl.cell (by exact hbc)).trans (hcc k hltn 4 _ rfl)
      have d0 : wr.cell? ⟨b', off' + k * 5, none⟩ = some (.int .i64 l[k].ten) := (hbl.cell (by exact hbd)).trans (hcd k hltn 0 _ rfl)
      have d1 : wr.cell? ⟨b', off' + k * 5 + 1, none⟩ = some (.int .i64 l[k].boot) := (hbl.cell (by exact hbd)).trans (hcd k hltn 1 _ rfl)
      have d2 : wr.cell? ⟨b', off' + k * 5 + 2, none⟩ = some (.int .i64 l[k].seq) := (hbl.cell (by exact hbd)).trans (hcd k hltn 2 _ rfl)
      have d3 : wr.cell? ⟨b', off' + k * 5 + 3, none⟩ = some (.string l[k].text) := (hbl.cell (by exact hbd)).trans (hcd k hltn 3 _ rfl)
      have d4 : wr.cell? ⟨b', off' + k * 5 + 4, none⟩ = some (.bool l[k].sync) := (hbl.cell (by exact hbd)).trans (hcd k hltn 4 _ rfl)
      clear hsh h hsh' h' hcc hcd
      have kc0 := cell_regrown c0
      have kc1 := cell_regrown c1
      have kc2 := cell_regrown c2
      have kc3 := cell_regrown c3
      have kc4 := cell_regrown c4
      have kd0 := cell_regrown d0
      have kd1 := cell_regrown d1
      have kd2 := cell_regrown d2
      have kd3 := cell_regrown d3
      have kd4 := cell_regrown d4
      have cV : ∀ d os, Calls Try.prog 67 #[.agg #[.int .i64 l[k].ten, .int .i64 l[k].boot, .int .i64 l[k].seq, .string l[k].text, .bool l[k].sync], .agg #[.int .i64 l[k].ten, .int .i64 l[k].boot, .int .i64 l[k].seq, .string l[k].text, .bool l[k].sync]] (grow (redrawn wr d) os) fun e w'' => e = .returned (.bool true) ∧ ∃ p : Regrown, w'' = grow (redrawn wr p.d) p.os := fun d os => Calls.regrown_of (eqLogRow_any _ _ _ _ _ _)
      go_wp2
      refine wp_region_quiet_below (by kernel_rfl) (by kernel_rfl) ?_
      repeat (first | go_big_quiet_step (exact cV _ _) | go_big_quiet_step (fail))
      refine wpQuiet_nil ?_
      intro w2 hw'
      have hb2 : RowKit.Below w.heap.size w w2 := by obtain ⟨p, rfl⟩ := hw'; exact hbl.trans ((below_regrown _ _ _).mono hbl.size)
      clear hw' cV
      go_wp2
      go_roundw
      case rel => exact ⟨k + 1, by omega, by go_num, hb2⟩
      case measure => simp [intOf]; omega
    · obtain rfl : k = l.length := by omega
      clear hsh h hsh' h'
      go_wp2
      go_ret
      exact ⟨rfl, hbl⟩

end Go.Proofs.Ytoflclofcnpjlaa

/- Walks: the laws' helpers for KV: its size, its copy, its comparison. -/
import Derived.Test.YthmfiohcmnaacaaTypes
import Derived.Test.YthmfiohcmnaacaaLaws
import Derived.Test.YthmfiohcmnaacaaRep
import Derived.Test.YthmfiohcmnaacaaSlices
import Derived.WalkKit
import Derived.WalkSpells
import Derived.WalkLawsBesides
import Derived.BigQuiet
import Derived.Lib.QuietBelow
import Derived.Lib.Hide
set_option linter.unusedVariables false
set_option linter.unusedSimpArgs false
namespace Go.Proofs.Ythmfiohcmnaacaa
open Go.RowKit Sp Go.Sort

theorem info_KV : (Try.prog.info? 73).map (fun i => (i.zero, i.size, i.bytes)) = some (some (.agg #[.string ByteArray.empty, .string ByteArray.empty]), 2, 32) := by kernel_rfl
set_option maxRecDepth 100000 in
set_option maxHeartbeats 400000 in
theorem eqKV_any (key : ByteArray) (val : ByteArray) (w : World) :
    Calls Try.prog 61 #[.agg #[.string key, .string val], .agg #[.string key, .string val]] w fun e w' => e = .returned (.bool true) ∧ Below w.heap.size w w' := by
  go_enter Try.func61, Try.ntmps61
  go_wp2
  go_ret
  exact ⟨rfl, ((Below.refl _ _).alloc (Nat.le_refl _) _).alloc (by simp <;> omega) _⟩

set_option maxRecDepth 100000 in
set_option maxHeartbeats 800000 in
theorem eqKVS_any (v v' : Value) (l : List KV) (w : World) (h : SlT KV.cells 2 w v l) (h' : SlT KV.cells 2 w v' l) (hl : (l.length : Int) ≤ 1048576) :
    Calls Try.prog 25 #[v, v'] w fun e w' => e = .returned (.bool true) ∧ Below w.heap.size w w' := by
  obtain ⟨ao, cap, rfl, hlc, hcm, hsh⟩ := h.shape
  obtain ⟨ao', cap', rfl, hlc', hcm', hsh'⟩ := h'.shape
  go_enter Try.func25, Try.ntmps25
  go_wp2
  go_loopw [5] (fun i wr => ∃ k : Nat, (k : Int) ≤ l.length ∧ i = .int .i64 k ∧ Below w.heap.size w wr) (fun i _ => l.length - (intOf i).toNat)
  case atStart => exact ⟨0, by omega, rfl, Below.refl _ _⟩
  case round =>
    obtain ⟨k, hk, rfl, hbl⟩ := hrel
    by_cases hlt : (k : Int) < l.length
    · have hltn : k < l.length := by omega
      obtain ⟨b, off, rfl, hbc, hcc⟩ := hsh (by omega)
      obtain ⟨b', off', rfl, hbd, hcd⟩ := hsh' (by omega)
      have c0 : wr.cell? ⟨b, off + k * 2, none⟩ = some (.string l[k].key) := (hbl.cell (by exact hbc)).trans (hcc k hltn 0 _ rfl)
      have c1 : wr.cell? ⟨b, off + k * 2 + 1, none⟩ = some (.string l[k].val) := (hbl.cell (by exact hbc)).trans (hcc k hltn 1 _ rfl)
      have d0 : wr.cell? ⟨b', off' + k * 2, none⟩ = some (.string l[k].key) := (hbl.cell (by exact hbd)).trans (hcd k hltn 0 _ rfl)
      have d1 : wr.cell? ⟨b', off' + k * 2 + 1, none⟩ = some (.string l[k].val) := (hbl.cell (by exact hbd)).trans (hcd k hltn 1 _ rfl)
      clear hsh h hsh' h' hcc hcd
      have kc0 := cell_regrown c0
      have kc1 := cell_regrown c1
      have kd0 := cell_regrown d0
      have kd1 := cell_regrown d1
      have cV : ∀ d os, Calls Try.prog 61 #[.agg #[.string l[k].key, .string l[k].val], .agg #[.string l[k].key, .string l[k].val]] (grow (redrawn wr d) os) fun e w'' => e = .returned (.bool true) ∧ ∃ p : Regrown, w'' = grow (redrawn wr p.d) p.os := fun d os => Calls.regrown_of (eqKV_any _ _ _)
      go_wp2
      refine wp_region_quiet_below (by kernel_rfl) (by kernel_rfl) ?_
      repeat (first | go_big_quiet_step (exact cV _ _) | go_big_quiet_step (fail))
      refine wpQuiet_nil ?_
      intro w2 hw'
      have hb2 : RowKit.Below w.heap.size w w2 := by obtain ⟨p, rfl⟩ := hw'; exact hbl.trans ((below_regrown _ _ _).mono hbl.size)
      clear hw' cV
      go_wp2
      go_roundw
      case rel => exact ⟨k + 1, by omega, by go_num, hb2⟩
      case measure => simp [intOf]; omega
    · obtain rfl : k = l.length := by omega
      clear hsh h hsh' h'
      go_wp2
      go_ret
      exact ⟨rfl, hbl⟩

end Go.Proofs.Ythmfiohcmnaacaa



/- Walk: slices.BinarySearchFunc at Ent with compareEnts. -/
import Derived.Test.YtmbmflhcimkjpaaMemPP
import Derived.Test.YtmbmflhcimkjpaaMemW
import Derived.Test.YtmbmflhcimkjpaaRow
import Derived.Deep.DeepCutAuto
import Derived.BigQuiet
import Derived.Lib.QuietBelow
import Derived.Lib.Hide
set_option linter.unusedVariables false
set_option linter.unusedSimpArgs false
namespace Go.Proofs.Ytmbmflhcimkjpaa
open Go.RowKit Sp Go.Sort

set_option maxRecDepth 100000 in
set_option maxHeartbeats 1600000 in
theorem bsearch_any (v : Value) (l : List EntR) (e : EntR) (w : World) (h : SlT EntR.cells 4 w v l) (hl : (l.length : Int) ≤ 1048576) (hm : memB l = true) :
    Calls Try.prog 177 #[v, .agg #[.string e.key, .int .i64 e.seq, .bool e.del, .string e.val], .func (.func 178) #[] #[]] w fun r w' => ∃ (q : Nat) (b : Bool), r = .returned (.tuple #[.int .i64 q, .bool b]) ∧ IsPos l e q ∧ (b = true → ∃ h : q < l.length, cmpE l[q] e = 0) ∧ (b = false → ∀ h : q < l.length, cmpE l[q] e ≠ 0) ∧ Below w.heap.size w w' := by
  obtain ⟨ao, cap, rfl, hlc, hcm, hsh⟩ := h.shape
  have HM := Lib.hid hm
  clear hm
  go_enter Try.func177, Try.ntmps177
  go_wp2
  have t0 : (w.alloc (.cells #[.string e.key, .int .i64 e.seq, .bool e.del, .string e.val] 30)).cell? ⟨w.heap.size, 0, none⟩ = some (.string e.key) := by simp [go_sem]
  have t1 : (w.alloc (.cells #[.string e.key, .int .i64 e.seq, .bool e.del, .string e.val] 30)).cell? ⟨w.heap.size, 1, none⟩ = some (.int .i64 e.seq) := by simp [go_sem]
  have t2 : (w.alloc (.cells #[.string e.key, .int .i64 e.seq, .bool e.del, .string e.val] 30)).cell? ⟨w.heap.size, 2, none⟩ = some (.bool e.del) := by simp [go_sem]
  have t3 : (w.alloc (.cells #[.string e.key, .int .i64 e.seq, .bool e.del, .string e.val] 30)).cell? ⟨w.heap.size, 3, none⟩ = some (.string e.val) := by simp [go_sem]
  have hal : RowKit.Below w.heap.size w (w.alloc (.cells #[.string e.key, .int .i64 e.seq, .bool e.del, .string e.val] 30)) := (Below.refl _ _).alloc (Nat.le_refl _) _
  have hsz : (w.alloc (.cells #[.string e.key, .int .i64 e.seq, .bool e.del, .string e.val] 30)).heap.size = w.heap.size + 1 := by simp
  generalize (w.alloc (.cells #[.string e.key, .int .i64 e.seq, .bool e.del, .string e.val] 30)) = W at t0 t1 t2 t3 hal hsz ⊢
  go_loopw [9, 10] (fun s9 s10 wr => ∃ lo hi : Nat, s9 = .int .i64 lo ∧ s10 = .int .i64 hi ∧ lo ≤ hi ∧ hi ≤ l.length ∧ Hid ((∀ i (h : i < l.length), i < lo → aheadB l[i] e = true) ∧ (∀ i (h : i < l.length), hi ≤ i → aheadB l[i] e = false)) ∧ Below W.heap.size W wr) (fun s9 s10 _ => (intOf s10).toNat - (intOf s9).toNat)
  case atStart => exact ⟨0, l.length, rfl, rfl, by omega, by omega, Lib.hid ⟨fun i h1 h2 => by omega, fun i h1 h2 => by omega⟩, Below.refl _ _⟩
  case round =>
    obtain ⟨lo, hi, rfl, rfl, hlh, hin, I, hbl⟩ := hrel
    obtain ⟨hc, hf⟩ := bcell hbl
    have y0 := (hc w.heap.size 0 (by omega)).trans t0
    have y1 := (hc w.heap.size 1 (by omega)).trans t1
    have y2 := (hc w.heap.size 2 (by omega)).trans t2
    have y3 := (hc w.heap.size 3 (by omega)).trans t3
    have hcell : ∀ k (hk : k < l.length), ∃ b off, ao = some ⟨b, off, none⟩ ∧ wr.cell? ⟨b, off + k * 4, none⟩ = some (.string l[k].key) ∧ wr.cell? ⟨b, off + k * 4 + 1, none⟩ = some (.int .i64 l[k].seq) ∧ wr.cell? ⟨b, off + k * 4 + 2, none⟩ = some (.bool l[k].del) ∧ wr.cell? ⟨b, off + k * 4 + 3, none⟩ = some (.string l[k].val) := by
      intro k hk
      obtain ⟨b, off, hb0, hb, hcc⟩ := hsh (by omega)
      exact ⟨b, off, hb0, (hc b _ (by omega)).trans ((hal.cell (p := ⟨b, off + k * 4, none⟩) hb).trans (hcc k hk 0 _ rfl)), (hc b _ (by omega)).trans ((hal.cell (p := ⟨b, off + k * 4 + 1, none⟩) hb).trans (hcc k hk 1 _ rfl)), (hc b _ (by omega)).trans ((hal.cell (p := ⟨b, off + k * 4 + 2, none⟩) hb).trans (hcc k hk 2 _ rfl)), (hc b _ (by omega)).trans ((hal.cell (p := ⟨b, off + k * 4 + 3, none⟩) hb).trans (hcc k hk 3 _ rfl))⟩
    clear hc hf t0 t1 t2 t3
    by_cases hlt : lo < hi
    · obtain ⟨m, hmd⟩ : ∃ m, m = (lo + hi) / 2 := ⟨_, rfl⟩
      have hml : m < l.length := by omega
      have hmi : ((lo : Int) + (hi : Int)) / 2 = (m : Int) := by omega
      obtain ⟨b, off, rfl, e0, e1, e2, e3⟩ := hcell m hml
      clear hcell hsh h
      have hcmp := cmpE_ahead l[m] e
      rcases ha : aheadB l[m] e with _ | _
      · have hneg : ¬ cmpE l[m] e < 0 := by rw [ha] at hcmp; simp at hcmp; omega
        have I2 := Lib.hid (show (∀ i (h : i < l.length), i < lo → aheadB l[i] e = true) ∧ (∀ i (h : i < l.length), m ≤ i → aheadB l[i] e = false) from ⟨I.out.1, half_hi HM.out hml ha⟩)
        have HMI := Lib.hid hmi
        have HMD := Lib.hid hmd
        have cE : ∀ d os, Calls Try.prog 178 #[.agg #[.string l[m].key, .int .i64 l[m].seq, .bool l[m].del, .string l[m].val], .agg #[.string e.key, .int .i64 e.seq, .bool e.del, .string e.val]] (grow (redrawn wr d) os) fun e' w'' => e' = .returned (.int .i64 (cmpE l[m] e)) ∧ ∃ p : Regrown, w'' = grow (redrawn wr p.d) p.os := fun d os => Calls.regrown_of (compareEnts_any _ _ _)
        have k0 := cell_regrown e0
        have k1 := cell_regrown e1
        have k2 := cell_regrown e2
        have k3 := cell_regrown e3
        have j0 := cell_regrown y0
        have j1 := cell_regrown y1
        have j2 := cell_regrown y2
        have j3 := cell_regrown y3
        clear hcmp ha I hmi hmd
        go_upto_region 5 with fail
        rw [HMI.out]
        refine wp_region_quiet_below (by kernel_rfl) (by kernel_rfl) ?_
        iterate 6 (go_big_quiet_step (fail))
        go_big_quiet_step (exact cE _ _)
        repeat (go_big_quiet_step (fail))
        refine wpQuiet_nil ?_
        intro w2 hw'
        have hb2 : RowKit.Below W.heap.size W w2 := by obtain ⟨p, rfl⟩ := hw'; exact hbl.trans ((below_regrown _ _ _).mono hbl.size)
        clear hw' cE k0 k1 k2 k3 j0 j1 j2 j3 y0 y1 y2 y3 e0 e1 e2 e3
        go_wp2
        have hmd := HMD.out
        go_roundw

        case rel => exact ⟨lo, m, rfl, by first | rfl | (rw [HMI.out]), by omega, by omega, I2, hb2⟩
        case measure => simp [intOf]; omega
      · have hneg : cmpE l[m] e < 0 := by rw [ha] at hcmp; simp at hcmp; omega
        have I2 := Lib.hid (show (∀ i (h : i < l.length), i < m + 1 → aheadB l[i] e = true) ∧ (∀ i (h : i < l.length), hi ≤ i → aheadB l[i] e = false) from ⟨half_lo (i := lo) HM.out hml ha, I.out.2⟩)
        have HMI := Lib.hid hmi
        have HMD := Lib.hid hmd
        have cE : ∀ d os, Calls Try.prog 178 #[.agg #[.string l[m].key, .int .i64 l[m].seq, .bool l[m].del, .string l[m].val], .agg #[.string e.key, .int .i64 e.seq, .bool e.del, .string e.val]] (grow (redrawn wr d) os) fun e' w'' => e' = .returned (.int .i64 (cmpE l[m] e)) ∧ ∃ p : Regrown, w'' = grow (redrawn wr p.d) p.os := fun d os => Calls.regrown_of (compareEnts_any _ _ _)
        have k0 := cell_regrown e0
        have k1 := cell_regrown e1
        have k2 := cell_regrown e2
        have k3 := cell_regrown e3
        have j0 := cell_regrown y0
        have j1 := cell_regrown y1
        have j2 := cell_regrown y2
        have j3 := cell_regrown y3
        clear hcmp ha I hmi hmd
        go_upto_region 5 with fail
        rw [HMI.out]
        refine wp_region_quiet_below (by kernel_rfl) (by kernel_rfl) ?_
        iterate 6 (go_big_quiet_step (fail))
        go_big_quiet_step (exact cE _ _)
        repeat (go_big_quiet_step (fail))
        refine wpQuiet_nil ?_
        intro w2 hw'
        have hb2 : RowKit.Below W.heap.size W w2 := by obtain ⟨p, rfl⟩ := hw'; exact hbl.trans ((below_regrown _ _ _).mono hbl.size)
        clear hw' cE k0 k1 k2 k3 j0 j1 j2 j3 y0 y1 y2 y3 e0 e1 e2 e3
        go_wp2
        have hmd := HMD.out
        go_roundw

        case rel => exact ⟨m + 1, hi, by go_num, rfl, by omega, by omega, I2, hb2⟩
        case measure => simp [intOf]; omega
    · obtain rfl : lo = hi := by omega
      have HP := Lib.hid (show IsPos l e lo from ⟨hin, I.out.1, I.out.2⟩)
      by_cases hq : lo < l.length
      · obtain ⟨b, off, rfl, e0, e1, e2, e3⟩ := hcell lo hq
        clear hcell hsh h I
        have cE : ∀ d os, Calls Try.prog 178 #[.agg #[.string l[lo].key, .int .i64 l[lo].seq, .bool l[lo].del, .string l[lo].val], .agg #[.string e.key, .int .i64 e.seq, .bool e.del, .string e.val]] (grow (redrawn wr d) os) fun e' w'' => e' = .returned (.int .i64 (cmpE l[lo] e)) ∧ ∃ p : Regrown, w'' = grow (redrawn wr p.d) p.os := fun d os => Calls.regrown_of (compareEnts_any _ _ _)
        have k0 := cell_regrown e0
        have k1 := cell_regrown e1
        have k2 := cell_regrown e2
        have k3 := cell_regrown e3
        have j0 := cell_regrown y0
        have j1 := cell_regrown y1
        have j2 := cell_regrown y2
        have j3 := cell_regrown y3
        have hqi : (lo : Int) < (l.length : Int) := by omega
        rcases hz : (cmpE l[lo] e == 0) with _ | _
        · have HZ := Lib.hid (show cmpE l[lo] e ≠ 0 by simpa using hz)
          go_upto_region 8 with fail
          have hdq : decide (lo < l.length) = true := decide_eq_true hq
          refine wp_region_quiet_below (by kernel_rfl) (by kernel_rfl) ?_
          iterate 11 (go_big_quiet_step (fail))
          go_big_quiet_step (exact cE _ _)
          repeat (go_big_quiet_step (fail))
          refine wpQuiet_nil ?_
          intro w2 hw'
          have hb2 : RowKit.Below W.heap.size W w2 := by obtain ⟨p, rfl⟩ := hw'; exact hbl.trans ((below_regrown _ _ _).mono hbl.size)
          clear hw' cE k0 k1 k2 k3 j0 j1 j2 j3 y0 y1 y2 y3 e0 e1 e2 e3
          go_wp2
          refine bodyPost_ret (v := .tuple #[.int .i64 lo, .bool false]) (by simp [results, Try.results177, go_sem]) rfl ?_
          exact ⟨lo, false, rfl, HP.out, by simp, fun _ _ => HZ.out, hal.trans (hb2.mono hal.size)⟩
        · have HZ := Lib.hid (show cmpE l[lo] e = 0 by simpa using hz)
          go_upto_region 8 with fail
          have hdq : decide (lo < l.length) = true := decide_eq_true hq
          refine wp_region_quiet_below (by kernel_rfl) (by kernel_rfl) ?_
          iterate 11 (go_big_quiet_step (fail))
          go_big_quiet_step (exact cE _ _)
          repeat (go_big_quiet_step (fail))
          refine wpQuiet_nil ?_
          intro w2 hw'
          have hb2 : RowKit.Below W.heap.size W w2 := by obtain ⟨p, rfl⟩ := hw'; exact hbl.trans ((below_regrown _ _ _).mono hbl.size)
          clear hw' cE k0 k1 k2 k3 j0 j1 j2 j3 y0 y1 y2 y3 e0 e1 e2 e3
          go_wp2
          refine bodyPost_ret (v := .tuple #[.int .i64 lo, .bool true]) (by simp [results, Try.results177, go_sem]) rfl ?_
          exact ⟨lo, true, rfl, HP.out, fun _ => ⟨hq, HZ.out⟩, by simp, hal.trans (hb2.mono hal.size)⟩
      · have hqi : ¬ (lo : Int) < (l.length : Int) := by omega
        clear hcell hsh h I
        go_upto_region 8 with fail
        have hdq : decide (lo < l.length) = false := decide_eq_false hq
        refine wp_region_quiet_below (by kernel_rfl) (by kernel_rfl) ?_
        repeat (go_big_quiet_step (fail))
        refine wpQuiet_nil ?_
        intro w2 hw'
        have hb2 : RowKit.Below W.heap.size W w2 := by obtain ⟨p, rfl⟩ := hw'; exact hbl.trans ((below_regrown _ _ _).mono hbl.size)
        clear hw'
        go_wp2
        refine bodyPost_ret (v := .tuple #[.int .i64 lo, .bool false]) (by simp [results, Try.results177, go_sem]) rfl ?_
        first | exact ⟨lo, false, rfl, HP.out, by simp, fun _ h => absurd h hq, hal.trans (hb2.mono hal.size)⟩ | exact ⟨lo, .inl ⟨rfl, HP.out, fun h => absurd h hq, hal.trans (hb2.mono hal.size)⟩⟩ | exact .inl ⟨rfl, HP.out, fun h => absurd h hq, hal.trans (hb2.mono hal.size)⟩
end Go.Proofs.Ytmbmflhcimkjpaa

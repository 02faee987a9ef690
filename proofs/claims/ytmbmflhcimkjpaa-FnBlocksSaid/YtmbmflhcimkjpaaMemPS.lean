
/- Walks: l9Put and MemPut of the reference. -/
import Derived.Test.YtmbmflhcimkjpaaMemPB
import Derived.Test.YtmbmflhcimkjpaaOwn
import Derived.Test.YtmbmflhcimkjpaaKEntA
import Derived.Test.YtmbmflhcimkjpaaDelP
import Derived.Deep.DeepCutAuto
import Derived.BigQuiet
import Derived.Lib.QuietBelow
import Derived.Lib.Hide
set_option linter.unusedVariables false
set_option linter.unusedSimpArgs false
namespace Go.Proofs.Ytmbmflhcimkjpaa
open Go.RowKit Sp Go.Sort

theorem ent1 : ∀ x : EntR, ∀ u ∈ EntR.cells x, u.oneCell' = true := by
  intro x u hu
  simp [EntR.cells] at hu
  rcases hu with rfl | rfl | rfl | rfl <;> rfl

set_option maxRecDepth 100000 in
set_option maxHeartbeats 1600000 in
theorem l9Put_any (ad : Option Addr) (cap : Nat) (l : List EntR) (e : EntR) (w : World) (h : SlT EntR.cells 4 w (.slice ad l.length cap) l) (hl : (l.length : Int) ≤ 1048576) :
    Calls Try.prog 118 #[.slice ad l.length cap, .agg #[.string e.key, .int .i64 e.seq, .bool e.del, .string e.val]] w fun r w' => ∃ v', r = .returned v' ∧ w'.ownsRow w.heap.size 30 4 v' (putE l e).length ((putE l e).map EntR.cells).flatten ∧ Below w.heap.size w w' := by
  have t0 : (w.alloc (.cells #[.string e.key, .int .i64 e.seq, .bool e.del, .string e.val] 30)).cell? ⟨w.heap.size, 0, none⟩ = some (.string e.key) := by simp [go_sem]
  have t1 : (w.alloc (.cells #[.string e.key, .int .i64 e.seq, .bool e.del, .string e.val] 30)).cell? ⟨w.heap.size, 1, none⟩ = some (.int .i64 e.seq) := by simp [go_sem]
  have t2 : (w.alloc (.cells #[.string e.key, .int .i64 e.seq, .bool e.del, .string e.val] 30)).cell? ⟨w.heap.size, 2, none⟩ = some (.bool e.del) := by simp [go_sem]
  have t3 : (w.alloc (.cells #[.string e.key, .int .i64 e.seq, .bool e.del, .string e.val] 30)).cell? ⟨w.heap.size, 3, none⟩ = some (.string e.val) := by simp [go_sem]
  have hal : RowKit.Below w.heap.size w (w.alloc (.cells #[.string e.key, .int .i64 e.seq, .bool e.del, .string e.val] 30)) := (Below.refl _ _).alloc (Nat.le_refl _) _
  have hsz : (w.alloc (.cells #[.string e.key, .int .i64 e.seq, .bool e.del, .string e.val] 30)).heap.size = w.heap.size + 1 := by simp
  have hple := posE_le l e
  go_enter Try.func118, Try.ntmps118
  go_upto_region 1 with fail
  generalize (w.alloc (.cells #[.string e.key, .int .i64 e.seq, .bool e.del, .string e.val] 30)) = W at *
  go_wp2
  have oZ : (W.alloc (.cells #[] 30)).ownsRow (w.heap.size + 1) 30 4 (.slice (some ⟨w.heap.size + 1, 0, none⟩) 0 0) 0 [] := own0 hsz (Nat.le_refl _)
  have bZ : RowKit.Below (w.heap.size + 1) W (W.alloc (.cells #[] 30)) := (Below.refl _ _).alloc (by omega) _
  go_loopw [5, 6, 7] (fun o p i wr => ∃ (k : Nat) (b : Bool), k ≤ l.length ∧ i = .int .i64 k ∧ p = .bool b ∧ Hid (b = decide (posE l e < k)) ∧ wr.ownsRow (w.heap.size + 1) 30 4 o (outG l e (posE l e) k).length ((outG l e (posE l e) k).map EntR.cells).flatten ∧ RowKit.Below (w.heap.size + 1) W wr) (fun _ _ i _ => l.length - (intOf i).toNat)
  case atStart => exact ⟨0, false, by omega, rfl, rfl, Lib.hid (by simp), by simpa [outG] using oZ, bZ⟩
  case round =>
    obtain ⟨k, b, hk, rfl, rfl, HB, hr, hbl⟩ := hrel
    have hb := HB.out
    clear HB
    have hzw := hbl.size
    have hle := outG_le l e (posE l e) k
    obtain ⟨oo, co, rfl⟩ := (Row.of_own hr rfl).form
    by_cases hlt : k < l.length
    · obtain ⟨bo', cp', hv, hlc, hcm, hsh⟩ := h.shape
      obtain ⟨bk, off, hbk, hbs, hcc⟩ := hsh (by omega)
      obtain rfl : ad = some ⟨bk, off, none⟩ := by simp at hv; rw [hbk] at hv; simpa using hv.1
      have kk : ∀ (wz : World), RowKit.Below (w.heap.size + 1) W wz → wz.cell? ⟨bk, off + k * 4, none⟩ = some (.string l[k].key) ∧ wz.cell? ⟨bk, off + k * 4 + 1, none⟩ = some (.int .i64 l[k].seq) ∧ wz.cell? ⟨bk, off + k * 4 + 2, none⟩ = some (.bool l[k].del) ∧ wz.cell? ⟨bk, off + k * 4 + 3, none⟩ = some (.string l[k].val) ∧ wz.cell? ⟨w.heap.size, 0, none⟩ = some (.string e.key) ∧ wz.cell? ⟨w.heap.size, 1, none⟩ = some (.int .i64 e.seq) ∧ wz.cell? ⟨w.heap.size, 2, none⟩ = some (.bool e.del) ∧ wz.cell? ⟨w.heap.size, 3, none⟩ = some (.string e.val) := fun wz hz => by
        have hz1 := (bcellB hz).1
        exact ⟨(hz1 bk _ (by omega)).trans ((hal.cell (p := ⟨bk, off + k * 4, none⟩) hbs).trans (hcc k hlt 0 _ rfl)), (hz1 bk _ (by omega)).trans ((hal.cell (p := ⟨bk, off + k * 4 + 1, none⟩) hbs).trans (hcc k hlt 1 _ rfl)), (hz1 bk _ (by omega)).trans ((hal.cell (p := ⟨bk, off + k * 4 + 2, none⟩) hbs).trans (hcc k hlt 2 _ rfl)), (hz1 bk _ (by omega)).trans ((hal.cell (p := ⟨bk, off + k * 4 + 3, none⟩) hbs).trans (hcc k hlt 3 _ rfl)), (hz1 _ _ (by omega)).trans t0, (hz1 _ _ (by omega)).trans t1, (hz1 _ _ (by omega)).trans t2, (hz1 _ _ (by omega)).trans t3⟩
      obtain ⟨e0, e1, e2, e3, y0, y1, y2, y3⟩ := kk _ hbl
      clear hcc hsh hv hbk t0 t1 t2 t3 oZ bZ
      rcases Nat.lt_trichotomy k (posE l e) with hq | hq | hq
      · obtain rfl : b = false := by rw [hb]; simp; omega
        have hten := posE_lt l e k hlt hq
        have HS := Lib.hid (outG_step (x := e) hlt (by omega : k ≠ posE l e))
        have HQ := Lib.hid hq
        have cE : ∀ d os, Calls Try.prog 180 #[.agg #[.string e.key, .int .i64 e.seq, .bool e.del, .string e.val], .agg #[.string l[k].key, .int .i64 l[k].seq, .bool l[k].del, .string l[k].val]] (grow (redrawn wr d) os) fun e' w'' => e' = .returned (.bool (aheadB e l[k])) ∧ ∃ p : Regrown, w'' = grow (redrawn wr p.d) p.os := fun d os => Calls.regrown_of (l9Ahead_any _ _ _)
        have k0 := cell_regrown e0
        have k1 := cell_regrown e1
        have k2 := cell_regrown e2
        have k3 := cell_regrown e3
        have j0 := cell_regrown y0
        have j1 := cell_regrown y1
        have j2 := cell_regrown y2
        have j3 := cell_regrown y3
        rw [hten] at cE
        clear hb hten hq h
        go_upto_region 6 with fail
        refine wp_region_quiet_below (by kernel_rfl) (by kernel_rfl) ?_
        iterate 8 (go_big_quiet_step (fail))
        go_big_quiet_step (exact cE _ _)
        repeat (go_big_quiet_step (fail))
        refine wpQuiet_nil ?_
        intro w2 hw'
        have bw2 : RowKit.Below wr.heap.size wr w2 := by obtain ⟨p, rfl⟩ := hw'; exact below_regrown _ _ _
        have hb2 := hbl.trans (bw2.mono (show w.heap.size + 1 ≤ wr.heap.size by omega))
        have r2 := own_below hr bw2
        have z2 := bw2.size
        obtain ⟨f0, f1, f2, f3, b0, b1, b2, b3⟩ := kk _ hb2

        clear hw' cE k0 k1 k2 k3 j0 j1 j2 j3 y0 y1 y2 y3 e0 e1 e2 e3
        go_wp2_with (at_builtin; refine app_new_at rfl rfl Try.underlying33 info_Ent rfl (by decide) r2 rfl 1 rfl rfl (by simp [Value.oneCell']) (by omega) hb2 (Nat.le_refl _) (by omega) ?_; intro v3 w3 o3 x3 g3 p3; have z3 := x3.size)
        go_roundw
        case rel => exact ⟨k + 1, false, by omega, by go_num, rfl, Lib.hid (by have := HQ.out; simp; omega), by rw [HS.out]; simpa [EntR.cells] using o3, x3⟩
        case measure => simp [intOf]; omega
      · obtain rfl : b = false := by rw [hb]; simp; omega
        have hten : aheadB e l[k] = true := by
          have := posE_at l e (by omega)
          simpa only [← hq] using this
        have HS := Lib.hid (outG_put (x := e) hlt hq)
        have HQ := Lib.hid hq
        have cE : ∀ d os, Calls Try.prog 180 #[.agg #[.string e.key, .int .i64 e.seq, .bool e.del, .string e.val], .agg #[.string l[k].key, .int .i64 l[k].seq, .bool l[k].del, .string l[k].val]] (grow (redrawn wr d) os) fun e' w'' => e' = .returned (.bool (aheadB e l[k])) ∧ ∃ p : Regrown, w'' = grow (redrawn wr p.d) p.os := fun d os => Calls.regrown_of (l9Ahead_any _ _ _)
        have k0 := cell_regrown e0
        have k1 := cell_regrown e1
        have k2 := cell_regrown e2
        have k3 := cell_regrown e3
        have j0 := cell_regrown y0
        have j1 := cell_regrown y1
        have j2 := cell_regrown y2
        have j3 := cell_regrown y3
        rw [hten] at cE
        clear hb hten hq h
        go_upto_region 6 with fail
        refine wp_region_quiet_below (by kernel_rfl) (by kernel_rfl) ?_
        iterate 8 (go_big_quiet_step (fail))
        go_big_quiet_step (exact cE _ _)
        repeat (go_big_quiet_step (fail))
        refine wpQuiet_nil ?_
        intro w2 hw'
        have bw2 : RowKit.Below wr.heap.size wr w2 := by obtain ⟨p, rfl⟩ := hw'; exact below_regrown _ _ _
        have hb2 := hbl.trans (bw2.mono (show w.heap.size + 1 ≤ wr.heap.size by omega))
        have r2 := own_below hr bw2
        have z2 := bw2.size
        obtain ⟨f0, f1, f2, f3, b0, b1, b2, b3⟩ := kk _ hb2

        clear hw' cE k0 k1 k2 k3 j0 j1 j2 j3 y0 y1 y2 y3 e0 e1 e2 e3
        go_wp2_with (first | (at_builtin; refine app_new_at rfl rfl Try.underlying33 info_Ent rfl (by decide) o3 rfl 1 rfl rfl (by simp [Value.oneCell']) (by omega) x3 (Nat.le_refl _) (by omega) ?_; intro v4 w4 o4 x4 g4 p4; have z4 := x4.size) | (at_builtin; refine app_new_at rfl rfl Try.underlying33 info_Ent rfl (by decide) r2 rfl 1 rfl rfl (by simp [Value.oneCell']) (by omega) hb2 (Nat.le_refl _) (by omega) ?_; intro v3 w3 o3 x3 g3 p3; have z3 := x3.size; obtain ⟨c0, c1, c2, c3, _⟩ := kk _ x3))
        go_roundw
        case rel => exact ⟨k + 1, true, by omega, by go_num, rfl, Lib.hid (by have := HQ.out; simp; omega), by rw [HS.out]; simpa [EntR.cells] using o4, x4⟩
        case measure => simp [intOf]; omega
      · obtain rfl : b = true := by rw [hb]; simp; omega
        have HS := Lib.hid (outG_step (x := e) hlt (by omega : k ≠ posE l e))
        have HQ := Lib.hid hq
        clear hb hq h
        go_upto_region 6 with fail
        refine wp_region_quiet_below (by kernel_rfl) (by kernel_rfl) ?_
        repeat (go_big_quiet_step (fail))
        refine wpQuiet_nil ?_
        intro w2 hw'
        have bw2 : RowKit.Below wr.heap.size wr w2 := by obtain ⟨p, rfl⟩ := hw'; exact below_regrown _ _ _
        have hb2 := hbl.trans (bw2.mono (show w.heap.size + 1 ≤ wr.heap.size by omega))
        have r2 := own_below hr bw2
        have z2 := bw2.size
        obtain ⟨f0, f1, f2, f3, b0, b1, b2, b3⟩ := kk _ hb2

        clear hw' y0 y1 y2 y3 e0 e1 e2 e3
        go_wp2_with (at_builtin; refine app_new_at rfl rfl Try.underlying33 info_Ent rfl (by decide) r2 rfl 1 rfl rfl (by simp [Value.oneCell']) (by omega) hb2 (Nat.le_refl _) (by omega) ?_; intro v3 w3 o3 x3 g3 p3; have z3 := x3.size)
        go_roundw
        case rel => exact ⟨k + 1, true, by omega, by go_num, rfl, Lib.hid (by have := HQ.out; simp; omega), by rw [HS.out]; simpa [EntR.cells] using o3, x3⟩
        case measure => simp [intOf]; omega
    · obtain rfl : k = l.length := by omega
      by_cases hpl : posE l e < l.length
      · obtain rfl : b = true := by rw [hb]; simpa using hpl
        clear hb
        rw [outG_end l e _ hpl] at hr ⊢
        go_wp2
        go_ret
        exact ⟨_, rfl, own_mono hr (by omega), hal.trans (hbl.mono (by omega))⟩
      · obtain rfl : b = false := by rw [hb]; simpa using hpl
        clear hb
        have HE := Lib.hid (outG_last l e _ hple hpl)
        have hz1 := (bcellB hbl).1
        have y0 := (hz1 w.heap.size 0 (by omega)).trans t0
        have y1 := (hz1 w.heap.size 1 (by omega)).trans t1
        have y2 := (hz1 w.heap.size 2 (by omega)).trans t2
        have y3 := (hz1 w.heap.size 3 (by omega)).trans t3
        clear hz1
        go_wp2_with (at_builtin; refine app_new_at rfl rfl Try.underlying33 info_Ent rfl (by decide) hr rfl 1 rfl rfl (by simp [Value.oneCell']) (by omega) hbl (Nat.le_refl _) (by omega) ?_; intro v3 w3 o3 x3 g3 p3; have z3 := x3.size)
        go_ret
        exact ⟨_, rfl, by unfold putE; rw [← HE.out]; simpa [EntR.cells] using own_mono o3 (show w.heap.size ≤ w.heap.size + 1 by omega), hal.trans (x3.mono (by omega))⟩

set_option maxRecDepth 100000 in
set_option maxHeartbeats 800000 in
theorem specMemPut_row (ad : Option Addr) (cap : Nat) (l : List EntR) (e : EntR) (w : World) (h : SlT EntR.cells 4 w (.slice ad l.length cap) l) (hl : (l.length : Int) ≤ 1048576) :
    Calls Try.prog 37 #[.slice ad l.length cap, .agg #[.string e.key, .int .i64 e.seq, .bool e.del, .string e.val]] w fun r w' => ∃ v', r = .returned (.tuple #[v', .bool (putB l e)]) ∧ w'.ownsRow w.heap.size 30 4 v' (memPut l e).length ((memPut l e).map EntR.cells).flatten ∧ Below w.heap.size w w' := by
  have t0 : (w.alloc (.cells #[.string e.key, .int .i64 e.seq, .bool e.del, .string e.val] 30)).cell? ⟨w.heap.size, 0, none⟩ = some (.string e.key) := by simp [go_sem]
  have t1 : (w.alloc (.cells #[.string e.key, .int .i64 e.seq, .bool e.del, .string e.val] 30)).cell? ⟨w.heap.size, 1, none⟩ = some (.int .i64 e.seq) := by simp [go_sem]
  have t2 : (w.alloc (.cells #[.string e.key, .int .i64 e.seq, .bool e.del, .string e.val] 30)).cell? ⟨w.heap.size, 2, none⟩ = some (.bool e.del) := by simp [go_sem]
  have t3 : (w.alloc (.cells #[.string e.key, .int .i64 e.seq, .bool e.del, .string e.val] 30)).cell? ⟨w.heap.size, 3, none⟩ = some (.string e.val) := by simp [go_sem]
  have hal : RowKit.Below w.heap.size w (w.alloc (.cells #[.string e.key, .int .i64 e.seq, .bool e.del, .string e.val] 30)) := (Below.refl _ _).alloc (Nat.le_refl _) _
  have hsz : (w.alloc (.cells #[.string e.key, .int .i64 e.seq, .bool e.del, .string e.val] 30)).heap.size = w.heap.size + 1 := by simp
  rcases hm : memB l with _ | _
  · have HR := Lib.hid (show memPut l e = [] from by simp [memPut, hm])
    have HB := Lib.hid (show putB l e = false from by simp [putB, hm])
    go_enter Try.func37, Try.ntmps37
    go_upto_region 1 with fail
    generalize (w.alloc (.cells #[.string e.key, .int .i64 e.seq, .bool e.del, .string e.val] 30)) = W at *
    go_wp2_with (go_at_call 38; refine (specMemOk _ l _ (h.below hal) hl).mono ?_; rintro r w1 ⟨rfl, b1⟩; rw [hm]; have x1 := hal.trans (b1.mono (by omega)))
    go_wp2
    have oZ : (w1.alloc (.cells #[] 30)).ownsRow w1.heap.size 30 4 (.slice (some ⟨w1.heap.size, 0, none⟩) 0 0) 0 [] := own0 rfl (Nat.le_refl _)
    refine bodyPost_ret (v := .tuple #[.slice (some ⟨w1.heap.size, 0, none⟩) 0 0, .bool false]) (by simp [results, Try.results37, go_sem]) rfl ?_
    rw [HB.out, HR.out]
    exact ⟨_, rfl, own_mono oZ x1.size, x1.alloc x1.size _⟩
  have hln := memB_len hm
  have hpl : ((putE l e).length : Int) ≤ 1048576 := by rw [putE_length]; omega
  rcases hp : memB (putE l e) with _ | _
  · have HR := Lib.hid (show memPut l e = l from by simp [memPut, hm, putB, hp])
    have HB := Lib.hid (show putB l e = false from by simp [putB, hp])
    go_enter Try.func37, Try.ntmps37
    go_upto_region 1 with fail
    generalize (w.alloc (.cells #[.string e.key, .int .i64 e.seq, .bool e.del, .string e.val] 30)) = W at *
    go_wp2_with (go_at_call 38; refine (specMemOk _ l _ (h.below hal) hl).mono ?_; rintro r w1 ⟨rfl, b1⟩; rw [hm]; have x1 := hal.trans (b1.mono (by omega)); have z1 := b1.size; obtain ⟨hc, hf⟩ := bcell b1; have y0 := (hc w.heap.size 0 (by first | omega | (simp <;> omega))).trans t0; have y1 := (hc w.heap.size 1 (by first | omega | (simp <;> omega))).trans t1; have y2 := (hc w.heap.size 2 (by first | omega | (simp <;> omega))).trans t2; have y3 := (hc w.heap.size 3 (by first | omega | (simp <;> omega))).trans t3; clear hc hf)
    go_wp2_with (go_at_call 118; refine (l9Put_any ad cap l e _ (h.below x1) hl).mono ?_; rintro r w2 ⟨v2, rfl, r2, b2⟩; have x2 := x1.trans (b2.mono x1.size); have z2 := b2.size)
    have hS := SlT.of_own (l := putE l e) r2 (fun _ => rfl) (by decide)
    go_upto_region 5 with (go_at_call 38; refine (specMemOk _ (putE l e) _ hS hpl).mono ?_; rintro r w3 ⟨rfl, b3⟩; rw [hp]; have x3 := x2.trans (b3.mono x2.size); have z3 := b3.size)
    have oZ : (w3.alloc (.cells #[] 30)).ownsRow w3.heap.size 30 4 (.slice (some ⟨w3.heap.size, 0, none⟩) 0 0) 0 [] := own0 rfl (Nat.le_refl _)
    have bZ : RowKit.Below w.heap.size w (w3.alloc (.cells #[] 30)) := x3.alloc x3.size _
    go_wp2_with (at_builtin; refine app_recs rfl rfl Try.underlying33 info_Ent rfl (by decide) oZ rfl ad cap (h.below bZ) rfl (fun _ => rfl) ent1 (by omega) bZ (by omega) (by simp <;> omega) ?_; intro v4 w4 o4 x4 g4)
    go_wp2
    refine bodyPost_ret (v := .tuple #[v4, .bool false]) (by simp [results, Try.results37, go_sem]) rfl ?_
    rw [HB.out, HR.out]
    exact ⟨_, rfl, own_mono (base := w3.heap.size) (by simpa using o4) x3.size, x4⟩
  · have HR := Lib.hid (show memPut l e = putE l e from by simp [memPut, hm, putB, hp])
    have HB := Lib.hid (show putB l e = true from by simp [putB, hm, hp])
    go_enter Try.func37, Try.ntmps37
    go_upto_region 1 with fail
    generalize (w.alloc (.cells #[.string e.key, .int .i64 e.seq, .bool e.del, .string e.val] 30)) = W at *
    go_wp2_with (go_at_call 38; refine (specMemOk _ l _ (h.below hal) hl).mono ?_; rintro r w1 ⟨rfl, b1⟩; rw [hm]; have x1 := hal.trans (b1.mono (by omega)); have z1 := b1.size; obtain ⟨hc, hf⟩ := bcell b1; have y0 := (hc w.heap.size 0 (by first | omega | (simp <;> omega))).trans t0; have y1 := (hc w.heap.size 1 (by first | omega | (simp <;> omega))).trans t1; have y2 := (hc w.heap.size 2 (by first | omega | (simp <;> omega))).trans t2; have y3 := (hc w.heap.size 3 (by first | omega | (simp <;> omega))).trans t3; clear hc hf)
    go_wp2_with (go_at_call 118; refine (l9Put_any ad cap l e _ (h.below x1) hl).mono ?_; rintro r w2 ⟨v2, rfl, r2, b2⟩; have x2 := x1.trans (b2.mono x1.size); have z2 := b2.size)
    have hS := SlT.of_own (l := putE l e) r2 (fun _ => rfl) (by decide)
    go_wp2_with (go_at_call 38; refine (specMemOk _ (putE l e) _ hS hpl).mono ?_; rintro r w3 ⟨rfl, b3⟩; rw [hp]; have x3 := x2.trans (b3.mono x2.size); have z3 := b3.size)
    go_wp2
    refine bodyPost_ret (v := .tuple #[v2, .bool true]) (by simp [results, Try.results37, go_sem]) rfl ?_
    rw [HB.out, HR.out]
    exact ⟨_, rfl, own_below (own_mono r2 x1.size) b3, x3⟩
theorem specMemPut (ad : Option Addr) (cap : Nat) (l : List EntR) (e : EntR) (w : World) (h : SlT EntR.cells 4 w (.slice ad l.length cap) l) (hl : (l.length : Int) ≤ 1048576) :
    Calls Try.prog 37 #[.slice ad l.length cap, .agg #[.string e.key, .int .i64 e.seq, .bool e.del, .string e.val]] w fun r w' => ∃ v', r = .returned (.tuple #[v', .bool (putB l e)]) ∧ SlT EntR.cells 4 w' v' (memPut l e) ∧ Below w.heap.size w w' := by
  refine (specMemPut_row ad cap l e w h hl).mono ?_
  rintro r w' ⟨v', rfl, h, b⟩
  exact ⟨v', rfl, SlT.of_own h (fun _ => rfl) (by decide), b⟩
end Go.Proofs.Ytmbmflhcimkjpaa

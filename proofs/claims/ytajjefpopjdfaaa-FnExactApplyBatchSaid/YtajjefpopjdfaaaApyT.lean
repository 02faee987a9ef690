/- Walks: ApplyBatch of the reference, the whole. -/
import Derived.Test.YtajjefpopjdfaaaApyS
set_option linter.unusedVariables false
set_option linter.unusedSimpArgs false
namespace Go.Proofs.Ytajjefpopjdfaaa
open Go.RowKit Sp Go.Sort

set_option maxRecDepth 100000 in
set_option maxHeartbeats 1600000 in
theorem specApplyBatch (ad : Addr) (cap : Nat) (m : List KV) (ad2 : Addr) (cap2 : Nat) (l : List OpR) (w : World) (h : SlT KV.cells 2 w (.slice (some ad) m.length cap) m) (h2 : SlT OpR.cells 3 w (.slice (some ad2) l.length cap2) l) (hl : (m.length : Int) ≤ 1048576) (hl2 : (l.length : Int) ≤ 1048576) (hq : mapB m = true → (m.length : Int) ≤ 1048000) :
    Calls Try.prog 29 #[.slice (some ad) m.length cap, .slice (some ad2) l.length cap2] w fun e w' => ∃ v', e = .returned (.tuple #[v', .bool (applyB m l)]) ∧ SlT KV.cells 2 w' v' (applyL m l) ∧ Below w.heap.size w w' := by
  rcases hm : mapB m with _ | _
  · have HR := Lib.hid (applyL_not l hm)
    have HB := Lib.hid (show applyB m l = false by simp [applyB, hm])
    go_enter Try.func29, Try.ntmps29
    go_wp2_with (go_at_call 68; refine (specMapOk _ m _ h hl).mono ?_; rintro e w1 ⟨rfl, b1⟩; rw [hm])
    refine bodyPost_ret (v := .tuple #[.slice (some ⟨w1.heap.size, 0, none⟩) 0 0, .bool false]) (by simp [results, Try.results29, go_sem]) rfl ⟨_, by rw [HB.out], by rw [HR.out]; exact ⟨_, 0, rfl, Nat.le_refl _, by decide, fun h => absurd h (by simp)⟩, b1.alloc b1.size _⟩
  · have hq' := hq hm
    have HMM := Lib.hid hm
    rcases hb : batchB l with _ | _
    · have HR := Lib.hid (applyL_same hm hb)
      have HB := Lib.hid (show applyB m l = false by simp [applyB, hm, hb])
      go_enter Try.func29, Try.ntmps29
      go_wp2_with fail
      refine (specMapOk _ m _ h hl).mono ?_
      rintro e w1 ⟨rfl, b1⟩
      rw [hm]
      have h0 : (w1.alloc (.cells #[] 95)).ownsRow w.heap.size 95 2 (.slice (some ⟨w1.heap.size, 0, none⟩) 0 0) 0 [] := World.ownsRow_lit w1 #[] 0 b1.size (by simp [maxLen]) rfl
      have x0 := b1.alloc b1.size (.cells #[] 95)
      go_wp2_with (first | (at_builtin; go_loud (refine app_recs rfl rfl Try.underlying44 info_KV rfl (by decide) h0 rfl ad cap (h.below x0) rfl (fun _ => rfl) kvOne' (by omega) x0 (Nat.le_refl _) x0.size ?_; intro v3 w3 r3 x3 g3)) | fail)
      refine (specBatchOk _ l _ (h2.below x3) hl2).mono ?_
      rintro e w4 ⟨rfl, b4⟩
      rw [hb]
      have x4 := x3.trans (b4.mono x3.size)
      have r4 := own_below r3 b4
      clear g3 r3 x3 h0 x0
      have R4 : Row KV.cells 95 2 w.heap.size w4.heap.size w4 v3 m := Row.of_own (by simpa using r4) (by simp)
      go_wp2
      refine bodyPost_ret (v := .tuple #[v3, .bool false]) (by simp [results, Try.results29, go_sem]) rfl ⟨_, by rw [HB.out], by rw [HR.out]; exact R4.slT (fun _ => rfl) (by decide), x4⟩
    · have HR := Lib.hid (applyL_yes hm hb)
      have HB := Lib.hid (show applyB m l = true by simp [applyB, hm, hb])
      have HBB := Lib.hid hb
      have h6 := (batch_all hb).1
      go_enter Try.func29, Try.ntmps29
      go_wp2_with fail
      refine (specMapOk _ m _ h hl).mono ?_
      rintro e w1 ⟨rfl, b1⟩
      rw [hm]
      have h0 : (w1.alloc (.cells #[] 95)).ownsRow w.heap.size 95 2 (.slice (some ⟨w1.heap.size, 0, none⟩) 0 0) 0 [] := World.ownsRow_lit w1 #[] 0 b1.size (by simp [maxLen]) rfl
      have x0 := b1.alloc b1.size (.cells #[] 95)
      go_wp2_with (first | (at_builtin; go_loud (refine app_recs rfl rfl Try.underlying44 info_KV rfl (by decide) h0 rfl ad cap (h.below x0) rfl (fun _ => rfl) kvOne' (by omega) x0 (Nat.le_refl _) x0.size ?_; intro v3 w3 r3 x3 g3)) | fail)
      refine (specBatchOk _ l _ (h2.below x3) hl2).mono ?_
      rintro e w4 ⟨rfl, b4⟩
      rw [hb]
      have x4 := x3.trans (b4.mono x3.size)
      have r4 := own_below r3 b4
      clear g3 r3 x3 h0 x0
      have R4 : Row KV.cells 95 2 w.heap.size w4.heap.size w4 v3 m := Row.of_own (by simpa using r4) (by simp)
      clear h r4 hm hb hq
      obtain ⟨ao2, cp2, hv2, _, _, hsh⟩ := h2.shape
      obtain ⟨rfl, rfl⟩ : some ad2 = ao2 ∧ cap2 = cp2 := by simpa using hv2
      clear h2 hv2
      go_wp2
      go_loopw [6, 7] (fun o i wr => ∃ k : Nat, k ≤ l.length ∧ i = .int .i64 k ∧ Row KV.cells 95 2 w.heap.size wr.heap.size wr o (puts m (l.take k)) ∧ RowKit.Below w.heap.size w wr) (fun _ i _ => l.length - (intOf i).toNat)
      case atStart => exact ⟨0, by omega, rfl, by simpa [puts] using R4, x4⟩
      case round =>
        clear R4 x4
        obtain ⟨k, hk, rfl, hr, hbl⟩ := hrel
        have zb := hbl.size
        obtain ⟨hok, hlen⟩ := puts_ok HMM.out HBB.out k hk
        by_cases hlt : k < l.length
        · have HP := Lib.hid (puts_step m l k hlt)
          obtain ⟨b, off, hbo, hbs, hcc⟩ := hsh (by omega)
          obtain rfl := Option.some.inj hbo
          have e0 : wr.cell? ⟨b, off + k * 3, none⟩ = some (.string l[k].key) := (hbl.cell (p := ⟨b, off + k * 3, none⟩) hbs).trans (hcc k hlt 0 _ rfl)
          have e1 : wr.cell? ⟨b, off + k * 3 + 1, none⟩ = some (.bool l[k].del) := (hbl.cell (p := ⟨b, off + k * 3 + 1, none⟩) hbs).trans (hcc k hlt 1 _ rfl)
          have e2 : wr.cell? ⟨b, off + k * 3 + 2, none⟩ = some (.string l[k].val) := (hbl.cell (p := ⟨b, off + k * 3 + 2, none⟩) hbs).trans (hcc k hlt 2 _ rfl)
          clear hcc hsh
          go_wp2_with fail
          refine (l7Put_any _ (puts m (l.take k)) l[k] _ (hr.slT (fun _ => rfl) (by decide)) (by omega) hok).mono ?_
          rintro e w2 ⟨v2, rfl, r2, b2⟩
          have x2 := hbl.trans (b2.mono zb)
          have r3 := r2.wide zb (Nat.le_refl _)
          rw [← HP.out] at r3
          clear r2 b2 hr hbl
          go_wp2
          go_roundw
          case rel => exact ⟨k + 1, by omega, by go_num, r3, x2⟩
          case measure => simp [intOf]; omega
        · obtain rfl : k = l.length := by omega
          clear hsh
          go_wp2
          refine bodyPost_ret (v := .tuple #[u6, .bool true]) (by simp [results, Try.results29, go_sem]) rfl ⟨_, by rw [HB.out], by rw [HR.out]; exact hr.slT (fun _ => rfl) (by decide), hbl⟩
end Go.Proofs.Ytajjefpopjdfaaa

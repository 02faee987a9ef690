/- Walks: ApplyBatch of the program, the whole. -/
import Derived.Test.YtajjefpopjdfaaaApyI
import Derived.Test.YtajjefpopjdfaaaBatchW
set_option linter.unusedVariables false
set_option linter.unusedSimpArgs false
namespace Go.Proofs.Ytajjefpopjdfaaa
open Go.RowKit Sp Go.Sort
namespace Sp
theorem batch_all {l : List OpR} (h : batchB l = true) : (l.length : Int) ≤ 6 ∧ ∀ k (hk : k < l.length), opR l[k] = true := by
  unfold batchB at h
  rw [Bool.and_eq_true, inB_iff] at h
  refine ⟨h.1.2, fun k hk => ?_⟩
  have := allIx_spec h.2 k hk
  rwa [opAt_in hk] at this
theorem puts_ok {m : List KV} {l : List OpR} (hm : mapB m = true) (hb : batchB l = true) (k : Nat) (hk : k ≤ l.length) : mapB (puts m (l.take k)) = true ∧ (puts m (l.take k)).length ≤ m.length + 6 := by
  obtain ⟨h6, ho⟩ := batch_all hb
  refine ⟨puts_map hm fun x hx => ?_, ?_⟩
  · obtain ⟨i, hi, rfl⟩ := List.getElem_of_mem hx
    rw [List.getElem_take]
    rw [List.length_take] at hi
    exact ho i (by omega)
  · have := puts_len m (l.take k)
    rw [List.length_take] at this
    omega
theorem applyL_not {m : List KV} (l : List OpR) (h : mapB m = false) : applyL m l = [] := by simp [applyL, h]
theorem applyL_same {m : List KV} {l : List OpR} (h : mapB m = true) (hb : batchB l = false) : applyL m l = m := by simp [applyL, h, hb]
theorem applyL_yes {m : List KV} {l : List OpR} (h : mapB m = true) (hb : batchB l = true) : applyL m l = puts m (l.take l.length) := by simp [applyL, h, hb]
end Sp

set_option maxRecDepth 100000 in
set_option maxHeartbeats 1600000 in
theorem applied_any (ad : Addr) (cap : Nat) (m : List KV) (v : Value) (l : List OpR) (w : World) (h : SlT KV.cells 2 w (.slice (some ad) m.length cap) m) (h2 : SlT OpR.cells 3 w v l) (hl : (m.length : Int) ≤ 1048000) (hm : mapB m = true) (hb : batchB l = true) :
    Calls Try.prog 73 #[.slice (some ad) m.length cap, v] w fun e w' => ∃ v', e = .returned v' ∧ Row KV.cells 95 2 w.heap.size w'.heap.size w' v' (puts m (l.take l.length)) ∧ Below w.heap.size w w' := by
  obtain ⟨ao, cp, rfl, hlc, hcm, hsh⟩ := h2.shape
  have h6 := (batch_all hb).1
  have HB := Lib.hid hb
  have HM := Lib.hid hm
  clear hb hm h2
  go_enter Try.func73, Try.ntmps73
  go_wp2_with (go_at_call 72; refine (cloneKV_row ad cap m _ h (by omega)).mono ?_; rintro e w1 ⟨v1, rfl, r1, b1⟩)
  have z1 := b1.size
  go_loopw [5, 12] (fun o i wr => ∃ k : Nat, k ≤ l.length ∧ i = .int .i64 k ∧ Row KV.cells 95 2 w.heap.size wr.heap.size wr o (puts m (l.take k)) ∧ RowKit.Below w.heap.size w wr) (fun _ i _ => l.length - (intOf i).toNat)
  case atStart => exact ⟨0, by omega, rfl, by simpa [puts] using r1, b1⟩
  case round =>
    obtain ⟨k, hk, rfl, hr, hbl⟩ := hrel
    have zb := hbl.size
    obtain ⟨hok, hlen⟩ := puts_ok HM.out HB.out k hk
    by_cases hlt : k < l.length
    · have HP := Lib.hid (puts_step m l k hlt)
      obtain ⟨b, off, rfl, hbs, hcc⟩ := hsh (by omega)
      have e0 : wr.cell? ⟨b, off + k * 3, none⟩ = some (.string l[k].key) := (hbl.cell (p := ⟨b, off + k * 3, none⟩) hbs).trans (hcc k hlt 0 _ rfl)
      have e1 : wr.cell? ⟨b, off + k * 3 + 1, none⟩ = some (.bool l[k].del) := (hbl.cell (p := ⟨b, off + k * 3 + 1, none⟩) hbs).trans (hcc k hlt 1 _ rfl)
      have e2 : wr.cell? ⟨b, off + k * 3 + 2, none⟩ = some (.string l[k].val) := (hbl.cell (p := ⟨b, off + k * 3 + 2, none⟩) hbs).trans (hcc k hlt 2 _ rfl)
      clear hcc hsh h r1 b1
      rcases hdel : l[k].del with _ | _
      · rw [hdel] at e1
        have HD := Lib.hid hdel
        have rB := hr.below ((Below.refl _ _).alloc (Nat.le_refl _) (.cells #[.string l[k].key, .bool false, .string l[k].val] 58))
        have xB := hbl.alloc hbl.size (.cells #[.string l[k].key, .bool false, .string l[k].val] 58)
        clear hdel hr
        go_wp2_with fail
        refine (setKey_any _ _ l[k] _ _ _ (by simp; omega) rB (by omega) hok HD.out).mono ?_
        rintro e w2 ⟨v2, rfl, r2, b2⟩
        have x2 := xB.trans b2
        rw [← HP.out] at r2
        go_wp2
        go_roundw
        case rel => exact ⟨k + 1, by omega, by go_num, r2, x2⟩
        case measure => simp [intOf]; omega
      · rw [hdel] at e1
        have HD := Lib.hid hdel
        have rB := hr.below ((Below.refl _ _).alloc (Nat.le_refl _) (.cells #[.string l[k].key, .bool true, .string l[k].val] 58))
        have xB := hbl.alloc hbl.size (.cells #[.string l[k].key, .bool true, .string l[k].val] 58)
        clear hdel hr
        go_wp2_with fail
        refine (dropKey_any _ _ l[k] _ _ _ (by simp; omega) rB (by omega) hok HD.out).mono ?_
        rintro e w2 ⟨v2, rfl, r2, b2⟩
        have x2 := xB.trans b2
        rw [← HP.out] at r2
        go_wp2
        go_roundw
        case rel => exact ⟨k + 1, by omega, by go_num, r2, x2⟩
        case measure => simp [intOf]; omega
    · obtain rfl : k = l.length := by omega
      clear hsh h r1 b1
      go_wp2
      go_ret
      exact ⟨_, rfl, hr, hbl⟩

set_option maxRecDepth 100000 in
set_option maxHeartbeats 800000 in
theorem implApplyBatch (ad : Addr) (cap : Nat) (m : List KV) (ad2 : Addr) (cap2 : Nat) (l : List OpR) (w : World) (h : SlT KV.cells 2 w (.slice (some ad) m.length cap) m) (h2 : SlT OpR.cells 3 w (.slice (some ad2) l.length cap2) l) (hl : (m.length : Int) ≤ 1048576) (hl2 : (l.length : Int) ≤ 1048576) (hq : mapB m = true → (m.length : Int) ≤ 1048000) :
    Calls Try.prog 31 #[.slice (some ad) m.length cap, .slice (some ad2) l.length cap2] w fun e w' => ∃ v', e = .returned (.tuple #[v', .bool (applyB m l)]) ∧ Row KV.cells 95 2 w.heap.size w'.heap.size w' v' (applyL m l) ∧ Below w.heap.size w w' := by
  rcases hm : mapB m with _ | _
  · have HR := Lib.hid (applyL_not l hm)
    have HB := Lib.hid (show applyB m l = false by simp [applyB, hm])
    go_enter Try.func31, Try.ntmps31
    go_wp2_with (go_at_call 71; refine (implMapOk _ m _ h hl).mono ?_; rintro e w1 ⟨rfl, b1⟩; rw [hm])
    refine bodyPost_ret (v := .tuple #[.slice none 0 0, .bool false]) (by simp [results, Try.results31, go_sem]) rfl ⟨_, by rw [HB.out], by rw [HR.out]; exact Row.nil _ _ _, b1⟩
  · have hq' := hq hm
    rcases hb : batchB l with _ | _
    · have HR := Lib.hid (applyL_same hm hb)
      have HB := Lib.hid (show applyB m l = false by simp [applyB, hm, hb])
      go_enter Try.func31, Try.ntmps31
      go_wp2_with (go_at_call 71; refine (implMapOk _ m _ h hl).mono ?_; rintro e w1 ⟨rfl, b1⟩; rw [hm])
      go_wp2_with (go_at_call 13; refine (implBatchOk _ l _ (h2.below b1) hl2).mono ?_; rintro e w2 ⟨rfl, b2⟩; rw [hb])
      have x2 := b1.trans (b2.mono b1.size)
      go_wp2_with (go_at_call 72; refine (cloneKV_row ad cap m _ (h.below x2) (by omega)).mono ?_; rintro e w3 ⟨v3, rfl, r3, b3⟩)
      have x3 := x2.trans (b3.mono x2.size)
      refine bodyPost_ret (v := .tuple #[v3, .bool false]) (by simp [results, Try.results31, go_sem]) rfl ⟨_, by rw [HB.out], by rw [HR.out]; exact r3.wide x2.size (Nat.le_refl _), x3⟩
    · have HR := Lib.hid (applyL_yes hm hb)
      have HB := Lib.hid (show applyB m l = true by simp [applyB, hm, hb])
      have HBB := Lib.hid hb
      have HMM := Lib.hid hm
      go_enter Try.func31, Try.ntmps31
      go_wp2_with (go_at_call 71; refine (implMapOk _ m _ h hl).mono ?_; rintro e w1 ⟨rfl, b1⟩; rw [hm])
      go_wp2_with (go_at_call 13; refine (implBatchOk _ l _ (h2.below b1) hl2).mono ?_; rintro e w2 ⟨rfl, b2⟩; rw [hb])
      have x2 := b1.trans (b2.mono b1.size)
      go_wp2_with (go_at_call 73; refine (applied_any ad cap m _ l _ (h.below x2) (h2.below x2) (by omega) HMM.out HBB.out).mono ?_; rintro e w3 ⟨v3, rfl, r3, b3⟩)
      have x3 := x2.trans (b3.mono x2.size)
      refine bodyPost_ret (v := .tuple #[v3, .bool true]) (by simp [results, Try.results31, go_sem]) rfl ⟨_, by rw [HB.out], by rw [HR.out]; exact r3.wide x2.size (Nat.le_refl _), x3⟩
end Go.Proofs.Ytajjefpopjdfaaa

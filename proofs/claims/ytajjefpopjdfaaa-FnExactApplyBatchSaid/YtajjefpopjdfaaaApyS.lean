/- Walks: ApplyBatch of the reference. -/
import Derived.Test.YtajjefpopjdfaaaApyJ
import Derived.Test.YtajjefpopjdfaaaApp
set_option linter.unusedVariables false
set_option linter.unusedSimpArgs false
namespace Go.Proofs.Ytajjefpopjdfaaa
open Go.RowKit Sp Go.Sort
theorem kvOne' : ∀ x : KV, ∀ u ∈ KV.cells x, u.oneCell' = true := by
  intro x u hu
  simp [KV.cells] at hu
  rcases hu with rfl | rfl <;> rfl
theorem ge_key {m : List KV} {o : OpR} {k : Nat} (hm : mapB m = true) (hk : k < m.length) : (less m[k].key o.key = true ↔ k < posK m o.key) ∧ (m[k].key.toList = o.key.toList ↔ (k = posK m o.key ∧ hitK m o.key k = true)) := by
  have hp := posK_is hm o.key
  have h1 : less m[k].key o.key = true ↔ k < posK m o.key := by
    constructor
    · intro h
      rcases Nat.lt_or_ge k (posK m o.key) with h1 | h1
      · exact h1
      · rw [hp.hi k hk h1] at h; cases h
    · exact fun h => hp.lo k hk h
  refine ⟨h1, ?_, ?_⟩
  · intro he
    have hge : posK m o.key ≤ k := by
      rcases Nat.lt_or_ge k (posK m o.key) with h | h
      · exact absurd he (less_ne (hp.lo k hk h))
      · exact h
    have hkq : k = posK m o.key := by
      rcases Nat.lt_or_ge (posK m o.key) k with h | h
      · have h3 := map_mono hm h hk
        have h4 := hp.hi (posK m o.key) (by omega) (Nat.le_refl _)
        rw [(less_congr (c := m[posK m o.key].key) he).2] at h3
        rw [h3] at h4; cases h4
      · omega
    refine ⟨hkq, ?_⟩
    rw [hitK_in hk, beq_iff_eq]; exact he
  · rintro ⟨_, h⟩
    rw [hitK_in hk, beq_iff_eq] at h; exact h

set_option maxRecDepth 100000 in
set_option maxHeartbeats 1600000 in
theorem l7Put_any (v : Value) (m : List KV) (o : OpR) (w : World) (h : SlT KV.cells 2 w v m) (hl : (m.length : Int) ≤ 1048576) (hm : mapB m = true) :
    Calls Try.prog 69 #[v, .agg #[.string o.key, .bool o.del, .string o.val]] w fun e w' => ∃ v', e = .returned v' ∧ Row KV.cells 95 2 w.heap.size w'.heap.size w' v' (put7 m o) ∧ Below w.heap.size w w' := by
  obtain ⟨ao, cap, rfl, hlc, hcm, hsh⟩ := h.shape
  have t0 : (w.alloc (.cells #[.string o.key, .bool o.del, .string o.val] 58)).cell? ⟨w.heap.size, 0, none⟩ = some (.string o.key) := by simp [go_sem]
  have t1 : (w.alloc (.cells #[.string o.key, .bool o.del, .string o.val] 58)).cell? ⟨w.heap.size, 1, none⟩ = some (.bool o.del) := by simp [go_sem]
  have t2 : (w.alloc (.cells #[.string o.key, .bool o.del, .string o.val] 58)).cell? ⟨w.heap.size, 2, none⟩ = some (.string o.val) := by simp [go_sem]
  have hal : RowKit.Below w.heap.size w (w.alloc (.cells #[.string o.key, .bool o.del, .string o.val] 58)) := (Below.refl _ _).alloc (Nat.le_refl _) _
  have hsz : (w.alloc (.cells #[.string o.key, .bool o.del, .string o.val] 58)).heap.size = w.heap.size + 1 := by simp
  have HM := Lib.hid hm
  clear hm h
  go_enter Try.func69, Try.ntmps69
  go_upto_region 1 with fail
  generalize (w.alloc (.cells #[.string o.key, .bool o.del, .string o.val] 58)) = W at *
  have h0 : (W.alloc (.cells #[] 95)).ownsRow (w.heap.size + 1) 95 2 (.slice (some ⟨W.heap.size, 0, none⟩) 0 0) 0 [] := World.ownsRow_lit W #[] 0 (by omega) (by simp [maxLen]) rfl
  have x0 : Below (w.heap.size + 1) W (W.alloc (.cells #[] 95)) := (Below.refl _ _).alloc (by omega) _
  go_wp2
  go_loopw [5, 6, 7] (fun s5 s6 s7 wr => ∃ (k : Nat) (pb : Bool), k ≤ m.length ∧ s7 = .int .i64 k ∧ s6 = .bool pb ∧ RowKit.Hid (pb = putK m o k) ∧ wr.ownsRow (w.heap.size + 1) 95 2 s5 (outK m o k).length ((outK m o k).map KV.cells).flatten ∧ RowKit.Below (w.heap.size + 1) W wr) (fun _ _ s7 _ => m.length - (intOf s7).toNat)
  case atStart => exact ⟨0, o.del, by omega, rfl, rfl, by simp [putK, RowKit.Hid], by rw [outK_zero]; rw [hsz] at h0; exact h0, x0⟩
  case round =>
    clear h0 x0
    obtain ⟨k, pb, hk, rfl, rfl, HP, ho, hbl⟩ := hrel
    by_cases hlt : k < m.length
    · obtain ⟨b, off, rfl, hbs, hcc⟩ := hsh (by omega)
      have E0 : W.cell? ⟨b, off + k * 2, none⟩ = some (.string m[k].key) := (hal.cell (p := ⟨b, off + k * 2, none⟩) hbs).trans (hcc k hlt 0 _ rfl)
      have E1 : W.cell? ⟨b, off + k * 2 + 1, none⟩ = some (.string m[k].val) := (hal.cell (p := ⟨b, off + k * 2 + 1, none⟩) hbs).trans (hcc k hlt 1 _ rfl)
      have hlen := outK_le m o k
      clear hcc t1
      obtain ⟨hl1, hl2⟩ := ge_key (o := o) HM.out hlt
      rcases Nat.lt_trichotomy k (posK m o.key) with hkq | hkq | hkq
      · have hnk : ¬ posK m o.key < k := by omega
        have hnk1 : ¬ posK m o.key < k + 1 := by omega
        rcases hd : o.del with _ | _
        · have HL := Lib.hid (show outK m o (k + 1) = outK m o k ++ [m[k]] from outK_lo hlt hkq)
          have HQ := Lib.hid (show false = putK m o (k + 1) from by simp [putK, hd, hnk1])
          obtain rfl : pb = false := by rw [HP.out]; simp [putK, hd, hnk]
          clear HP
          have hle := geq_less m[k].key o.key
          rw [show less m[k].key o.key = true from hl1.2 (by omega)] at hle
          have heq : (m[k].key.toList == o.key.toList) = false := by rw [beq_eq_false_iff_ne]; intro h; have := hl2.1 h; first | omega | (rw [hh] at this; cases this.2)
          clear hl1 hl2
          obtain ⟨hca, hfa⟩ := bcellB hbl
          have j0a := (hca w.heap.size 0 (by omega)).trans t0
          have j2a := (hca w.heap.size 2 (by omega)).trans t2
          have e0a := (hca b (off + k * 2) (by omega)).trans E0
          have e1a := (hca b (off + k * 2 + 1) (by omega)).trans E1
          clear hca hfa
          clear HM hsh
          try clear hkq
          try clear hh
          try clear hnk
          try clear hnk1
          go_wp2
          go_quiet (fail)
          obtain ⟨wd1, hwd1⟩ : ∃ wd, wd = wr.drewN nq := ⟨_, rfl⟩
          rw [← hwd1]
          have od1 : wd1.ownsRow (w.heap.size + 1) 95 2 u5 (outK m o k).length ((outK m o k).map KV.cells).flatten := by rw [hwd1]; exact ho
          have xd1 : Below (w.heap.size + 1) W wd1 := by rw [hwd1]; exact below_drewN hbl _
          clear hwd1 ho hbl
          obtain ⟨hcd1, hfd1⟩ := bcellB xd1
          have j0d1 := (hcd1 w.heap.size 0 (by omega)).trans t0
          have j2d1 := (hcd1 w.heap.size 2 (by omega)).trans t2
          have e0d1 := (hcd1 b (off + k * 2) (by omega)).trans E0
          have e1d1 := (hcd1 b (off + k * 2 + 1) (by omega)).trans E1
          clear hcd1 hfd1
          clear j0a j2a e0a e1a
          go_wp2
          go_quiet (fail)
          obtain ⟨wd2, hwd2⟩ : ∃ wd, wd = wd1.drewN nq := ⟨_, rfl⟩
          rw [← hwd2]
          have od2 : wd2.ownsRow (w.heap.size + 1) 95 2 u5 (outK m o k).length ((outK m o k).map KV.cells).flatten := by rw [hwd2]; exact od1
          have xd2 : Below (w.heap.size + 1) W wd2 := by rw [hwd2]; exact below_drewN xd1 _
          clear hwd2 od1 xd1
          obtain ⟨hcd2, hfd2⟩ := bcellB xd2
          have j0d2 := (hcd2 w.heap.size 0 (by omega)).trans t0
          have j2d2 := (hcd2 w.heap.size 2 (by omega)).trans t2
          have e0d2 := (hcd2 b (off + k * 2) (by omega)).trans E0
          have e1d2 := (hcd2 b (off + k * 2 + 1) (by omega)).trans E1
          clear hcd2 hfd2
          go_wp2_with (at_builtin; go_loud (refine app_new rfl rfl Try.underlying44 info_KV rfl (by decide) od2 rfl 1 (by simp [Act.eval]) rfl (by simp [Value.oneCell']) (by omega) xd2 (Nat.le_refl _) (by have := Below.size xd2; omega) ?_; intro v6 w6 r6 x6 g6))
          go_roundw
          case rel => exact ⟨k + 1, false, by omega, by go_num, rfl, HQ, by rw [HL.out]; simpa [KV.cells] using r6, x6⟩
          case measure => simp [intOf]; omega
        · have HL := Lib.hid (show outK m o (k + 1) = outK m o k ++ [m[k]] from outK_lo hlt hkq)
          have HQ := Lib.hid (show true = putK m o (k + 1) from by simp [putK, hd])
          obtain rfl : pb = true := by rw [HP.out]; simp [putK, hd, hnk]
          clear HP
          have hle := geq_less m[k].key o.key
          rw [show less m[k].key o.key = true from hl1.2 (by omega)] at hle
          have heq : (m[k].key.toList == o.key.toList) = false := by rw [beq_eq_false_iff_ne]; intro h; have := hl2.1 h; first | omega | (rw [hh] at this; cases this.2)
          clear hl1 hl2
          obtain ⟨hca, hfa⟩ := bcellB hbl
          have j0a := (hca w.heap.size 0 (by omega)).trans t0
          have j2a := (hca w.heap.size 2 (by omega)).trans t2
          have e0a := (hca b (off + k * 2) (by omega)).trans E0
          have e1a := (hca b (off + k * 2 + 1) (by omega)).trans E1
          clear hca hfa
          clear HM hsh
          try clear hkq
          try clear hh
          try clear hnk
          try clear hnk1
          go_wp2
          go_quiet (fail)
          obtain ⟨wd1, hwd1⟩ : ∃ wd, wd = wr.drewN nq := ⟨_, rfl⟩
          rw [← hwd1]
          have od1 : wd1.ownsRow (w.heap.size + 1) 95 2 u5 (outK m o k).length ((outK m o k).map KV.cells).flatten := by rw [hwd1]; exact ho
          have xd1 : Below (w.heap.size + 1) W wd1 := by rw [hwd1]; exact below_drewN hbl _
          clear hwd1 ho hbl
          obtain ⟨hcd1, hfd1⟩ := bcellB xd1
          have j0d1 := (hcd1 w.heap.size 0 (by omega)).trans t0
          have j2d1 := (hcd1 w.heap.size 2 (by omega)).trans t2
          have e0d1 := (hcd1 b (off + k * 2) (by omega)).trans E0
          have e1d1 := (hcd1 b (off + k * 2 + 1) (by omega)).trans E1
          clear hcd1 hfd1
          clear j0a j2a e0a e1a
          go_wp2
          go_quiet (fail)
          obtain ⟨wd2, hwd2⟩ : ∃ wd, wd = wd1.drewN nq := ⟨_, rfl⟩
          rw [← hwd2]
          have od2 : wd2.ownsRow (w.heap.size + 1) 95 2 u5 (outK m o k).length ((outK m o k).map KV.cells).flatten := by rw [hwd2]; exact od1
          have xd2 : Below (w.heap.size + 1) W wd2 := by rw [hwd2]; exact below_drewN xd1 _
          clear hwd2 od1 xd1
          obtain ⟨hcd2, hfd2⟩ := bcellB xd2
          have j0d2 := (hcd2 w.heap.size 0 (by omega)).trans t0
          have j2d2 := (hcd2 w.heap.size 2 (by omega)).trans t2
          have e0d2 := (hcd2 b (off + k * 2) (by omega)).trans E0
          have e1d2 := (hcd2 b (off + k * 2 + 1) (by omega)).trans E1
          clear hcd2 hfd2
          go_wp2_with (at_builtin; go_loud (refine app_new rfl rfl Try.underlying44 info_KV rfl (by decide) od2 rfl 1 (by simp [Act.eval]) rfl (by simp [Value.oneCell']) (by omega) xd2 (Nat.le_refl _) (by have := Below.size xd2; omega) ?_; intro v6 w6 r6 x6 g6))
          go_roundw
          case rel => exact ⟨k + 1, true, by omega, by go_num, rfl, HQ, by rw [HL.out]; simpa [KV.cells] using r6, x6⟩
          case measure => simp [intOf]; omega
      · have hnk : ¬ posK m o.key < k := by omega
        have hnk1 : posK m o.key < k + 1 := by omega
        rcases hh : hitK m o.key k with _ | _
        · rcases hd : o.del with _ | _
          · have HL := Lib.hid (show outK m o (k + 1) = outK m o k ++ [⟨o.key, o.val⟩] ++ [m[k]] from by rw [outK_at_miss hlt hkq hh, newK_put hd])
            have HQ := Lib.hid (show true = putK m o (k + 1) from by simp [putK, hnk1])
            obtain rfl : pb = false := by rw [HP.out]; simp [putK, hd, hnk]
            clear HP
            have hle := geq_less m[k].key o.key
            rw [show less m[k].key o.key = false from by rw [Bool.eq_false_iff]; intro h; have := hl1.1 h; omega] at hle
            have heq : (m[k].key.toList == o.key.toList) = false := by rw [beq_eq_false_iff_ne]; intro h; have := hl2.1 h; first | omega | (rw [hh] at this; cases this.2)
            clear hl1 hl2
            obtain ⟨hca, hfa⟩ := bcellB hbl
            have j0a := (hca w.heap.size 0 (by omega)).trans t0
            have j2a := (hca w.heap.size 2 (by omega)).trans t2
            have e0a := (hca b (off + k * 2) (by omega)).trans E0
            have e1a := (hca b (off + k * 2 + 1) (by omega)).trans E1
            clear hca hfa
            clear HM hsh
            try clear hkq
            try clear hh
            try clear hnk
            try clear hnk1
            go_wp2
            go_quiet (fail)
            obtain ⟨wd1, hwd1⟩ : ∃ wd, wd = wr.drewN nq := ⟨_, rfl⟩
            rw [← hwd1]
            have od1 : wd1.ownsRow (w.heap.size + 1) 95 2 u5 (outK m o k).length ((outK m o k).map KV.cells).flatten := by rw [hwd1]; exact ho
            have xd1 : Below (w.heap.size + 1) W wd1 := by rw [hwd1]; exact below_drewN hbl _
            clear hwd1 ho hbl
            obtain ⟨hcd1, hfd1⟩ := bcellB xd1
            have j0d1 := (hcd1 w.heap.size 0 (by omega)).trans t0
            have j2d1 := (hcd1 w.heap.size 2 (by omega)).trans t2
            have e0d1 := (hcd1 b (off + k * 2) (by omega)).trans E0
            have e1d1 := (hcd1 b (off + k * 2 + 1) (by omega)).trans E1
            clear hcd1 hfd1
            clear j0a j2a e0a e1a
            go_upto_region 9 with (at_builtin; go_loud (refine app_new rfl rfl Try.underlying44 info_KV rfl (by decide) od1 rfl 1 (by simp [Act.eval]) rfl (by simp [Value.oneCell']) (by omega) xd1 (Nat.le_refl _) (by have := Below.size xd1; omega) ?_; intro v4 w4 r4 x4 g4))
            clear j0d1 j2d1 e0d1 e1d1
            obtain ⟨hcb, hfb⟩ := bcellB x4
            have j0b := (hcb w.heap.size 0 (by omega)).trans t0
            have j2b := (hcb w.heap.size 2 (by omega)).trans t2
            have e0b := (hcb b (off + k * 2) (by omega)).trans E0
            have e1b := (hcb b (off + k * 2 + 1) (by omega)).trans E1
            clear hcb hfb
            go_wp2
            go_quiet (fail)
            obtain ⟨wd2, hwd2⟩ : ∃ wd, wd = w4.drewN nq := ⟨_, rfl⟩
            rw [← hwd2]
            have od2 : wd2.ownsRow (w.heap.size + 1) 95 2 v4 ((outK m o k).length + 1) (((outK m o k).map KV.cells).flatten ++ [.string o.key, .string o.val]) := by rw [hwd2]; exact r4
            have xd2 : Below (w.heap.size + 1) W wd2 := by rw [hwd2]; exact below_drewN x4 _
            clear hwd2 r4 x4
            obtain ⟨hcd2, hfd2⟩ := bcellB xd2
            have j0d2 := (hcd2 w.heap.size 0 (by omega)).trans t0
            have j2d2 := (hcd2 w.heap.size 2 (by omega)).trans t2
            have e0d2 := (hcd2 b (off + k * 2) (by omega)).trans E0
            have e1d2 := (hcd2 b (off + k * 2 + 1) (by omega)).trans E1
            clear hcd2 hfd2
            go_wp2_with (at_builtin; go_loud (refine app_new rfl rfl Try.underlying44 info_KV rfl (by decide) od2 rfl 1 (by simp [Act.eval]) rfl (by simp [Value.oneCell']) (by omega) xd2 (Nat.le_refl _) (by have := Below.size xd2; omega) ?_; intro v6 w6 r6 x6 g6))
            go_roundw
            case rel => exact ⟨k + 1, true, by omega, by go_num, rfl, HQ, by rw [HL.out]; simpa [KV.cells] using r6, x6⟩
            case measure => simp [intOf]; omega
          · have HL := Lib.hid (show outK m o (k + 1) = outK m o k ++ [m[k]] from by rw [outK_at_miss hlt hkq hh, newK_del hd, List.append_nil])
            have HQ := Lib.hid (show true = putK m o (k + 1) from by simp [putK, hd])
            obtain rfl : pb = true := by rw [HP.out]; simp [putK, hd, hnk]
            clear HP
            have hle := geq_less m[k].key o.key
            rw [show less m[k].key o.key = false from by rw [Bool.eq_false_iff]; intro h; have := hl1.1 h; omega] at hle
            have heq : (m[k].key.toList == o.key.toList) = false := by rw [beq_eq_false_iff_ne]; intro h; have := hl2.1 h; first | omega | (rw [hh] at this; cases this.2)
            clear hl1 hl2
            obtain ⟨hca, hfa⟩ := bcellB hbl
            have j0a := (hca w.heap.size 0 (by omega)).trans t0
            have j2a := (hca w.heap.size 2 (by omega)).trans t2
            have e0a := (hca b (off + k * 2) (by omega)).trans E0
            have e1a := (hca b (off + k * 2 + 1) (by omega)).trans E1
            clear hca hfa
            clear HM hsh
            try clear hkq
            try clear hh
            try clear hnk
            try clear hnk1
            go_wp2
            go_quiet (fail)
            obtain ⟨wd1, hwd1⟩ : ∃ wd, wd = wr.drewN nq := ⟨_, rfl⟩
            rw [← hwd1]
            have od1 : wd1.ownsRow (w.heap.size + 1) 95 2 u5 (outK m o k).length ((outK m o k).map KV.cells).flatten := by rw [hwd1]; exact ho
            have xd1 : Below (w.heap.size + 1) W wd1 := by rw [hwd1]; exact below_drewN hbl _
            clear hwd1 ho hbl
            obtain ⟨hcd1, hfd1⟩ := bcellB xd1
            have j0d1 := (hcd1 w.heap.size 0 (by omega)).trans t0
            have j2d1 := (hcd1 w.heap.size 2 (by omega)).trans t2
            have e0d1 := (hcd1 b (off + k * 2) (by omega)).trans E0
            have e1d1 := (hcd1 b (off + k * 2 + 1) (by omega)).trans E1
            clear hcd1 hfd1
            clear j0a j2a e0a e1a
            go_wp2
            go_quiet (fail)
            obtain ⟨wd2, hwd2⟩ : ∃ wd, wd = wd1.drewN nq := ⟨_, rfl⟩
            rw [← hwd2]
            have od2 : wd2.ownsRow (w.heap.size + 1) 95 2 u5 (outK m o k).length ((outK m o k).map KV.cells).flatten := by rw [hwd2]; exact od1
            have xd2 : Below (w.heap.size + 1) W wd2 := by rw [hwd2]; exact below_drewN xd1 _
            clear hwd2 od1 xd1
            obtain ⟨hcd2, hfd2⟩ := bcellB xd2
            have j0d2 := (hcd2 w.heap.size 0 (by omega)).trans t0
            have j2d2 := (hcd2 w.heap.size 2 (by omega)).trans t2
            have e0d2 := (hcd2 b (off + k * 2) (by omega)).trans E0
            have e1d2 := (hcd2 b (off + k * 2 + 1) (by omega)).trans E1
            clear hcd2 hfd2
            go_wp2_with (at_builtin; go_loud (refine app_new rfl rfl Try.underlying44 info_KV rfl (by decide) od2 rfl 1 (by simp [Act.eval]) rfl (by simp [Value.oneCell']) (by omega) xd2 (Nat.le_refl _) (by have := Below.size xd2; omega) ?_; intro v6 w6 r6 x6 g6))
            go_roundw
            case rel => exact ⟨k + 1, true, by omega, by go_num, rfl, HQ, by rw [HL.out]; simpa [KV.cells] using r6, x6⟩
            case measure => simp [intOf]; omega
        · rcases hd : o.del with _ | _
          · have HL := Lib.hid (show outK m o (k + 1) = outK m o k ++ [⟨o.key, o.val⟩] from by rw [outK_at_hit hlt hkq hh, newK_put hd])
            have HQ := Lib.hid (show true = putK m o (k + 1) from by simp [putK, hnk1])
            obtain rfl : pb = false := by rw [HP.out]; simp [putK, hd, hnk]
            clear HP
            have hle := geq_less m[k].key o.key
            rw [show less m[k].key o.key = false from by rw [Bool.eq_false_iff]; intro h; have := hl1.1 h; omega] at hle
            have heq : (m[k].key.toList == o.key.toList) = true := by rw [beq_iff_eq]; exact hl2.2 ⟨hkq, hh⟩
            clear hl1 hl2
            obtain ⟨hca, hfa⟩ := bcellB hbl
            have j0a := (hca w.heap.size 0 (by omega)).trans t0
            have j2a := (hca w.heap.size 2 (by omega)).trans t2
            have e0a := (hca b (off + k * 2) (by omega)).trans E0
            have e1a := (hca b (off + k * 2 + 1) (by omega)).trans E1
            clear hca hfa
            clear HM hsh
            try clear hkq
            try clear hh
            try clear hnk
            try clear hnk1
            go_wp2
            go_quiet (fail)
            obtain ⟨wd1, hwd1⟩ : ∃ wd, wd = wr.drewN nq := ⟨_, rfl⟩
            rw [← hwd1]
            have od1 : wd1.ownsRow (w.heap.size + 1) 95 2 u5 (outK m o k).length ((outK m o k).map KV.cells).flatten := by rw [hwd1]; exact ho
            have xd1 : Below (w.heap.size + 1) W wd1 := by rw [hwd1]; exact below_drewN hbl _
            clear hwd1 ho hbl
            obtain ⟨hcd1, hfd1⟩ := bcellB xd1
            have j0d1 := (hcd1 w.heap.size 0 (by omega)).trans t0
            have j2d1 := (hcd1 w.heap.size 2 (by omega)).trans t2
            have e0d1 := (hcd1 b (off + k * 2) (by omega)).trans E0
            have e1d1 := (hcd1 b (off + k * 2 + 1) (by omega)).trans E1
            clear hcd1 hfd1
            clear j0a j2a e0a e1a
            go_upto_region 9 with (at_builtin; go_loud (refine app_new rfl rfl Try.underlying44 info_KV rfl (by decide) od1 rfl 1 (by simp [Act.eval]) rfl (by simp [Value.oneCell']) (by omega) xd1 (Nat.le_refl _) (by have := Below.size xd1; omega) ?_; intro v4 w4 r4 x4 g4))
            clear j0d1 j2d1 e0d1 e1d1
            obtain ⟨hcb, hfb⟩ := bcellB x4
            have j0b := (hcb w.heap.size 0 (by omega)).trans t0
            have j2b := (hcb w.heap.size 2 (by omega)).trans t2
            have e0b := (hcb b (off + k * 2) (by omega)).trans E0
            have e1b := (hcb b (off + k * 2 + 1) (by omega)).trans E1
            clear hcb hfb
            go_wp2
            go_quiet (fail)
            obtain ⟨wd2, hwd2⟩ : ∃ wd, wd = w4.drewN nq := ⟨_, rfl⟩
            rw [← hwd2]
            have od2 : wd2.ownsRow (w.heap.size + 1) 95 2 v4 ((outK m o k).length + 1) (((outK m o k).map KV.cells).flatten ++ [.string o.key, .string o.val]) := by rw [hwd2]; exact r4
            have xd2 : Below (w.heap.size + 1) W wd2 := by rw [hwd2]; exact below_drewN x4 _
            clear hwd2 r4 x4
            obtain ⟨hcd2, hfd2⟩ := bcellB xd2
            have j0d2 := (hcd2 w.heap.size 0 (by omega)).trans t0
            have j2d2 := (hcd2 w.heap.size 2 (by omega)).trans t2
            have e0d2 := (hcd2 b (off + k * 2) (by omega)).trans E0
            have e1d2 := (hcd2 b (off + k * 2 + 1) (by omega)).trans E1
            clear hcd2 hfd2
            go_wp2
            go_roundw
            case rel => exact ⟨k + 1, true, by omega, by go_num, rfl, HQ, by rw [HL.out]; simpa [KV.cells] using od2, xd2⟩
            case measure => simp [intOf]; omega
          · have HL := Lib.hid (show outK m o (k + 1) = outK m o k from by rw [outK_at_hit hlt hkq hh, newK_del hd, List.append_nil])
            have HQ := Lib.hid (show true = putK m o (k + 1) from by simp [putK, hd])
            obtain rfl : pb = true := by rw [HP.out]; simp [putK, hd, hnk]
            clear HP
            have hle := geq_less m[k].key o.key
            rw [show less m[k].key o.key = false from by rw [Bool.eq_false_iff]; intro h; have := hl1.1 h; omega] at hle
            have heq : (m[k].key.toList == o.key.toList) = true := by rw [beq_iff_eq]; exact hl2.2 ⟨hkq, hh⟩
            clear hl1 hl2
            obtain ⟨hca, hfa⟩ := bcellB hbl
            have j0a := (hca w.heap.size 0 (by omega)).trans t0
            have j2a := (hca w.heap.size 2 (by omega)).trans t2
            have e0a := (hca b (off + k * 2) (by omega)).trans E0
            have e1a := (hca b (off + k * 2 + 1) (by omega)).trans E1
            clear hca hfa
            clear HM hsh
            try clear hkq
            try clear hh
            try clear hnk
            try clear hnk1
            go_wp2
            go_quiet (fail)
            obtain ⟨wd1, hwd1⟩ : ∃ wd, wd = wr.drewN nq := ⟨_, rfl⟩
            rw [← hwd1]
            have od1 : wd1.ownsRow (w.heap.size + 1) 95 2 u5 (outK m o k).length ((outK m o k).map KV.cells).flatten := by rw [hwd1]; exact ho
            have xd1 : Below (w.heap.size + 1) W wd1 := by rw [hwd1]; exact below_drewN hbl _
            clear hwd1 ho hbl
            obtain ⟨hcd1, hfd1⟩ := bcellB xd1
            have j0d1 := (hcd1 w.heap.size 0 (by omega)).trans t0
            have j2d1 := (hcd1 w.heap.size 2 (by omega)).trans t2
            have e0d1 := (hcd1 b (off + k * 2) (by omega)).trans E0
            have e1d1 := (hcd1 b (off + k * 2 + 1) (by omega)).trans E1
            clear hcd1 hfd1
            clear j0a j2a e0a e1a
            go_wp2
            go_quiet (fail)
            obtain ⟨wd2, hwd2⟩ : ∃ wd, wd = wd1.drewN nq := ⟨_, rfl⟩
            rw [← hwd2]
            have od2 : wd2.ownsRow (w.heap.size + 1) 95 2 u5 (outK m o k).length ((outK m o k).map KV.cells).flatten := by rw [hwd2]; exact od1
            have xd2 : Below (w.heap.size + 1) W wd2 := by rw [hwd2]; exact below_drewN xd1 _
            clear hwd2 od1 xd1
            obtain ⟨hcd2, hfd2⟩ := bcellB xd2
            have j0d2 := (hcd2 w.heap.size 0 (by omega)).trans t0
            have j2d2 := (hcd2 w.heap.size 2 (by omega)).trans t2
            have e0d2 := (hcd2 b (off + k * 2) (by omega)).trans E0
            have e1d2 := (hcd2 b (off + k * 2 + 1) (by omega)).trans E1
            clear hcd2 hfd2
            go_wp2
            go_roundw
            case rel => exact ⟨k + 1, true, by omega, by go_num, rfl, HQ, by rw [HL.out]; simpa [KV.cells] using od2, xd2⟩
            case measure => simp [intOf]; omega
      · have hnk1 : posK m o.key < k + 1 := by omega
        have HL := Lib.hid (show outK m o (k + 1) = outK m o k ++ [m[k]] from outK_hi hlt hkq)
        have HQ := Lib.hid (show true = putK m o (k + 1) from by simp [putK, hnk1])
        obtain rfl : pb = true := by rw [HP.out]; simp [putK, hkq]
        clear HP
        have hle := geq_less m[k].key o.key
        rw [show less m[k].key o.key = false from by rw [Bool.eq_false_iff]; intro h; have := hl1.1 h; omega] at hle
        have heq : (m[k].key.toList == o.key.toList) = false := by rw [beq_eq_false_iff_ne]; intro h; have := hl2.1 h; first | omega | (rw [hh] at this; cases this.2)
        clear hl1 hl2
        obtain ⟨hca, hfa⟩ := bcellB hbl
        have j0a := (hca w.heap.size 0 (by omega)).trans t0
        have j2a := (hca w.heap.size 2 (by omega)).trans t2
        have e0a := (hca b (off + k * 2) (by omega)).trans E0
        have e1a := (hca b (off + k * 2 + 1) (by omega)).trans E1
        clear hca hfa
        clear HM hsh
        try clear hkq
        try clear hh
        try clear hnk
        try clear hnk1
        go_wp2
        go_quiet (fail)
        obtain ⟨wd1, hwd1⟩ : ∃ wd, wd = wr.drewN nq := ⟨_, rfl⟩
        rw [← hwd1]
        have od1 : wd1.ownsRow (w.heap.size + 1) 95 2 u5 (outK m o k).length ((outK m o k).map KV.cells).flatten := by rw [hwd1]; exact ho
        have xd1 : Below (w.heap.size + 1) W wd1 := by rw [hwd1]; exact below_drewN hbl _
        clear hwd1 ho hbl
        obtain ⟨hcd1, hfd1⟩ := bcellB xd1
        have j0d1 := (hcd1 w.heap.size 0 (by omega)).trans t0
        have j2d1 := (hcd1 w.heap.size 2 (by omega)).trans t2
        have e0d1 := (hcd1 b (off + k * 2) (by omega)).trans E0
        have e1d1 := (hcd1 b (off + k * 2 + 1) (by omega)).trans E1
        clear hcd1 hfd1
        clear j0a j2a e0a e1a
        go_wp2
        go_quiet (fail)
        obtain ⟨wd2, hwd2⟩ : ∃ wd, wd = wd1.drewN nq := ⟨_, rfl⟩
        rw [← hwd2]
        have od2 : wd2.ownsRow (w.heap.size + 1) 95 2 u5 (outK m o k).length ((outK m o k).map KV.cells).flatten := by rw [hwd2]; exact od1
        have xd2 : Below (w.heap.size + 1) W wd2 := by rw [hwd2]; exact below_drewN xd1 _
        clear hwd2 od1 xd1
        obtain ⟨hcd2, hfd2⟩ := bcellB xd2
        have j0d2 := (hcd2 w.heap.size 0 (by omega)).trans t0
        have j2d2 := (hcd2 w.heap.size 2 (by omega)).trans t2
        have e0d2 := (hcd2 b (off + k * 2) (by omega)).trans E0
        have e1d2 := (hcd2 b (off + k * 2 + 1) (by omega)).trans E1
        clear hcd2 hfd2
        go_wp2_with (at_builtin; go_loud (refine app_new rfl rfl Try.underlying44 info_KV rfl (by decide) od2 rfl 1 (by simp [Act.eval]) rfl (by simp [Value.oneCell']) (by omega) xd2 (Nat.le_refl _) (by have := Below.size xd2; omega) ?_; intro v6 w6 r6 x6 g6))
        go_roundw
        case rel => exact ⟨k + 1, true, by omega, by go_num, rfl, HQ, by rw [HL.out]; simpa [KV.cells] using r6, x6⟩
        case measure => simp [intOf]; omega
    · obtain rfl : k = m.length := by omega
      have hlen := outK_le m o m.length
      clear hsh
      rcases hp : putK m o m.length with _ | _
      · have HL := Lib.hid (outK_last m o hp)
        obtain rfl : pb = false := by rw [HP.out, hp]
        clear HP hp
        obtain ⟨hc, hf⟩ := bcellB hbl
        have j0 := (hc w.heap.size 0 (by omega)).trans t0
        have j2 := (hc w.heap.size 2 (by omega)).trans t2
        clear hc hf
        go_wp2_with (at_builtin; go_loud (refine app_new rfl rfl Try.underlying44 info_KV rfl (by decide) ho rfl 1 (by simp [Act.eval]) rfl (by simp [Value.oneCell']) (by omega) hbl (Nat.le_refl _) (by have := Below.size hbl; omega) ?_; intro v4 w4 r4 x4 g4))

        go_wp2
        go_ret
        exact ⟨_, rfl, by rw [← HL.out]; exact Row.up (by simpa [KV.cells] using r4) (by simp) (Nat.le_succ _), hal.trans (x4.mono (Nat.le_succ _))⟩
      · have HL := Lib.hid (outK_end m o hp)
        obtain rfl : pb = true := by rw [HP.out, hp]
        clear HP hp
        go_wp2
        go_ret
        exact ⟨_, rfl, by rw [← HL.out]; exact Row.up ho rfl (Nat.le_succ _), hal.trans (hbl.mono (Nat.le_succ _))⟩
end Go.Proofs.Ytajjefpopjdfaaa

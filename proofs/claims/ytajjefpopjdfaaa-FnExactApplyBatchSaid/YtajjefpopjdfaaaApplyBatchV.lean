/- Walk: the law of ApplyBatch. -/
import Derived.Test.YtajjefpopjdfaaaApyJ
import Derived.Test.YtajjefpopjdfaaaApyT
import Derived.Test.YtajjefpopjdfaaaKKVA
import Derived.Test.YtajjefpopjdfaaaKOpA
import Derived.Test.YtajjefpopjdfaaaKKVR
import Derived.Test.YtajjefpopjdfaaaKOpR
import Derived.Deep.RegionWith
import Derived.Deep.RegionHeld
import Derived.Lib.Hide
set_option linter.unusedVariables false
set_option linter.unusedSimpArgs false
namespace Go.Proofs.Ytajjefpopjdfaaa
open Go.RowKit Sp Go.Sort

namespace Sp
theorem sum_len : ∀ {l : List KV}, (∀ x ∈ l, 1 ≤ KV.sz x) → (l.length : Int) ≤ sumSz KV.sz l
  | [], _ => by simp [sumSz]
  | x :: l, h => by
    have h1 := h x (by simp)
    have h2 := sum_len (l := l) (fun y hy => h y (by simp [hy]))
    unfold sumSz at h2 ⊢
    simp only [List.map_cons, List.sum_cons, List.length_cons]
    omega
theorem map_sz {l : List KV} (h : mapB l = true) : (l.length : Int) ≤ sumSz KV.sz l := by
  refine sum_len fun x hx => ?_
  have := (mapB_P h).1 x hx
  simp only [kvB, keyB, Bool.and_eq_true, inB_iff] at this
  unfold KV.sz
  omega
theorem applyL_bd (m : List KV) (l : List OpR) (h : (m.length : Int) ≤ 1048576) (hq : mapB m = true → (m.length : Int) ≤ 1048000) : ((applyL m l).length : Int) ≤ 1048576 := by
  unfold applyL
  split
  · rename_i hm
    have := hq hm
    split
    · rename_i hb
      have h6 := (batch_all hb).1
      have := puts_len m l
      omega
    · exact h
  · simp
end Sp

set_option maxRecDepth 100000 in
set_option maxHeartbeats 1600000 in
theorem walkFnExactApplyBatch (w : World) (v0 : Value) (l0 : List KV) (h0 : SlT KV.cells 2 w v0 l0) (hok0 : ∀ x ∈ l0, x.ok) (v1 : Value) (l1 : List OpR) (h1 : SlT OpR.cells 3 w v1 l1) (hok1 : ∀ x ∈ l1, x.ok) :
    Calls Try.prog 8 #[v0, v1] w fun e w' => e = .returned (.bool true) ∧ Below w.heap.size w w' := by
  have hal : ∀ (W : World) (o : Obj), RowKit.Below W.heap.size W (W.alloc o) := fun W o => (Below.refl _ _).alloc (Nat.le_refl _) _
  have hnn0 := sumSz_nonneg KV.sz_nonneg l0
  obtain ⟨ad0, cap0, hq0, _, _, _⟩ := h0.shape
  subst hq0
  have hnn1 := sumSz_nonneg OpR.sz_nonneg l1
  obtain ⟨ad1, cap1, hq1, _, _, _⟩ := h1.shape
  subst hq1
  by_cases hp0 : (1048576 : Int) - ((l0.length : Int) + sumSz KV.sz l0) < 0
  · have hd := dec_neg hp0
    go_enter Try.func8, Try.ntmps8
    go_wp2_with (go_at_call 28; refine (szKVS_any _ l0 hok0 _ _ (h0.below (Below.refl w.heap.size w)) (by omega) (by omega)).mono ?_; rintro e w0 ⟨rfl, b0⟩; have c0 := Below.trans (Below.refl w.heap.size w) (b0.mono (Below.size (Below.refl w.heap.size w))); rw [hd])
    go_ret
    exact ⟨rfl, c0⟩
  have hd_0 := dec_pos hp0
  have he_0 : decide ((1048576 : Int) - ((l0.length : Int) + sumSz KV.sz l0) < 0) = false := decide_eq_false hp0
  by_cases hp1 : (1048576 : Int) - ((l0.length : Int) + sumSz KV.sz l0) - ((l1.length : Int) + sumSz OpR.sz l1) < 0
  · have hd := dec_neg hp1
    go_enter Try.func8, Try.ntmps8
    go_wp2_with (go_at_call 28; refine (szKVS_any _ l0 hok0 _ _ (h0.below (Below.refl w.heap.size w)) (by omega) (by omega)).mono ?_; rintro e w0 ⟨rfl, b0⟩; have c0 := Below.trans (Below.refl w.heap.size w) (b0.mono (Below.size (Below.refl w.heap.size w))); rw [hd_0])
    go_wp2_with (go_at_call 10; refine (szOpS_any _ l1 hok1 _ _ (h1.below c0) (by omega) (by omega)).mono ?_; rintro e w1 ⟨rfl, b1⟩; have c1 := Below.trans c0 (b1.mono (Below.size c0)); rw [hd])
    go_ret
    exact ⟨rfl, c1⟩
  have hd_1 := dec_pos hp1
  have he_1 : decide ((1048576 : Int) - ((l0.length : Int) + sumSz KV.sz l0) - ((l1.length : Int) + sumSz OpR.sz l1) < 0) = false := decide_eq_false hp1
  have L0 : (l0.length : Int) ≤ 1048576 := by omega
  have L1 : (l1.length : Int) ≤ 1048576 := by omega
  have hq0 : mapB l0 = true → (l0.length : Int) ≤ 1048000 := fun h => by have := map_sz h; have := hnn1; omega
  have r0 : ((applyL l0 l1).length : Int) ≤ 1048576 := by exact applyL_bd l0 l1 L0 hq0
  go_enter Try.func8, Try.ntmps8
  go_wp2_with (go_at_call 28; refine (szKVS_any _ l0 hok0 _ _ (h0.below (Below.refl w.heap.size w)) (by omega) (by omega)).mono ?_; rintro e w1 ⟨rfl, b1⟩; have c1 := Below.trans (Below.refl w.heap.size w) (b1.mono (Below.size (Below.refl w.heap.size w))); have z1 := b1.size; rw [hd_0])
  go_wp2_with (go_at_call 10; refine (szOpS_any _ l1 hok1 _ _ (h1.below c1) (by omega) (by omega)).mono ?_; rintro e w2 ⟨rfl, b2⟩; have c2 := Below.trans c1 (b2.mono (Below.size c1)); have z2 := b2.size; rw [hd_1])
  go_wp2_with (go_at_call 30; refine (toKVS_any _ l0 _ (h0.below c2) L0).mono ?_; rintro e w3 ⟨gp0, rfl, op0, b3⟩; have c3 := Below.trans c2 (b3.mono (Below.size c2)); have z3 := b3.size; have p0_3 := (Row.of_own op0 rfl))
  go_wp2_with (go_at_call 12; refine (toOpS_any _ l1 _ (h1.below c3) L1).mono ?_; rintro e w4 ⟨gp1, rfl, op1, b4⟩; have c4 := Below.trans c3 (b4.mono (Below.size c3)); have z4 := b4.size; have p0_4 := p0_3.below b4; have p1_4 := (Row.of_own op1 rfl))
  go_wp2_with (go_at_call 29; refine (specApplyBatch ⟨gp0, 0, none⟩ l0.length l0 ⟨gp1, 0, none⟩ l1.length l1 _ (p0_4.slT (fun _ => rfl) (by decide)) (p1_4.slT (fun _ => rfl) (by decide)) L0 L1 hq0).mono ?_; rintro e w5 ⟨vu, rfl, Ru, b5⟩; have c5 := Below.trans c4 (b5.mono (Below.size c4)); have z5 := b5.size; have p0_5 := p0_4.below b5; have p1_5 := p1_4.below b5; have ux := Ru; obtain ⟨aou, cpu, hqu, _⟩ := Ru.shape; subst hqu; clear Ru)
  go_wp2_with (go_at_call 30; refine (toKVS_any _ l0 _ (h0.below c5) L0).mono ?_; rintro e w6 ⟨gx0, rfl, ox0, b6⟩; have c6 := Below.trans c5 (b6.mono (Below.size c5)); have z6 := b6.size; have cu6 := Below.trans (Below.refl w5.heap.size w5) (b6.mono (Below.size (Below.refl w5.heap.size w5))); have x0_6 := (Row.of_own ox0 rfl))
  go_wp2_with (go_at_call 12; refine (toOpS_any _ l1 _ (h1.below c6) L1).mono ?_; rintro e w7 ⟨gx1, rfl, ox1, b7⟩; have c7 := Below.trans c6 (b7.mono (Below.size c6)); have z7 := b7.size; have cu7 := Below.trans cu6 (b7.mono (Below.size cu6)); have x0_7 := x0_6.below b7; have x1_7 := (Row.of_own ox1 rfl))
  go_wp2_with (go_at_call 31; refine (implApplyBatch ⟨gx0, 0, none⟩ l0.length l0 ⟨gx1, 0, none⟩ l1.length l1 _ (x0_7.slT (fun _ => rfl) (by decide)) (x1_7.slT (fun _ => rfl) (by decide)) L0 L1 hq0).mono ?_; rintro e w8 ⟨vg, rfl, Rg, b8⟩; have c8 := Below.trans c7 (b8.mono (Below.size c7)); have z8 := b8.size; have cu8 := Below.trans cu7 (b8.mono (Below.size cu7)); have x0_8 := x0_7.below b8; have x1_8 := x1_7.below b8; have g_8 := Rg; obtain ⟨aog, cpg, hqg⟩ := Rg.form; subst hqg)
  go_wp2_with (go_at_call 32; refine (eqKVS_any _ _ _ _ (g_8.slT (fun _ => rfl) (by decide)) (ux.below cu8) r0).mono ?_; rintro e w9 ⟨rfl, b9⟩; have c9 := Below.trans c8 (b9.mono (Below.size c8)); have z9 := b9.size; have cu9 := Below.trans cu8 (b9.mono (Below.size cu8)); have x0_9 := x0_8.below b9; have x1_9 := x1_8.below b9; have g_9 := g_8.below b9)
  go_wp2_with (go_at_call 30; refine (toKVS_any _ l0 _ (h0.below c9) L0).mono ?_; rintro e w10 ⟨gq0, rfl, oq0, b10⟩; have c10 := Below.trans c9 (b10.mono (Below.size c9)); have z10 := b10.size; have cu10 := Below.trans cu9 (b10.mono (Below.size cu9)); have x0_10 := x0_9.below b10; have x1_10 := x1_9.below b10; have g_10 := g_9.below b10; have q0_10 := (Row.of_own oq0 rfl))
  go_wp2_with (go_at_call 32; refine (eqKVS_any _ _ _ _ (x0_10.slT (fun _ => rfl) (by decide)) (q0_10.slT (fun _ => rfl) (by decide)) L0).mono ?_; rintro e w11 ⟨rfl, b11⟩; have c11 := Below.trans c10 (b11.mono (Below.size c10)); have z11 := b11.size; have cu11 := Below.trans cu10 (b11.mono (Below.size cu10)); have x0_11 := x0_10.below b11; have x1_11 := x1_10.below b11; have g_11 := g_10.below b11; have q0_11 := q0_10.below b11)
  go_wp2_with (go_at_call 12; refine (toOpS_any _ l1 _ (h1.below c11) L1).mono ?_; rintro e w12 ⟨gq1, rfl, oq1, b12⟩; have c12 := Below.trans c11 (b12.mono (Below.size c11)); have z12 := b12.size; have cu12 := Below.trans cu11 (b12.mono (Below.size cu11)); have x0_12 := x0_11.below b12; have x1_12 := x1_11.below b12; have g_12 := g_11.below b12; have q1_12 := (Row.of_own oq1 rfl))
  go_wp2_with (go_at_call 14; refine (eqOpS_any _ _ _ _ (x1_12.slT (fun _ => rfl) (by decide)) (q1_12.slT (fun _ => rfl) (by decide)) L1).mono ?_; rintro e w13 ⟨rfl, b13⟩; have c13 := Below.trans c12 (b13.mono (Below.size c12)); have z13 := b13.size; have cu13 := Below.trans cu12 (b13.mono (Below.size cu12)); have x0_13 := x0_12.below b13; have x1_13 := x1_12.below b13; have g_13 := g_12.below b13; have q1_13 := q1_12.below b13)
  go_wp2_with (go_at_call 33; refine (markKVS_rowi _ l0 _ (1) (by first | rfl | omega) _ _ _ x0_13 (by omega) (by omega)).mono ?_; rintro e w14 ⟨rfl, x0_14, t14⟩; have c14 : RowKit.Below w.heap.size w w14 := Below.trans c13 (t14.below (by omega) (by omega)); have z14 := t14.size; have cu14 := Below.trans cu13 (t14.below (by omega) (Below.size cu13)); have x1_14 := x1_13.kept t14 (by omega); have g_14 := g_13.kept t14 (by omega))
  go_wp2_with (go_at_call 24; refine (markOpS_rowi _ l1 _ (1 + 2 * l0.length) (by first | rfl | omega) _ _ _ x1_14 (by omega) (by omega)).mono ?_; rintro e w15 ⟨rfl, x1_15, t15⟩; have c15 : RowKit.Below w.heap.size w w15 := Below.trans c14 (t15.below (by omega) (by omega)); have z15 := t15.size; have cu15 := Below.trans cu14 (t15.below (by omega) (Below.size cu14)); have x0_15 := x0_14.kept t15 (by omega); have g_15 := g_14.kept t15 (by omega))
  go_wp2_with (go_at_call 32; refine (eqKVS_any _ _ _ _ (g_15.slT (fun _ => rfl) (by decide)) (ux.below cu15) r0).mono ?_; rintro e w16 ⟨rfl, b16⟩; have c16 := Below.trans c15 (b16.mono (Below.size c15)); have z16 := b16.size; have cu16 := Below.trans cu15 (b16.mono (Below.size cu15)); have x0_16 := x0_15.below b16; have x1_16 := x1_15.below b16; have g_16 := g_15.below b16)
  go_wp2_with (go_at_call 33; refine (markKVS_rowi _ _ _ 1 (by rfl) _ _ _ g_16 (by omega) (by omega)).mono ?_; rintro e w17 ⟨rfl, g_17, t17⟩; have c17 : RowKit.Below w.heap.size w w17 := Below.trans c16 (t17.below (by omega) (by omega)); have z17 := t17.size; have cu17 := Below.trans cu16 (t17.below (by omega) (Below.size cu16)))
  go_wp2_with (go_at_call 34; refine (heldKVS_rowi _ _ 1 _ (by rfl) _ _ _ g_17 (by omega) (by omega)).mono ?_; rintro e w18 ⟨rfl, b18⟩; have c18 := Below.trans c17 (b18.mono (Below.size c17)); have z18 := b18.size; have cu18 := Below.trans cu17 (b18.mono (Below.size cu17)); have g_18 := g_17.below b18)
  go_wp2_with (go_at_call 30; refine (toKVS_any _ l0 _ (h0.below c18) L0).mono ?_; rintro e w19 ⟨gp0, rfl, op0, b19⟩; have c19 := Below.trans c18 (b19.mono (Below.size c18)); have z19 := b19.size; have cu19 := Below.trans cu18 (b19.mono (Below.size cu18)); have g_19 := g_18.below b19; have p0_19 := (Row.of_own op0 rfl))
  go_wp2_with (go_at_call 12; refine (toOpS_any _ l1 _ (h1.below c19) L1).mono ?_; rintro e w20 ⟨gp1, rfl, op1, b20⟩; have c20 := Below.trans c19 (b20.mono (Below.size c19)); have z20 := b20.size; have cu20 := Below.trans cu19 (b20.mono (Below.size cu19)); have g_20 := g_19.below b20; have p0_20 := p0_19.below b20; have p1_20 := (Row.of_own op1 rfl))
  go_wp2_with (go_at_call 31; refine (implApplyBatch ⟨gp0, 0, none⟩ l0.length l0 ⟨gp1, 0, none⟩ l1.length l1 _ (p0_20.slT (fun _ => rfl) (by decide)) (p1_20.slT (fun _ => rfl) (by decide)) L0 L1 hq0).mono ?_; rintro e w21 ⟨vh, rfl, Rh, b21⟩; have c21 := Below.trans c20 (b21.mono (Below.size c20)); have z21 := b21.size; have cu21 := Below.trans cu20 (b21.mono (Below.size cu20)); have g_21 := g_20.below b21; have p0_21 := p0_20.below b21; have p1_21 := p1_20.below b21; have h_21 := Rh; obtain ⟨aoh, cph, hqh⟩ := Rh.form; subst hqh)
  go_wp2_with (go_at_call 32; refine (eqKVS_any _ _ _ _ (h_21.slT (fun _ => rfl) (by decide)) (ux.below cu21) r0).mono ?_; rintro e w22 ⟨rfl, b22⟩; have c22 := Below.trans c21 (b22.mono (Below.size c21)); have z22 := b22.size; have cu22 := Below.trans cu21 (b22.mono (Below.size cu21)); have g_22 := g_21.below b22; have h_22 := h_21.below b22)
  go_wp2_with (go_at_call 34; refine (heldKVS_rowi _ _ 1 _ (by rfl) _ _ _ g_22 (by omega) (by omega)).mono ?_; rintro e w23 ⟨rfl, b23⟩; have c23 := Below.trans c22 (b23.mono (Below.size c22)); have z23 := b23.size; have cu23 := Below.trans cu22 (b23.mono (Below.size cu22)); have g_23 := g_22.below b23; have h_23 := h_22.below b23)
  go_wp2
  go_ret
  exact ⟨rfl, c23⟩
end Go.Proofs.Ytajjefpopjdfaaa

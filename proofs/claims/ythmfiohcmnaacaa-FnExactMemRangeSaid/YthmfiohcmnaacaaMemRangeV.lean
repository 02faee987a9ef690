/- Walk: the law of MemRange. -/
import Derived.Test.YthmfiohcmnaacaaRngW
import Derived.Test.YthmfiohcmnaacaaKEntR
import Derived.Test.YthmfiohcmnaacaaKKVR
import Derived.Test.YthmfiohcmnaacaaKKVE
import Derived.Deep.RegionWith
import Derived.Lib.Hide
set_option linter.unusedVariables false
set_option linter.unusedSimpArgs false
namespace Go.Proofs.Ythmfiohcmnaacaa
open Go.RowKit Sp Go.Sort

set_option maxRecDepth 100000 in
set_option maxHeartbeats 1600000 in
theorem walkFnExactMemRange (w : World) (v : Value) (l : List EntR) (h : SlT EntR.cells 4 w v l) (hok : ∀ x ∈ l, x.ok) (a1 : ByteArray) (w1 : a1.size ≤ maxLen) (a2 : ByteArray) (w2 : a2.size ≤ maxLen) (a3 : Int) (w3 : (Lit.int .i64 a3).wf = true) :
    Calls Try.prog 6 #[v, .string a1, .string a2, .int .i64 a3] w fun e w' => e = .returned (.bool true) ∧ Below w.heap.size w w' := by
  have hal : ∀ (W : World) (o : Obj), RowKit.Below W.heap.size W (W.alloc o) := fun W o => (Below.refl _ _).alloc (Nat.le_refl _) _
  have hnn := sumSz_nonneg EntR.sz_nonneg l
  obtain ⟨ad, cap, rfl, _, _, _⟩ := h.shape
  by_cases hbig1 : (1048576 : Int) < a1.size
  · go_enter Try.func6, Try.ntmps6
    go_wp2
    go_ret
    exact ⟨rfl, (Below.refl _ _)⟩
  by_cases hbig2 : (1048576 : Int) < a2.size
  · go_enter Try.func6, Try.ntmps6
    go_wp2
    go_ret
    exact ⟨rfl, (Below.refl _ _)⟩
  by_cases hbig : (1048576 : Int) - ((l.length : Int) + sumSz EntR.sz l) < 0
  · have hd := dec_neg hbig
    go_enter Try.func6, Try.ntmps6
    go_wp2_with (go_at_call 15; refine (szEntS_any _ l hok _ _ h (by omega) (by omega)).mono ?_; rintro e w1 ⟨rfl, b1⟩; rw [hd])
    go_ret
    exact ⟨rfl, b1⟩
  have hd := dec_pos hbig
  have hd2 : decide ((1048576 : Int) - ((l.length : Int) + sumSz EntR.sz l) < 0) = false := decide_eq_false hbig
  have l0 : (l.length : Int) ≤ 1048576 := by omega
  have r0 : ((memRange l a1 a2 a3).length : Int) ≤ 1048576 := by have := memMap_len l a3; have := betw_len (memMap l a3) a1 a2; unfold memRange; omega
  go_enter Try.func6, Try.ntmps6
  go_wp2_with (go_at_call 15; refine (szEntS_any _ l hok _ _ h (by omega) (by omega)).mono ?_; rintro e w1 ⟨rfl, b1⟩; have c1 := Below.trans (Below.refl w.heap.size w) (b1.mono (Below.size (Below.refl w.heap.size w))); have z1 := b1.size; rw [hd])
  go_wp2_with (go_at_call 17; refine (toEntS_any _ l _ (h.below c1) l0).mono ?_; rintro e w2 ⟨gp, rfl, op, b2⟩; have c2 := Below.trans c1 (b2.mono (Below.size c1)); have z2 := b2.size; have p2 := (Row.of_own op rfl))
  go_wp2_with (go_at_call 29; refine (specMemRange ⟨gp, 0, none⟩ l.length l a1 a2 a3 _ (p2.slT (fun _ => rfl) (by decide)) l0).mono ?_; rintro e w3 ⟨vu, rfl, Ru, b3⟩; have c3 := Below.trans c2 (b3.mono (Below.size c2)); have z3 := b3.size; have p3 := p2.below b3; have ux := Ru; obtain ⟨aou, cpu, hqu, _⟩ := Ru.shape; subst hqu; clear Ru)
  go_wp2_with (go_at_call 17; refine (toEntS_any _ l _ (h.below c3) l0).mono ?_; rintro e w4 ⟨gx, rfl, ox, b4⟩; have c4 := Below.trans c3 (b4.mono (Below.size c3)); have z4 := b4.size; have cu4 := Below.trans (Below.refl w3.heap.size w3) (b4.mono (Below.size (Below.refl w3.heap.size w3))); have x4 := (Row.of_own ox rfl))
  go_wp2_with (go_at_call 30; refine (implMemRange ⟨gx, 0, none⟩ l.length l a1 a2 a3 _ (x4.slT (fun _ => rfl) (by decide)) l0).mono ?_; rintro e w5 ⟨vg, rfl, Rg, b5⟩; have c5 := Below.trans c4 (b5.mono (Below.size c4)); have z5 := b5.size; have cu5 := Below.trans cu4 (b5.mono (Below.size cu4)); have x5 := x4.below b5; have g5 := Rg; obtain ⟨aog, cpg, hqg⟩ := Rg.form; subst hqg)
  go_wp2_with (go_at_call 25; refine (eqKVS_any _ _ _ _ (g5.slT (fun _ => rfl) (by decide)) (ux.below cu5) r0).mono ?_; rintro e w6 ⟨rfl, b6⟩; have c6 := Below.trans c5 (b6.mono (Below.size c5)); have z6 := b6.size; have cu6 := Below.trans cu5 (b6.mono (Below.size cu5)); have x6 := x5.below b6; have g6 := g5.below b6)
  go_wp2_with (go_at_call 17; refine (toEntS_any _ l _ (h.below c6) l0).mono ?_; rintro e w7 ⟨gt, rfl, ot, b7⟩; have c7 := Below.trans c6 (b7.mono (Below.size c6)); have z7 := b7.size; have cu7 := Below.trans cu6 (b7.mono (Below.size cu6)); have x7 := x6.below b7; have g7 := g6.below b7; have q7 := (Row.of_own ot rfl))
  go_wp2_with (go_at_call 19; refine (eqEntS_any _ _ _ _ (x7.slT (fun _ => rfl) (by decide)) (q7.slT (fun _ => rfl) (by decide)) l0).mono ?_; rintro e w8 ⟨rfl, b8⟩; have c8 := Below.trans c7 (b8.mono (Below.size c7)); have z8 := b8.size; have cu8 := Below.trans cu7 (b8.mono (Below.size cu7)); have x8 := x7.below b8; have g8 := g7.below b8; have q8 := q7.below b8)
  go_wp2_with (go_at_call 26; refine (markEntS_rowi _ l _ 1 (by rfl) _ _ _ x8 (by omega) (by omega)).mono ?_; rintro e w9 ⟨rfl, x9, t9⟩; have c9 : RowKit.Below w.heap.size w w9 := Below.trans c8 (t9.below (by omega) (by omega)); have z9 := t9.size; have cu9 := Below.trans cu8 (t9.below (by omega) (Below.size cu8)); have g9 := g8.kept t9 (by omega))
  go_wp2_with (go_at_call 25; refine (eqKVS_any _ _ _ _ (g9.slT (fun _ => rfl) (by decide)) (ux.below cu9) r0).mono ?_; rintro e w10 ⟨rfl, b10⟩; have c10 := Below.trans c9 (b10.mono (Below.size c9)); have z10 := b10.size; have cu10 := Below.trans cu9 (b10.mono (Below.size cu9)); have x10 := x9.below b10; have g10 := g9.below b10)
  go_wp2_with (go_at_call 27; refine (markKVS_rowi _ _ _ 1 (by rfl) _ _ _ g10 (by omega) (by omega)).mono ?_; rintro e w11 ⟨rfl, g11, t11⟩; have c11 : RowKit.Below w.heap.size w w11 := Below.trans c10 (t11.below (by omega) (by omega)); have z11 := t11.size; have cu11 := Below.trans cu10 (t11.below (by omega) (Below.size cu10)))
  go_wp2_with (go_at_call 28; refine (heldKVS_rowi _ _ 1 _ (by rfl) _ _ _ g11 (by omega) (by omega)).mono ?_; rintro e w12 ⟨rfl, b12⟩; have c12 := Below.trans c11 (b12.mono (Below.size c11)); have z12 := b12.size; have cu12 := Below.trans cu11 (b12.mono (Below.size cu11)); have g12 := g11.below b12)
  go_wp2_with (go_at_call 17; refine (toEntS_any _ l _ (h.below c12) l0).mono ?_; rintro e w13 ⟨gp, rfl, op, b13⟩; have c13 := Below.trans c12 (b13.mono (Below.size c12)); have z13 := b13.size; have cu13 := Below.trans cu12 (b13.mono (Below.size cu12)); have g13 := g12.below b13; have p13 := (Row.of_own op rfl))
  go_wp2_with (go_at_call 30; refine (implMemRange ⟨gp, 0, none⟩ l.length l a1 a2 a3 _ (p13.slT (fun _ => rfl) (by decide)) l0).mono ?_; rintro e w14 ⟨vh, rfl, Rh, b14⟩; have c14 := Below.trans c13 (b14.mono (Below.size c13)); have z14 := b14.size; have cu14 := Below.trans cu13 (b14.mono (Below.size cu13)); have g14 := g13.below b14; have p14 := p13.below b14; have h14 := Rh; obtain ⟨aoh, cph, hqh⟩ := Rh.form; subst hqh)
  go_wp2_with (go_at_call 25; refine (eqKVS_any _ _ _ _ (h14.slT (fun _ => rfl) (by decide)) (ux.below cu14) r0).mono ?_; rintro e w15 ⟨rfl, b15⟩; have c15 := Below.trans c14 (b15.mono (Below.size c14)); have z15 := b15.size; have cu15 := Below.trans cu14 (b15.mono (Below.size cu14)); have g15 := g14.below b15; have h15 := h14.below b15)
  go_wp2_with (go_at_call 28; refine (heldKVS_rowi _ _ 1 _ (by rfl) _ _ _ g15 (by omega) (by omega)).mono ?_; rintro e w16 ⟨rfl, b16⟩; have c16 := Below.trans c15 (b16.mono (Below.size c15)); have z16 := b16.size; have cu16 := Below.trans cu15 (b16.mono (Below.size cu15)); have g16 := g15.below b16; have h16 := h15.below b16)
  go_wp2
  go_ret
  exact ⟨rfl, c16⟩
end Go.Proofs.Ythmfiohcmnaacaa

/- Walk: KeyAdd of the reference. -/
import Derived.Test.YtcdcpdbolakfaaaKeyAP
import Derived.Test.YtcdcpdbolakfaaaKeyX
import Derived.Test.YtcdcpdbolakfaaaIKeySlot
import Derived.Lib.Hide
set_option linter.unusedVariables false
set_option linter.unusedSimpArgs false
namespace Go.Proofs.Ytcdcpdbolakfaaa
open Go.RowKit Sp Go.Sort
theorem sc_far {w : World} {a b i j : Nat} {u : Value} (h : b ≠ a) : (w.setCell ⟨a, i, none⟩ u).cell? ⟨b, j, none⟩ = w.cell? ⟨b, j, none⟩ := World.cell?_setCell_other _ _ _ _ (by simp <;> omega)
theorem sc_near {w : World} {a i j : Nat} {u : Value} (h : j ≠ i) : (w.setCell ⟨a, i, none⟩ u).cell? ⟨a, j, none⟩ = w.cell? ⟨a, j, none⟩ := World.cell?_setCell_other _ _ _ _ (by simp <;> omega)
theorem sc_same {w : World} {p : Addr} {u u0 : Value} (h : w.cell? p = some u0) : (w.setCell p u).cell? p = some u := World.cell?_setCell_same _ _ _ h
theorem sc_frz {w : World} {p q : Addr} {u : Value} : (w.setCell p u).frozen? q = w.frozen? q := World.frozen?_setCell _ _ _ _

set_option maxRecDepth 100000 in
set_option maxHeartbeats 3200000 in
theorem specKeyAdd (d : KeyDevR) (n : Int) (key : ByteArray) (ad : Addr) (cap : Nat) (w : World) (h0 : SlT SlotR.cells 2 w (.slice (some ad) d.slots.length cap) d.slots) (l0 : (d.slots.length : Int) ≤ 1048576) :
    Calls Try.prog 56 #[.agg #[.string d.master, .slice (some ad) d.slots.length cap, .int .i64 d.wiped], .int .i64 n, .string key] w fun e w' => ∃ v', e = .returned (.tuple #[v', .bool (addB d n key)]) ∧ IsKeyDev w' v' (keyAdd d n key) ∧ Below w.heap.size w w' := by
  have hb2 : ∀ o₁ o₂ : Obj, RowKit.Below w.heap.size w ((w.alloc o₁).alloc o₂) := fun o₁ o₂ => ((Below.refl _ _).alloc (Nat.le_refl _) _).alloc (by simp <;> omega) _
  have hI : IsKeyDev w (.agg #[.string d.master, .slice (some ad) d.slots.length cap, .int .i64 d.wiped]) d := ⟨_, rfl, h0⟩
  rcases hd : keyDevB d with _ | _
  · have HR := Lib.hid (show keyAdd d n key = noKeys from by simp [keyAdd, hd])
    have HB := Lib.hid (show addB d n key = false from by simp [addB, hd])
    go_enter Try.func56, Try.ntmps56
    go_wp2_with (go_at_call 21; refine (specKeyOk _ d _ (hI.below (hb2 _ _)) l0).mono ?_; rintro e w1 ⟨rfl, b1⟩; rw [hd]; have x1 := Below.trans (hb2 _ _) (b1.mono (Below.size (hb2 _ _))); have z1 : w.heap.size + 1 < w1.heap.size := Nat.lt_of_lt_of_le (by simp) b1.size; obtain ⟨hc, hf⟩ := bcell b1; have cA1 := fun o => hc w.heap.size o (by first | omega | (simp <;> omega)); have fA1 := fun o => hf w.heap.size o (by first | omega | (simp <;> omega)); have cR1 := fun o => hc (w.heap.size + 1) o (by first | omega | (simp <;> omega)); have fR1 := fun o => hf (w.heap.size + 1) o (by first | omega | (simp <;> omega)); clear hc hf)
    go_wp2
    refine bodyPost_ret (v := .tuple #[.agg #[.string ByteArray.empty, .slice none 0 0, .int .i64 0], .bool false]) (by simp [results, Try.results56, go_sem, cA1, cR1] <;> rfl) rfl ?_
    rw [HR.out, HB.out]
    refine ⟨_, rfl, ?_, ?_⟩
    · exact ⟨_, rfl, (Row.nil (T := 0) _ 0 0).slT (fun _ => rfl) (by decide)⟩
    · repeat (refine Below.setCell ?_ (by simp <;> omega) _)
      exact x1
  have hwr := keyDevB_heads hd
  have hple := posOf_le d.slots n
  have lS : ((keyAddS d n key).slots.length : Int) ≤ 1048576 := by rw [show (keyAddS d n key).slots.length = d.slots.length + 1 from addS_length _ _ _]; omega
  go_enter Try.func56, Try.ntmps56
  go_wp2_with (go_at_call 21; refine (specKeyOk _ d _ (hI.below (hb2 _ _)) l0).mono ?_; rintro e w1 ⟨rfl, b1⟩; rw [hd]; have x1 := Below.trans (hb2 _ _) (b1.mono (Below.size (hb2 _ _))); have z1 : w.heap.size + 1 < w1.heap.size := Nat.lt_of_lt_of_le (by simp) b1.size; obtain ⟨hc, hf⟩ := bcell b1; have cA1 := fun o => hc w.heap.size o (by first | omega | (simp <;> omega)); have fA1 := fun o => hf w.heap.size o (by first | omega | (simp <;> omega)); have cR1 := fun o => hc (w.heap.size + 1) o (by first | omega | (simp <;> omega)); have fR1 := fun o => hf (w.heap.size + 1) o (by first | omega | (simp <;> omega)); clear hc hf)
  go_upto_region 4 with (go_at_call 82; refine (l4Copy_row d ad cap _ (h0.below x1) l0).mono ?_; rintro e w2 ⟨v2, rfl, ⟨s1, rfl, r2⟩, b2⟩; obtain ⟨ao, cp, rfl⟩ := r2.form; have x2 := x1.trans (b2.mono x1.size); have z2 := b2.size; obtain ⟨hc, hf⟩ := bcell b2; have cA2 := fun o => hc w.heap.size o (by first | omega | (simp <;> omega)); have fA2 := fun o => hf w.heap.size o (by first | omega | (simp <;> omega)); have cR2 := fun o => hc (w.heap.size + 1) o (by first | omega | (simp <;> omega)); have fR2 := fun o => hf (w.heap.size + 1) o (by first | omega | (simp <;> omega)); clear hc hf)
  have hx0 : (w2.alloc (.cells #[.string d.master, .slice ao d.slots.length cp, .int .i64 d.wiped] 36)).cell? ⟨w2.heap.size, 0, none⟩ = some (.string d.master) := by simp [go_sem]
  have hx1 : (w2.alloc (.cells #[.string d.master, .slice ao d.slots.length cp, .int .i64 d.wiped] 36)).cell? ⟨w2.heap.size, 1, none⟩ = some (.slice ao d.slots.length cp) := by simp [go_sem]
  have hx2 : (w2.alloc (.cells #[.string d.master, .slice ao d.slots.length cp, .int .i64 d.wiped] 36)).cell? ⟨w2.heap.size, 2, none⟩ = some (.int .i64 d.wiped) := by simp [go_sem]
  have hxf : ∀ o, (w2.alloc (.cells #[.string d.master, .slice ao d.slots.length cp, .int .i64 d.wiped] 36)).frozen? ⟨w2.heap.size, o, none⟩ = false := fun o => by simp [go_sem]
  have hsz : (w2.alloc (.cells #[.string d.master, .slice ao d.slots.length cp, .int .i64 d.wiped] 36)).heap.size = w2.heap.size + 1 := by simp
  have oA := (own_mono (base' := w.heap.size + 1 + 1) r2.1 (by omega)).alloc (.cells #[.string d.master, .slice ao d.slots.length cp, .int .i64 d.wiped] 36)
  have xW := x2.alloc x2.size (.cells #[.string d.master, .slice ao d.slots.length cp, .int .i64 d.wiped] 36)
  have hbW := hal' w2 (.cells #[.string d.master, .slice ao d.slots.length cp, .int .i64 d.wiped] 36)
  have rA0 : (w2.alloc (.cells #[.string d.master, .slice ao d.slots.length cp, .int .i64 d.wiped] 36)).cell? ⟨w.heap.size, 0, none⟩ = some (.string d.master) := by rw [(bcell hbW).1 w.heap.size 0 (by omega), cA2, cA1]; simp [go_sem]
  have rA1 : (w2.alloc (.cells #[.string d.master, .slice ao d.slots.length cp, .int .i64 d.wiped] 36)).cell? ⟨w.heap.size, 1, none⟩ = some (.slice (some ad) d.slots.length cap) := by rw [(bcell hbW).1 w.heap.size 1 (by omega), cA2, cA1]; simp [go_sem]
  have rA2 : (w2.alloc (.cells #[.string d.master, .slice ao d.slots.length cp, .int .i64 d.wiped] 36)).cell? ⟨w.heap.size, 2, none⟩ = some (.int .i64 d.wiped) := by rw [(bcell hbW).1 w.heap.size 2 (by omega), cA2, cA1]; simp [go_sem]
  have rR0 : (w2.alloc (.cells #[.string d.master, .slice ao d.slots.length cp, .int .i64 d.wiped] 36)).cell? ⟨w.heap.size + 1, 0, none⟩ = some (.string ByteArray.empty) := by rw [(bcell hbW).1 (w.heap.size + 1) 0 (by omega), cR2, cR1]; simp [go_sem] <;> rfl
  have rR1 : (w2.alloc (.cells #[.string d.master, .slice ao d.slots.length cp, .int .i64 d.wiped] 36)).cell? ⟨w.heap.size + 1, 1, none⟩ = some (.slice none 0 0) := by rw [(bcell hbW).1 (w.heap.size + 1) 1 (by omega), cR2, cR1]; simp [go_sem]
  have rR2 : (w2.alloc (.cells #[.string d.master, .slice ao d.slots.length cp, .int .i64 d.wiped] 36)).cell? ⟨w.heap.size + 1, 2, none⟩ = some (.int .i64 0) := by rw [(bcell hbW).1 (w.heap.size + 1) 2 (by omega), cR2, cR1]; simp [go_sem]
  have rF : ∀ o, (w2.alloc (.cells #[.string d.master, .slice ao d.slots.length cp, .int .i64 d.wiped] 36)).frozen? ⟨w.heap.size + 1, o, none⟩ = false := fun o => by rw [(bcell hbW).2 (w.heap.size + 1) o (by omega), fR2, fR1]; simp [go_sem]
  generalize (w2.alloc (.cells #[.string d.master, .slice ao d.slots.length cp, .int .i64 d.wiped] 36)) = W at hx0 hx1 hx2 hxf hsz oA xW rA0 rA1 rA2 rR0 rR1 rR2 rF ⊢
  clear hbW cA1 cR1 fA1 fR1 cA2 cR2 fA2 fR2
  go_wp2
  have oZ : (W.alloc (.cells #[] 92)).ownsRow (w2.heap.size + 1) 92 2 (.slice (some ⟨w2.heap.size + 1, 0, none⟩) 0 0) 0 [] := own0 hsz (Nat.le_refl _)
  have bZ : RowKit.Below (w2.heap.size + 1) W (W.alloc (.cells #[] 92)) := (Below.refl _ _).alloc (by omega) _
  go_loopw [9, 10, 11] (fun o p i wr => ∃ (k : Nat) (b : Bool), k ≤ d.slots.length ∧ i = .int .i64 k ∧ p = .bool b ∧ b = decide (posOf d.slots n < k) ∧ wr.ownsRow (w2.heap.size + 1) 92 2 o (outAt d.slots n key k).length ((outAt d.slots n key k).map SlotR.cells).flatten ∧ RowKit.Below (w2.heap.size + 1) W wr) (fun _ _ i _ => d.slots.length - (intOf i).toNat)
  case atStart => exact ⟨0, false, by omega, rfl, rfl, by simp, by simpa [outAt] using oZ, bZ⟩
  case round =>
    obtain ⟨k, b, hk, rfl, rfl, hb, hr, hbl⟩ := hrel
    obtain ⟨hc, hf⟩ := bcellB hbl
    have hzw := hbl.size
    have hle := outAt_le d.slots n key k
    obtain ⟨oo, co, rfl⟩ := (Row.of_own hr rfl).form
    by_cases hlt : k < d.slots.length
    · have yA0 := (hc w.heap.size 0 (by omega)).trans rA0
      have yA1 := (hc w.heap.size 1 (by omega)).trans rA1
      have yA2 := (hc w.heap.size 2 (by omega)).trans rA2
      obtain ⟨bo', cp', hv, hlc, hcm, hsh⟩ := h0.shape
      obtain ⟨bk, off, hbk, hbs, hcc⟩ := hsh (by omega)
      obtain rfl : ad = ⟨bk, off, none⟩ := by simp at hv; rw [hbk] at hv; simpa using hv.1
      have kk : ∀ (wz : World), RowKit.Below (w2.heap.size + 1) W wz → wz.cell? ⟨bk, off + k * 2, none⟩ = some (.int .i64 d.slots[k].ten) ∧ wz.cell? ⟨bk, off + k * 2 + 1, none⟩ = some (.string d.slots[k].key) ∧ wz.cell? ⟨w.heap.size, 0, none⟩ = some (.string d.master) ∧ wz.cell? ⟨w.heap.size, 1, none⟩ = some (.slice (some ⟨bk, off, none⟩) d.slots.length cap) ∧ wz.cell? ⟨w.heap.size, 2, none⟩ = some (.int .i64 d.wiped) := fun wz hz => by
        have hz1 := (bcellB hz).1
        exact ⟨(hz1 bk _ (by omega)).trans ((xW.cell (p := ⟨bk, off + k * 2, none⟩) hbs).trans (hcc k hlt 0 _ rfl)), (hz1 bk _ (by omega)).trans ((xW.cell (p := ⟨bk, off + k * 2 + 1, none⟩) hbs).trans (hcc k hlt 1 _ rfl)), (hz1 _ _ (by omega)).trans rA0, (hz1 _ _ (by omega)).trans rA1, (hz1 _ _ (by omega)).trans rA2⟩
      obtain ⟨e0, e1, _⟩ := kk _ hbl
      clear hcc hsh hv hbk hc hf
      rcases Nat.lt_trichotomy k (posOf d.slots n) with hq | hq | hq
      · obtain rfl : b = false := by rw [hb]; simp; omega
        clear hb
        have hten := posOf_lt d.slots n k hlt hq
        have HS := Lib.hid (outAt_step (key := key) hlt (by omega : k ≠ posOf d.slots n))
        have hng : ¬ n ≤ d.slots[k].ten := by omega
        go_wp2_with (at_builtin; refine app_new_at rfl rfl Try.underlying34 info_KeySlot rfl (by decide) hr rfl 1 rfl rfl (by simp [Value.oneCell']) (by omega) hbl (Nat.le_refl _) (by omega) ?_; intro v3 w3 o3 x3 g3 p3; have z3 := x3.size)
        go_roundw
        case rel => exact ⟨k + 1, false, by omega, by go_num, rfl, by simp; omega, by rw [HS.out]; simpa [SlotR.cells] using o3, x3⟩
        case measure => simp [intOf]; omega
      · obtain rfl : b = false := by rw [hb]; simp; omega
        clear hb
        have hten : n ≤ d.slots[k].ten := by
          have := posOf_at d.slots n (by omega)
          simpa only [← hq] using this
        have HS := Lib.hid (outAt_put (key := key) hlt hq)
        have HQ := Lib.hid hq
        clear hq
        go_wp2_with (first | (at_builtin; refine app_new_at rfl rfl Try.underlying34 info_KeySlot rfl (by decide) o3 rfl 1 rfl rfl (by simp [Value.oneCell']) (by omega) x3 (Nat.le_refl _) (by omega) ?_; intro v4 w4 o4 x4 g4 p4; have z4 := x4.size) | (at_builtin; refine app_new_at rfl rfl Try.underlying34 info_KeySlot rfl (by decide) hr rfl 1 rfl rfl (by simp [Value.oneCell']) (by omega) hbl (Nat.le_refl _) (by omega) ?_; intro v3 w3 o3 x3 g3 p3; have z3 := x3.size; obtain ⟨e30, e31, a30, a31, a32⟩ := kk _ x3))
        go_roundw
        case rel => exact ⟨k + 1, true, by omega, by go_num, rfl, by have := HQ.out; simp; omega, by rw [HS.out]; simpa [SlotR.cells] using o4, x4⟩
        case measure => simp [intOf]; omega
      · obtain rfl : b = true := by rw [hb]; simp; omega
        clear hb
        have HS := Lib.hid (outAt_step (key := key) hlt (by omega : k ≠ posOf d.slots n))
        go_wp2_with (at_builtin; refine app_new_at rfl rfl Try.underlying34 info_KeySlot rfl (by decide) hr rfl 1 rfl rfl (by simp [Value.oneCell']) (by omega) hbl (Nat.le_refl _) (by omega) ?_; intro v3 w3 o3 x3 g3 p3; have z3 := x3.size)
        go_roundw
        case rel => exact ⟨k + 1, true, by omega, by go_num, rfl, by simp; omega, by rw [HS.out]; simpa [SlotR.cells] using o3, x3⟩
        case measure => simp [intOf]; omega
    · obtain rfl : k = d.slots.length := by omega
      by_cases hpl : posOf d.slots n < d.slots.length
      · obtain rfl : b = true := by rw [hb]; simpa using hpl
        clear hb
        rw [outAt_end d.slots n key hpl] at hr ⊢
        have xe : RowKit.Below w.heap.size w wr := xW.trans (hbl.mono (show w.heap.size ≤ w2.heap.size + 1 from by omega))
        have yA0 := (hc w.heap.size 0 (by omega)).trans rA0
        have yA1 := (hc w.heap.size 1 (by omega)).trans rA1
        have yA2 := (hc w.heap.size 2 (by omega)).trans rA2
        have yX0 := (hc w2.heap.size 0 (by omega)).trans hx0
        have yX1 := (hc w2.heap.size 1 (by omega)).trans hx1
        have yX2 := (hc w2.heap.size 2 (by omega)).trans hx2
        have yR0 := (hc (w.heap.size + 1) 0 (by omega)).trans rR0
        have yR1 := (hc (w.heap.size + 1) 1 (by omega)).trans rR1
        have yR2 := (hc (w.heap.size + 1) 2 (by omega)).trans rR2
        have yXf := fun o => (hf w2.heap.size o (by omega)).trans (hxf o)
        have yRf := fun o => (hf (w.heap.size + 1) o (by omega)).trans (rF o)
        clear hc hf rR0 rR1 rR2 rF hx0 hx1 hx2 hxf oZ bZ hbl rA0 rA1 rA2
        have oS := own_other hr ⟨w2.heap.size, 1, none⟩ (by simp) (.slice oo (addS d.slots n key).length co)
        have hIS : IsKeyDev (wr.setCell ⟨w2.heap.size, 1, none⟩ (.slice oo (addS d.slots n key).length co)) (.agg #[.string d.master, .slice oo (addS d.slots n key).length co, .int .i64 d.wiped]) (keyAddS d n key) := ⟨_, rfl, SlT.of_own oS (fun _ => rfl) (by decide)⟩
        have xS := Below.setCell xe (p := ⟨w2.heap.size, 1, none⟩) (by simp <;> omega) (.slice oo (addS d.slots n key).length co)
        have zS : (wr.setCell ⟨w2.heap.size, 1, none⟩ (.slice oo (addS d.slots n key).length co)).heap.size = wr.heap.size := by simp
        have neA : w.heap.size ≠ w2.heap.size := by omega
        have neR : w.heap.size + 1 ≠ w2.heap.size := by omega
        have neR' : ¬ w2.heap.size = w.heap.size + 1 := by omega
        have neR'' : ¬ w.heap.size + 1 = w2.heap.size := by omega
        have tA0 := (sc_far (w := wr) (i := 1) (j := 0) (u := .slice oo (addS d.slots n key).length co) neA).trans yA0
        have tA1 := (sc_far (w := wr) (i := 1) (j := 1) (u := .slice oo (addS d.slots n key).length co) neA).trans yA1
        have tA2 := (sc_far (w := wr) (i := 1) (j := 2) (u := .slice oo (addS d.slots n key).length co) neA).trans yA2
        have tR0 := (sc_far (w := wr) (i := 1) (j := 0) (u := .slice oo (addS d.slots n key).length co) neR).trans yR0
        have tR1 := (sc_far (w := wr) (i := 1) (j := 1) (u := .slice oo (addS d.slots n key).length co) neR).trans yR1
        have tR2 := (sc_far (w := wr) (i := 1) (j := 2) (u := .slice oo (addS d.slots n key).length co) neR).trans yR2
        have tX0 := (sc_near (w := wr) (a := w2.heap.size) (i := 1) (j := 0) (u := .slice oo (addS d.slots n key).length co) (by decide)).trans yX0
        have tX1 := sc_same (u := .slice oo (addS d.slots n key).length co) yX1
        have tX2 := (sc_near (w := wr) (a := w2.heap.size) (i := 1) (j := 2) (u := .slice oo (addS d.slots n key).length co) (by decide)).trans yX2
        have tRf := fun o => (sc_frz (w := wr) (p := ⟨w2.heap.size, 1, none⟩) (u := .slice oo (addS d.slots n key).length co)).trans (yRf o)
        rcases hd2 : keyDevB (keyAddS d n key) with _ | _
        · have HR := Lib.hid (show keyAdd d n key = d from by simp [keyAdd, addB, hd, hd2])
          have HB := Lib.hid (show addB d n key = false from by simp [addB, hd2])
          go_wp2_with (first | (go_at_call 21; refine (specKeyOk _ (keyAddS d n key) _ hIS lS).mono ?_; rintro e w5 ⟨rfl, b5⟩; rw [hd2]; have x5 := xS.trans (b5.mono xS.size); have z5 := b5.size; rw [zS] at z5; obtain ⟨hc, hf⟩ := bcell b5; have sA0 := (hc w.heap.size 0 (by rw [zS]; omega)).trans tA0; have sA1 := (hc w.heap.size 1 (by rw [zS]; omega)).trans tA1; have sA2 := (hc w.heap.size 2 (by rw [zS]; omega)).trans tA2; have sX0 := (hc w2.heap.size 0 (by rw [zS]; omega)).trans tX0; have sX1 := (hc w2.heap.size 1 (by rw [zS]; omega)).trans tX1; have sX2 := (hc w2.heap.size 2 (by rw [zS]; omega)).trans tX2; have sR0 := (hc (w.heap.size + 1) 0 (by rw [zS]; omega)).trans tR0; have sR1 := (hc (w.heap.size + 1) 1 (by rw [zS]; omega)).trans tR1; have sR2 := (hc (w.heap.size + 1) 2 (by rw [zS]; omega)).trans tR2; have sRf := fun o => (hf (w.heap.size + 1) o (by rw [zS]; omega)).trans (tRf o); clear hc hf tA0 tA1 tA2 tR0 tR1 tR2 tX0 tX1 tX2 tRf yA0 yA1 yA2 yX0 yX1 yX2 yR0 yR1 yR2 yXf yRf) | (go_at_call 82; refine (l4Copy_row d ad cap _ (h0.below x5) l0).mono ?_; rintro e w6 ⟨v6, rfl, ⟨s6, rfl, r6⟩, b6⟩; obtain ⟨a6, c6, rfl⟩ := r6.form; have x6 := x5.trans (b6.mono x5.size); have z6 := b6.size; obtain ⟨hc, hf⟩ := bcell b6; have q0 := (hc (w.heap.size + 1) 0 (by omega)).trans sR0; have q1 := (hc (w.heap.size + 1) 1 (by omega)).trans sR1; have q2 := (hc (w.heap.size + 1) 2 (by omega)).trans sR2; have qf := fun o => (hf (w.heap.size + 1) o (by omega)).trans (sRf o); clear hc hf sR0 sR1 sR2 sRf))
          go_wp2
          refine bodyPost_ret (v := .tuple #[.agg #[.string d.master, .slice a6 d.slots.length c6, .int .i64 d.wiped], .bool false]) (by simp [results, Try.results56, go_sem, q0, q1, q2]) rfl ?_
          rw [HR.out, HB.out]
          refine ⟨_, rfl, ?_, ?_⟩
          · refine ⟨_, rfl, SlT.of_own (base := w.heap.size + 1 + 1) (e := 92) (n := d.slots.length) ?_ (fun _ => rfl) (by decide)⟩
            repeat (refine own_other ?_ _ (by simp <;> omega) _)
            exact own_mono r6.1 (by omega)
          · repeat (refine Below.setCell ?_ (by simp <;> omega) _)
            exact x6
        · have HR := Lib.hid (show keyAdd d n key = keyAddS d n key from by simp [keyAdd, addB, hd, hd2])
          have HB := Lib.hid (show addB d n key = true from by simp [addB, hd, hd2])
          go_wp2_with (go_at_call 21; refine (specKeyOk _ (keyAddS d n key) _ hIS lS).mono ?_; rintro e w5 ⟨rfl, b5⟩; rw [hd2]; have x5 := xS.trans (b5.mono xS.size); have z5 := b5.size; rw [zS] at z5; obtain ⟨hc, hf⟩ := bcell b5; have sA0 := (hc w.heap.size 0 (by rw [zS]; omega)).trans tA0; have sA1 := (hc w.heap.size 1 (by rw [zS]; omega)).trans tA1; have sA2 := (hc w.heap.size 2 (by rw [zS]; omega)).trans tA2; have sX0 := (hc w2.heap.size 0 (by rw [zS]; omega)).trans tX0; have sX1 := (hc w2.heap.size 1 (by rw [zS]; omega)).trans tX1; have sX2 := (hc w2.heap.size 2 (by rw [zS]; omega)).trans tX2; have sR0 := (hc (w.heap.size + 1) 0 (by rw [zS]; omega)).trans tR0; have sR1 := (hc (w.heap.size + 1) 1 (by rw [zS]; omega)).trans tR1; have sR2 := (hc (w.heap.size + 1) 2 (by rw [zS]; omega)).trans tR2; have sRf := fun o => (hf (w.heap.size + 1) o (by rw [zS]; omega)).trans (tRf o); clear hc hf tA0 tA1 tA2 tR0 tR1 tR2 tX0 tX1 tX2 tRf yA0 yA1 yA2 yX0 yX1 yX2 yR0 yR1 yR2 yXf yRf)
          go_wp2
          refine bodyPost_ret (v := .tuple #[.agg #[.string d.master, .slice oo (addS d.slots n key).length co, .int .i64 d.wiped], .bool true]) (by simp [results, Try.results56, go_sem, sX0, sX1, sX2, sR0, sR1, sR2, neR', neR'']) rfl ?_
          rw [HR.out, HB.out]
          refine ⟨_, rfl, ?_, ?_⟩
          · refine ⟨_, rfl, SlT.of_own (base := w2.heap.size + 1) (e := 92) (n := (addS d.slots n key).length) ?_ (fun _ => rfl) (by decide)⟩
            repeat (refine own_other ?_ _ (by simp <;> omega) _)
            exact own_below oS b5
          · repeat (refine Below.setCell ?_ (by simp <;> omega) _)
            exact x5
      · obtain rfl : b = false := by rw [hb]; simpa using hpl
        clear hb
        have HE := Lib.hid (outAt_last d.slots n key hpl)
        have yA1 := (hc w.heap.size 1 (by omega)).trans rA1
        go_upto_region 15 with (at_builtin; refine app_new_at rfl rfl Try.underlying34 info_KeySlot rfl (by decide) hr rfl 1 rfl rfl (by simp [Value.oneCell']) (by omega) hbl (Nat.le_refl _) (by omega) ?_; intro v3 w3 o3 x3 g3 p3; have z3 := x3.size)
        have o3' : w3.ownsRow (w2.heap.size + 1) 92 2 v3 (addS d.slots n key).length ((addS d.slots n key).map SlotR.cells).flatten := by rw [← HE.out]; simpa [SlotR.cells] using o3
        clear o3 hr yA1 hc hf
        obtain ⟨hc, hf⟩ := bcellB x3
        obtain ⟨oo, co, rfl⟩ := (Row.of_own o3' rfl).form
        have xe : RowKit.Below w.heap.size w w3 := xW.trans (x3.mono (show w.heap.size ≤ w2.heap.size + 1 from by omega))
        have yA0 := (hc w.heap.size 0 (by omega)).trans rA0
        have yA1 := (hc w.heap.size 1 (by omega)).trans rA1
        have yA2 := (hc w.heap.size 2 (by omega)).trans rA2
        have yX0 := (hc w2.heap.size 0 (by omega)).trans hx0
        have yX1 := (hc w2.heap.size 1 (by omega)).trans hx1
        have yX2 := (hc w2.heap.size 2 (by omega)).trans hx2
        have yR0 := (hc (w.heap.size + 1) 0 (by omega)).trans rR0
        have yR1 := (hc (w.heap.size + 1) 1 (by omega)).trans rR1
        have yR2 := (hc (w.heap.size + 1) 2 (by omega)).trans rR2
        have yXf := fun o => (hf w2.heap.size o (by omega)).trans (hxf o)
        have yRf := fun o => (hf (w.heap.size + 1) o (by omega)).trans (rF o)
        clear hc hf rR0 rR1 rR2 rF hx0 hx1 hx2 hxf oZ bZ hbl rA0 rA1 rA2
        have oS := own_other o3' ⟨w2.heap.size, 1, none⟩ (by simp) (.slice oo (addS d.slots n key).length co)
        have hIS : IsKeyDev (w3.setCell ⟨w2.heap.size, 1, none⟩ (.slice oo (addS d.slots n key).length co)) (.agg #[.string d.master, .slice oo (addS d.slots n key).length co, .int .i64 d.wiped]) (keyAddS d n key) := ⟨_, rfl, SlT.of_own oS (fun _ => rfl) (by decide)⟩
        have xS := Below.setCell xe (p := ⟨w2.heap.size, 1, none⟩) (by simp <;> omega) (.slice oo (addS d.slots n key).length co)
        have zS : (w3.setCell ⟨w2.heap.size, 1, none⟩ (.slice oo (addS d.slots n key).length co)).heap.size = w3.heap.size := by simp
        have neA : w.heap.size ≠ w2.heap.size := by omega
        have neR : w.heap.size + 1 ≠ w2.heap.size := by omega
        have neR' : ¬ w2.heap.size = w.heap.size + 1 := by omega
        have neR'' : ¬ w.heap.size + 1 = w2.heap.size := by omega
        have tA0 := (sc_far (w := w3) (i := 1) (j := 0) (u := .slice oo (addS d.slots n key).length co) neA).trans yA0
        have tA1 := (sc_far (w := w3) (i := 1) (j := 1) (u := .slice oo (addS d.slots n key).length co) neA).trans yA1
        have tA2 := (sc_far (w := w3) (i := 1) (j := 2) (u := .slice oo (addS d.slots n key).length co) neA).trans yA2
        have tR0 := (sc_far (w := w3) (i := 1) (j := 0) (u := .slice oo (addS d.slots n key).length co) neR).trans yR0
        have tR1 := (sc_far (w := w3) (i := 1) (j := 1) (u := .slice oo (addS d.slots n key).length co) neR).trans yR1
        have tR2 := (sc_far (w := w3) (i := 1) (j := 2) (u := .slice oo (addS d.slots n key).length co) neR).trans yR2
        have tX0 := (sc_near (w := w3) (a := w2.heap.size) (i := 1) (j := 0) (u := .slice oo (addS d.slots n key).length co) (by decide)).trans yX0
        have tX1 := sc_same (u := .slice oo (addS d.slots n key).length co) yX1
        have tX2 := (sc_near (w := w3) (a := w2.heap.size) (i := 1) (j := 2) (u := .slice oo (addS d.slots n key).length co) (by decide)).trans yX2
        have tRf := fun o => (sc_frz (w := w3) (p := ⟨w2.heap.size, 1, none⟩) (u := .slice oo (addS d.slots n key).length co)).trans (yRf o)
        rcases hd2 : keyDevB (keyAddS d n key) with _ | _
        · have HR := Lib.hid (show keyAdd d n key = d from by simp [keyAdd, addB, hd, hd2])
          have HB := Lib.hid (show addB d n key = false from by simp [addB, hd2])
          go_wp2_with (first | (go_at_call 21; refine (specKeyOk _ (keyAddS d n key) _ hIS lS).mono ?_; rintro e w5 ⟨rfl, b5⟩; rw [hd2]; have x5 := xS.trans (b5.mono xS.size); have z5 := b5.size; rw [zS] at z5; obtain ⟨hc, hf⟩ := bcell b5; have sA0 := (hc w.heap.size 0 (by rw [zS]; omega)).trans tA0; have sA1 := (hc w.heap.size 1 (by rw [zS]; omega)).trans tA1; have sA2 := (hc w.heap.size 2 (by rw [zS]; omega)).trans tA2; have sX0 := (hc w2.heap.size 0 (by rw [zS]; omega)).trans tX0; have sX1 := (hc w2.heap.size 1 (by rw [zS]; omega)).trans tX1; have sX2 := (hc w2.heap.size 2 (by rw [zS]; omega)).trans tX2; have sR0 := (hc (w.heap.size + 1) 0 (by rw [zS]; omega)).trans tR0; have sR1 := (hc (w.heap.size + 1) 1 (by rw [zS]; omega)).trans tR1; have sR2 := (hc (w.heap.size + 1) 2 (by rw [zS]; omega)).trans tR2; have sRf := fun o => (hf (w.heap.size + 1) o (by rw [zS]; omega)).trans (tRf o); clear hc hf tA0 tA1 tA2 tR0 tR1 tR2 tX0 tX1 tX2 tRf yA0 yA1 yA2 yX0 yX1 yX2 yR0 yR1 yR2 yXf yRf) | (go_at_call 82; refine (l4Copy_row d ad cap _ (h0.below x5) l0).mono ?_; rintro e w6 ⟨v6, rfl, ⟨s6, rfl, r6⟩, b6⟩; obtain ⟨a6, c6, rfl⟩ := r6.form; have x6 := x5.trans (b6.mono x5.size); have z6 := b6.size; obtain ⟨hc, hf⟩ := bcell b6; have q0 := (hc (w.heap.size + 1) 0 (by omega)).trans sR0; have q1 := (hc (w.heap.size + 1) 1 (by omega)).trans sR1; have q2 := (hc (w.heap.size + 1) 2 (by omega)).trans sR2; have qf := fun o => (hf (w.heap.size + 1) o (by omega)).trans (sRf o); clear hc hf sR0 sR1 sR2 sRf))
          go_wp2
          refine bodyPost_ret (v := .tuple #[.agg #[.string d.master, .slice a6 d.slots.length c6, .int .i64 d.wiped], .bool false]) (by simp [results, Try.results56, go_sem, q0, q1, q2]) rfl ?_
          rw [HR.out, HB.out]
          refine ⟨_, rfl, ?_, ?_⟩
          · refine ⟨_, rfl, SlT.of_own (base := w.heap.size + 1 + 1) (e := 92) (n := d.slots.length) ?_ (fun _ => rfl) (by decide)⟩
            repeat (refine own_other ?_ _ (by simp <;> omega) _)
            exact own_mono r6.1 (by omega)
          · repeat (refine Below.setCell ?_ (by simp <;> omega) _)
            exact x6
        · have HR := Lib.hid (show keyAdd d n key = keyAddS d n key from by simp [keyAdd, addB, hd, hd2])
          have HB := Lib.hid (show addB d n key = true from by simp [addB, hd, hd2])
          go_wp2_with (go_at_call 21; refine (specKeyOk _ (keyAddS d n key) _ hIS lS).mono ?_; rintro e w5 ⟨rfl, b5⟩; rw [hd2]; have x5 := xS.trans (b5.mono xS.size); have z5 := b5.size; rw [zS] at z5; obtain ⟨hc, hf⟩ := bcell b5; have sA0 := (hc w.heap.size 0 (by rw [zS]; omega)).trans tA0; have sA1 := (hc w.heap.size 1 (by rw [zS]; omega)).trans tA1; have sA2 := (hc w.heap.size 2 (by rw [zS]; omega)).trans tA2; have sX0 := (hc w2.heap.size 0 (by rw [zS]; omega)).trans tX0; have sX1 := (hc w2.heap.size 1 (by rw [zS]; omega)).trans tX1; have sX2 := (hc w2.heap.size 2 (by rw [zS]; omega)).trans tX2; have sR0 := (hc (w.heap.size + 1) 0 (by rw [zS]; omega)).trans tR0; have sR1 := (hc (w.heap.size + 1) 1 (by rw [zS]; omega)).trans tR1; have sR2 := (hc (w.heap.size + 1) 2 (by rw [zS]; omega)).trans tR2; have sRf := fun o => (hf (w.heap.size + 1) o (by rw [zS]; omega)).trans (tRf o); clear hc hf tA0 tA1 tA2 tR0 tR1 tR2 tX0 tX1 tX2 tRf yA0 yA1 yA2 yX0 yX1 yX2 yR0 yR1 yR2 yXf yRf)
          go_wp2
          refine bodyPost_ret (v := .tuple #[.agg #[.string d.master, .slice oo (addS d.slots n key).length co, .int .i64 d.wiped], .bool true]) (by simp [results, Try.results56, go_sem, sX0, sX1, sX2, sR0, sR1, sR2, neR', neR'']) rfl ?_
          rw [HR.out, HB.out]
          refine ⟨_, rfl, ?_, ?_⟩
          · refine ⟨_, rfl, SlT.of_own (base := w2.heap.size + 1) (e := 92) (n := (addS d.slots n key).length) ?_ (fun _ => rfl) (by decide)⟩
            repeat (refine own_other ?_ _ (by simp <;> omega) _)
            exact own_below oS b5
          · repeat (refine Below.setCell ?_ (by simp <;> omega) _)
            exact x5
end Go.Proofs.Ytcdcpdbolakfaaa

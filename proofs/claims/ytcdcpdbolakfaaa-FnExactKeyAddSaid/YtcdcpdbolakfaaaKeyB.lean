/- Walk: KeyAdd of the program. -/
import Derived.Test.YtcdcpdbolakfaaaKeyAP
import Derived.Test.YtcdcpdbolakfaaaKeyX
import Derived.Test.YtcdcpdbolakfaaaIKeySlot
import Derived.Test.YtcdcpdbolakfaaaKeyA
import Derived.Lib.Hide
set_option linter.unusedVariables false
set_option linter.unusedSimpArgs false
namespace Go.Proofs.Ytcdcpdbolakfaaa
open Go.RowKit Sp Go.Sort

set_option maxRecDepth 100000 in
set_option maxHeartbeats 3200000 in
theorem implKeyAdd (d : KeyDevR) (n : Int) (key : ByteArray) (ad : Addr) (cap : Nat) (w : World) (h0 : SlT SlotR.cells 2 w (.slice (some ad) d.slots.length cap) d.slots) (l0 : (d.slots.length : Int) ≤ 1048576) :
    Calls Try.prog 57 #[.agg #[.string d.master, .slice (some ad) d.slots.length cap, .int .i64 d.wiped], .int .i64 n, .string key] w fun e w' => ∃ v', e = .returned (.tuple #[v', .bool (addB d n key)]) ∧ RowKeyDev w.heap.size w'.heap.size w' v' (keyAdd d n key) ∧ Below w.heap.size w w' := by
  have hb2 : ∀ o₁ o₂ : Obj, RowKit.Below w.heap.size w ((w.alloc o₁).alloc o₂) := fun o₁ o₂ => ((Below.refl _ _).alloc (Nat.le_refl _) _).alloc (by simp <;> omega) _
  have hI : IsKeyDev w (.agg #[.string d.master, .slice (some ad) d.slots.length cap, .int .i64 d.wiped]) d := ⟨_, rfl, h0⟩
  rcases hd : keyDevB d with _ | _
  · have HR := Lib.hid (show keyAdd d n key = noKeys from by simp [keyAdd, hd])
    have HB := Lib.hid (show addB d n key = false from by simp [addB, hd])
    go_enter Try.func57, Try.ntmps57
    go_wp2_with (go_at_call 23; refine (implKeyOk _ d _ (hI.below (hb2 _ _)) l0).mono ?_; rintro e w1 ⟨rfl, b1⟩; rw [hd]; have x1 := Below.trans (hb2 _ _) (b1.mono (Below.size (hb2 _ _))); have z1 : w.heap.size + 1 < w1.heap.size := Nat.lt_of_lt_of_le (by simp) b1.size; obtain ⟨hc, hf⟩ := bcell b1; have cA1 := fun o => hc w.heap.size o (by first | omega | (simp <;> omega)); have fA1 := fun o => hf w.heap.size o (by first | omega | (simp <;> omega)); have cR1 := fun o => hc (w.heap.size + 1) o (by first | omega | (simp <;> omega)); have fR1 := fun o => hf (w.heap.size + 1) o (by first | omega | (simp <;> omega)); clear hc hf)
    go_wp2
    refine bodyPost_ret (v := .tuple #[.agg #[.string ByteArray.empty, .slice none 0 0, .int .i64 0], .bool false]) (by simp [results, Try.results57, go_sem, cA1, cR1] <;> rfl) rfl ?_
    rw [HR.out, HB.out]
    refine ⟨_, rfl, ?_, ?_⟩
    · exact ⟨_, rfl, Row.nil _ _ _⟩
    · repeat (refine Below.setCell ?_ (by simp <;> omega) _)
      exact x1
  have hwr := keyDevB_heads hd
  have hple := posOf_le d.slots n
  have lS : ((keyAddS d n key).slots.length : Int) ≤ 1048576 := by rw [show (keyAddS d n key).slots.length = d.slots.length + 1 from addS_length _ _ _]; omega
  rcases slot_dec d.slots n with ⟨k, hk, he, hno⟩ | hno
  · have HJ : ∀ j, IsSlot d.slots n j → j = k := fun j => isSlot_hit hk he hno
    have hd2 := keyAdd_dup (key := key) hk he
    have HR := Lib.hid (show keyAdd d n key = d from by simp [keyAdd, addB, hd, hd2])
    have HB := Lib.hid (show addB d n key = false from by simp [addB, hd2])
    have hk0 : (0 : Int) ≤ (k : Int) := by omega
    clear he hno hd2
    go_enter Try.func57, Try.ntmps57
    go_wp2_with (first | (go_at_call 23; refine (implKeyOk _ d _ (hI.below (hb2 _ _)) l0).mono ?_; rintro e w1 ⟨rfl, b1⟩; rw [hd]; have x1 := Below.trans (hb2 _ _) (b1.mono (Below.size (hb2 _ _))); have z1 : w.heap.size + 1 < w1.heap.size := Nat.lt_of_lt_of_le (by simp) b1.size; obtain ⟨hc, hf⟩ := bcell b1; have cA1 := fun o => hc w.heap.size o (by first | omega | (simp <;> omega)); have fA1 := fun o => hf w.heap.size o (by first | omega | (simp <;> omega)); have cR1 := fun o => hc (w.heap.size + 1) o (by first | omega | (simp <;> omega)); have fR1 := fun o => hf (w.heap.size + 1) o (by first | omega | (simp <;> omega)); clear hc hf) | (go_at_call 71; refine (slotOf_any _ d _ _ (hI.below x1) l0).mono ?_; rintro e w3 ⟨j, rfl, hj, b3⟩; obtain rfl := HJ _ hj; clear hj; have x3 := x1.trans (b3.mono x1.size); have z3 := b3.size; obtain ⟨hc, hf⟩ := bcell b3; have cA3 := fun o => hc w.heap.size o (by first | omega | (simp <;> omega)); have fA3 := fun o => hf w.heap.size o (by first | omega | (simp <;> omega)); have cR3 := fun o => hc (w.heap.size + 1) o (by first | omega | (simp <;> omega)); have fR3 := fun o => hf (w.heap.size + 1) o (by first | omega | (simp <;> omega)); clear hc hf) | (go_at_call 83; refine (copyKeys_row d ad cap _ (h0.below x3) l0).mono ?_; rintro e w2 ⟨v2, rfl, ⟨s1, rfl, r2⟩, b2⟩; obtain ⟨ao, cp, rfl⟩ := r2.form; have x2 := x3.trans (b2.mono x3.size); have z2 := b2.size; obtain ⟨hc, hf⟩ := bcell b2; have cA2 := fun o => hc w.heap.size o (by first | omega | (simp <;> omega)); have fA2 := fun o => hf w.heap.size o (by first | omega | (simp <;> omega)); have cR2 := fun o => hc (w.heap.size + 1) o (by first | omega | (simp <;> omega)); have fR2 := fun o => hf (w.heap.size + 1) o (by first | omega | (simp <;> omega)); clear hc hf))
    go_wp2
    refine bodyPost_ret (v := .tuple #[.agg #[.string d.master, .slice ao d.slots.length cp, .int .i64 d.wiped], .bool false]) (by simp [results, Try.results57, go_sem, cR1, cR2, cR3]) rfl ?_
    rw [HR.out, HB.out]
    refine ⟨_, rfl, ?_, ?_⟩
    · refine ⟨_, rfl, Row.of_own (n := d.slots.length) (own_mono (base := w.heap.size + 1 + 1) ?_ (by omega)) rfl⟩
      repeat (refine own_other ?_ _ (by simp <;> omega) _)
      exact own_mono r2.1 (by omega)
    · repeat (refine Below.setCell ?_ (by simp <;> omega) _)
      exact x2
  · have HJ : ∀ j, IsSlot d.slots n j → j = -1 := fun j => isSlot_none hno
    clear hno
    go_enter Try.func57, Try.ntmps57
    go_upto_region 6 with (first | (go_at_call 23; refine (implKeyOk _ d _ (hI.below (hb2 _ _)) l0).mono ?_; rintro e w1 ⟨rfl, b1⟩; rw [hd]; have x1 := Below.trans (hb2 _ _) (b1.mono (Below.size (hb2 _ _))); have z1 : w.heap.size + 1 < w1.heap.size := Nat.lt_of_lt_of_le (by simp) b1.size; obtain ⟨hc, hf⟩ := bcell b1; have cA1 := fun o => hc w.heap.size o (by first | omega | (simp <;> omega)); have fA1 := fun o => hf w.heap.size o (by first | omega | (simp <;> omega)); have cR1 := fun o => hc (w.heap.size + 1) o (by first | omega | (simp <;> omega)); have fR1 := fun o => hf (w.heap.size + 1) o (by first | omega | (simp <;> omega)); clear hc hf) | (go_at_call 71; refine (slotOf_any _ d _ _ (hI.below x1) l0).mono ?_; rintro e w3 ⟨j, rfl, hj, b3⟩; obtain rfl := HJ _ hj; clear hj; have x3 := x1.trans (b3.mono x1.size); have z3 := b3.size; obtain ⟨hc, hf⟩ := bcell b3; have cA3 := fun o => hc w.heap.size o (by first | omega | (simp <;> omega)); have fA3 := fun o => hf w.heap.size o (by first | omega | (simp <;> omega)); have cR3 := fun o => hc (w.heap.size + 1) o (by first | omega | (simp <;> omega)); have fR3 := fun o => hf (w.heap.size + 1) o (by first | omega | (simp <;> omega)); clear hc hf) | (go_at_call 83; refine (copyKeys_row d ad cap _ (h0.below x3) l0).mono ?_; rintro e w2 ⟨v2, rfl, ⟨s1, rfl, r2⟩, b2⟩; obtain ⟨ao, cp, rfl⟩ := r2.form; have x2 := x3.trans (b2.mono x3.size); have z2 := b2.size; obtain ⟨hc, hf⟩ := bcell b2; have cA2 := fun o => hc w.heap.size o (by first | omega | (simp <;> omega)); have fA2 := fun o => hf w.heap.size o (by first | omega | (simp <;> omega)); have cR2 := fun o => hc (w.heap.size + 1) o (by first | omega | (simp <;> omega)); have fR2 := fun o => hf (w.heap.size + 1) o (by first | omega | (simp <;> omega)); clear hc hf))
    have ks : ∀ k, (Value.slice ao d.slots.length cp).ownBlock = some k → k < w2.heap.size := r2.2
    have hx0 : (w2.alloc (.cells #[.string d.master, .slice ao d.slots.length cp, .int .i64 d.wiped] 36)).cell? ⟨w2.heap.size, 0, none⟩ = some (.string d.master) := by simp [go_sem]
    have hx1 : (w2.alloc (.cells #[.string d.master, .slice ao d.slots.length cp, .int .i64 d.wiped] 36)).cell? ⟨w2.heap.size, 1, none⟩ = some (.slice ao d.slots.length cp) := by simp [go_sem]
    have hx2 : (w2.alloc (.cells #[.string d.master, .slice ao d.slots.length cp, .int .i64 d.wiped] 36)).cell? ⟨w2.heap.size, 2, none⟩ = some (.int .i64 d.wiped) := by simp [go_sem]
    have hxf : ∀ o, (w2.alloc (.cells #[.string d.master, .slice ao d.slots.length cp, .int .i64 d.wiped] 36)).frozen? ⟨w2.heap.size, o, none⟩ = false := fun o => by simp [go_sem]
    have hsz : (w2.alloc (.cells #[.string d.master, .slice ao d.slots.length cp, .int .i64 d.wiped] 36)).heap.size = w2.heap.size + 1 := by simp
    have oA := (own_mono (base' := w.heap.size + 1 + 1) r2.1 (by omega)).alloc (.cells #[.string d.master, .slice ao d.slots.length cp, .int .i64 d.wiped] 36)
    have xW := x2.alloc x2.size (.cells #[.string d.master, .slice ao d.slots.length cp, .int .i64 d.wiped] 36)
    have hbW := hal' w2 (.cells #[.string d.master, .slice ao d.slots.length cp, .int .i64 d.wiped] 36)
    have rA0 : (w2.alloc (.cells #[.string d.master, .slice ao d.slots.length cp, .int .i64 d.wiped] 36)).cell? ⟨w.heap.size, 0, none⟩ = some (.string d.master) := by rw [(bcell hbW).1 w.heap.size 0 (by omega), cA2, cA3, cA1]; simp [go_sem]
    have rA1 : (w2.alloc (.cells #[.string d.master, .slice ao d.slots.length cp, .int .i64 d.wiped] 36)).cell? ⟨w.heap.size, 1, none⟩ = some (.slice (some ad) d.slots.length cap) := by rw [(bcell hbW).1 w.heap.size 1 (by omega), cA2, cA3, cA1]; simp [go_sem]
    have rA2 : (w2.alloc (.cells #[.string d.master, .slice ao d.slots.length cp, .int .i64 d.wiped] 36)).cell? ⟨w.heap.size, 2, none⟩ = some (.int .i64 d.wiped) := by rw [(bcell hbW).1 w.heap.size 2 (by omega), cA2, cA3, cA1]; simp [go_sem]
    have rR0 : (w2.alloc (.cells #[.string d.master, .slice ao d.slots.length cp, .int .i64 d.wiped] 36)).cell? ⟨w.heap.size + 1, 0, none⟩ = some (.string ByteArray.empty) := by rw [(bcell hbW).1 (w.heap.size + 1) 0 (by omega), cR2, cR3, cR1]; simp [go_sem] <;> rfl
    have rR1 : (w2.alloc (.cells #[.string d.master, .slice ao d.slots.length cp, .int .i64 d.wiped] 36)).cell? ⟨w.heap.size + 1, 1, none⟩ = some (.slice none 0 0) := by rw [(bcell hbW).1 (w.heap.size + 1) 1 (by omega), cR2, cR3, cR1]; simp [go_sem]
    have rR2 : (w2.alloc (.cells #[.string d.master, .slice ao d.slots.length cp, .int .i64 d.wiped] 36)).cell? ⟨w.heap.size + 1, 2, none⟩ = some (.int .i64 0) := by rw [(bcell hbW).1 (w.heap.size + 1) 2 (by omega), cR2, cR3, cR1]; simp [go_sem]
    have rF : ∀ o, (w2.alloc (.cells #[.string d.master, .slice ao d.slots.length cp, .int .i64 d.wiped] 36)).frozen? ⟨w.heap.size + 1, o, none⟩ = false := fun o => by rw [(bcell hbW).2 (w.heap.size + 1) o (by omega), fR2, fR3, fR1]; simp [go_sem]
    generalize (w2.alloc (.cells #[.string d.master, .slice ao d.slots.length cp, .int .i64 d.wiped] 36)) = W at hx0 hx1 hx2 hxf hsz oA xW rA0 rA1 rA2 rR0 rR1 rR2 rF ⊢
    clear hbW cA1 cR1 fA1 fR1 cA2 cR2 fA2 fR2 cA3 cR3 fA3 fR3
    have hS : SlT SlotR.cells 2 W (.slice ao d.slots.length cp) d.slots := SlT.of_own oA (fun _ => rfl) (by decide)
    go_wp2
    go_loopw [9] (fun i wr => ∃ k : Nat, k ≤ posOf d.slots n ∧ i = .int .i64 k ∧ RowKit.Below W.heap.size W wr) (fun i _ => d.slots.length - (intOf i).toNat)
    case atStart => exact ⟨0, by omega, rfl, Below.refl _ _⟩
    case round =>
      obtain ⟨k, hk, rfl, hbl⟩ := hrel
      obtain ⟨hc, hf⟩ := bcell hbl
      have hzw := hbl.size
      have xe : RowKit.Below w.heap.size w wr := xW.trans (hbl.mono xW.size)
      have pA0 := (hc w.heap.size 0 (by omega)).trans rA0
      have pA1 := (hc w.heap.size 1 (by omega)).trans rA1
      have pA2 := (hc w.heap.size 2 (by omega)).trans rA2
      have pX0 := (hc w2.heap.size 0 (by omega)).trans hx0
      have pX1 := (hc w2.heap.size 1 (by omega)).trans hx1
      have pX2 := (hc w2.heap.size 2 (by omega)).trans hx2
      have pR0 := (hc (w.heap.size + 1) 0 (by omega)).trans rR0
      have pR1 := (hc (w.heap.size + 1) 1 (by omega)).trans rR1
      have pR2 := (hc (w.heap.size + 1) 2 (by omega)).trans rR2
      have pXf := fun o => (hf w2.heap.size o (by omega)).trans (hxf o)
      have pRf := fun o => (hf (w.heap.size + 1) o (by omega)).trans (rF o)
      have hSw := hS.below hbl
      have oX := own_below oA hbl
      clear hc hf
      by_cases hq : k < posOf d.slots n
      · have hlt : k < d.slots.length := by omega
        obtain ⟨bo', cp', hv, hlc, hcm, hsh⟩ := hSw.shape
        obtain ⟨bk, off, hbk, hbs, hcc⟩ := hsh (by omega)
        obtain rfl : ao = some ⟨bk, off, none⟩ := by simp at hv; rw [hv.1, hbk]
        have e0 := hcc k hlt 0 _ rfl
        have hten := posOf_lt d.slots n k hlt hq
        simp only [Nat.add_zero] at e0
        clear hcc hsh hv hbk
        go_wp2
        go_roundw
        case rel => exact ⟨k + 1, by omega, by go_num, by first | exact hbl | exact hbl.drew⟩
        case measure => simp [intOf]; omega
      · obtain rfl : k = posOf d.slots n := by omega
        have neV : ∀ b, b < w.heap.size + 1 + 1 ∨ w2.heap.size ≤ b → (Value.slice ao d.slots.length cp).ownBlock ≠ some b := fun b hb e => by have h1 := (oX.lt _ e).1; have h2 := ks _ e; omega
        by_cases hlt : posOf d.slots n < d.slots.length
        · obtain ⟨bo', cp', hv, hlc, hcm, hsh⟩ := hSw.shape
          obtain ⟨bk, off, hbk, hbs, hcc⟩ := hsh (by omega)
          obtain rfl : ao = some ⟨bk, off, none⟩ := by simp at hv; rw [hv.1, hbk]
          have e0 := hcc (posOf d.slots n) hlt 0 _ rfl
          have hten := posOf_at d.slots n hlt
          have hng : ¬ d.slots[posOf d.slots n].ten < n := by omega
          simp only [Nat.add_zero] at e0
          clear hcc hsh hv hbk
          go_upto_region 9 with fail
          have hIns : Calls Try.prog 94 #[.slice (some ⟨bk, off, none⟩) d.slots.length cp, .int .i64 (posOf d.slots n), .slice (some ⟨wr.heap.size, 0, none⟩) 1 1] (wr.alloc (.cells #[.int .i64 n, .string key] 92)) fun e w' => ∃ a4 c4, e = .returned (.slice a4 (addS d.slots n key).length c4) ∧ w'.ownsRow (w.heap.size + 1 + 1) 92 2 (.slice a4 (addS d.slots n key).length c4) (addS d.slots n key).length ((addS d.slots n key).map SlotR.cells).flatten ∧ (Value.slice a4 (addS d.slots n key).length c4).ownBlock ≠ some w2.heap.size ∧ wr.heap.size ≤ w'.heap.size ∧ Below w.heap.size w w' ∧ (∀ b, b < wr.heap.size → b < w.heap.size + 1 + 1 ∨ w2.heap.size ≤ b → ∀ j, w'.cell? ⟨b, j, none⟩ = wr.cell? ⟨b, j, none⟩ ∧ w'.frozen? ⟨b, j, none⟩ = wr.frozen? ⟨b, j, none⟩) := by
            refine (insertKeySlot_any d.slots _ (w.heap.size + 1 + 1) (wr.alloc (.cells #[.int .i64 n, .string key] 92)) (by simp; omega) (oX.alloc _) (by omega) (posOf d.slots n) hple ⟨n, key⟩ wr.heap.size 2 92 (fun t u hu => ?_) (by simp) (neV _ (by omega)) (by rw [World.shape?, heap_alloc_new]; rfl) (by simp [go_sem]) (by simp [go_sem])).mono ?_
            · have := cells_new wr #[.int .i64 n, .string key] 92 t u hu
              rwa [add_none, Nat.zero_add] at this
            rintro e w4 ⟨v4, rfl, o4, g4, p4⟩
            have o4' : w4.ownsRow (w.heap.size + 1 + 1) 92 2 v4 (addS d.slots n key).length ((addS d.slots n key).map SlotR.cells).flatten := by rw [addS_length]; exact o4
            obtain ⟨a4, c4, rfl⟩ := (Row.of_own o4' rfl).form
            have z4 := g4.size
            have hal4 := hal' wr (.cells #[.int .i64 n, .string key] 92)
            simp only [World.size_alloc] at z4 p4
            refine ⟨a4, c4, rfl, o4', ?_, by omega, (xe.trans (hal4.mono xe.size)).grown g4 (by simp; omega) (fun j hj => (by have := (oX.lt j hj).1; omega)), fun b hb hh j => ?_⟩
            · rcases p4 with h | h
              · rw [h]; exact neV _ (by omega)
              · rw [h]; simp; omega
            · have hg := gcell g4 (b := b) (by simp; omega) (neV _ hh)
              exact ⟨(hg.1 j).trans ((bcell hal4).1 b j hb), (hg.2 j).trans ((bcell hal4).2 b j hb)⟩
          clear rR0 rR1 rR2 rF hx0 hx1 hx2 hxf rA0 rA1 rA2 hSw hS oA
          go_upto_region 10 with (go_at_call 94; refine hIns.mono ?_; rintro e w4 ⟨a4, c4, rfl, o4, hfar, z4, x4, hK⟩; have yA0 := (hK w.heap.size (by omega) (by omega) 0).1.trans pA0; have yA1 := (hK w.heap.size (by omega) (by omega) 1).1.trans pA1; have yA2 := (hK w.heap.size (by omega) (by omega) 2).1.trans pA2; have yX0 := (hK w2.heap.size (by omega) (by omega) 0).1.trans pX0; have yX1 := (hK w2.heap.size (by omega) (by omega) 1).1.trans pX1; have yX2 := (hK w2.heap.size (by omega) (by omega) 2).1.trans pX2; have yR0 := (hK (w.heap.size + 1) (by omega) (by omega) 0).1.trans pR0; have yR1 := (hK (w.heap.size + 1) (by omega) (by omega) 1).1.trans pR1; have yR2 := (hK (w.heap.size + 1) (by omega) (by omega) 2).1.trans pR2; have yXf := fun o => (hK w2.heap.size (by omega) (by omega) o).2.trans (pXf o); have yRf := fun o => (hK (w.heap.size + 1) (by omega) (by omega) o).2.trans (pRf o); clear hK hIns pA0 pA1 pA2 pX0 pX1 pX2 pR0 pR1 pR2 pXf pRf)
          have oS := own_far o4 ⟨w2.heap.size, 1, none⟩ (.slice a4 (addS d.slots n key).length c4) hfar
          have hIS : IsKeyDev (w4.setCell ⟨w2.heap.size, 1, none⟩ (.slice a4 (addS d.slots n key).length c4)) (.agg #[.string d.master, .slice a4 (addS d.slots n key).length c4, .int .i64 d.wiped]) (keyAddS d n key) := ⟨_, rfl, SlT.of_own oS (fun _ => rfl) (by decide)⟩
          have xS := Below.setCell x4 (p := ⟨w2.heap.size, 1, none⟩) (by simp <;> omega) (.slice a4 (addS d.slots n key).length c4)
          have zS : (w4.setCell ⟨w2.heap.size, 1, none⟩ (.slice a4 (addS d.slots n key).length c4)).heap.size = w4.heap.size := by simp
          have neA : w.heap.size ≠ w2.heap.size := by omega
          have neR : w.heap.size + 1 ≠ w2.heap.size := by omega
          have neR' : ¬ w2.heap.size = w.heap.size + 1 := by omega
          have neR'' : ¬ w.heap.size + 1 = w2.heap.size := by omega
          have tA0 := (sc_far (w := w4) (i := 1) (j := 0) (u := .slice a4 (addS d.slots n key).length c4) neA).trans yA0
          have tA1 := (sc_far (w := w4) (i := 1) (j := 1) (u := .slice a4 (addS d.slots n key).length c4) neA).trans yA1
          have tA2 := (sc_far (w := w4) (i := 1) (j := 2) (u := .slice a4 (addS d.slots n key).length c4) neA).trans yA2
          have tR0 := (sc_far (w := w4) (i := 1) (j := 0) (u := .slice a4 (addS d.slots n key).length c4) neR).trans yR0
          have tR1 := (sc_far (w := w4) (i := 1) (j := 1) (u := .slice a4 (addS d.slots n key).length c4) neR).trans yR1
          have tR2 := (sc_far (w := w4) (i := 1) (j := 2) (u := .slice a4 (addS d.slots n key).length c4) neR).trans yR2
          have tX0 := (sc_near (w := w4) (a := w2.heap.size) (i := 1) (j := 0) (u := .slice a4 (addS d.slots n key).length c4) (by decide)).trans yX0
          have tX1 := sc_same (u := .slice a4 (addS d.slots n key).length c4) yX1
          have tX2 := (sc_near (w := w4) (a := w2.heap.size) (i := 1) (j := 2) (u := .slice a4 (addS d.slots n key).length c4) (by decide)).trans yX2
          have tRf := fun o => (sc_frz (w := w4) (p := ⟨w2.heap.size, 1, none⟩) (u := .slice a4 (addS d.slots n key).length c4)).trans (yRf o)
          rcases hd2 : keyDevB (keyAddS d n key) with _ | _
          · have HR := Lib.hid (show keyAdd d n key = d from by simp [keyAdd, addB, hd, hd2])
            have HB := Lib.hid (show addB d n key = false from by simp [addB, hd2])
            go_wp2_with (first | (go_at_call 23; refine (implKeyOk _ (keyAddS d n key) _ hIS lS).mono ?_; rintro e w5 ⟨rfl, b5⟩; rw [hd2]; have x5 := xS.trans (b5.mono xS.size); have z5 := b5.size; rw [zS] at z5; obtain ⟨hc, hf⟩ := bcell b5; have sA0 := (hc w.heap.size 0 (by rw [zS]; omega)).trans tA0; have sA1 := (hc w.heap.size 1 (by rw [zS]; omega)).trans tA1; have sA2 := (hc w.heap.size 2 (by rw [zS]; omega)).trans tA2; have sX0 := (hc w2.heap.size 0 (by rw [zS]; omega)).trans tX0; have sX1 := (hc w2.heap.size 1 (by rw [zS]; omega)).trans tX1; have sX2 := (hc w2.heap.size 2 (by rw [zS]; omega)).trans tX2; have sR0 := (hc (w.heap.size + 1) 0 (by rw [zS]; omega)).trans tR0; have sR1 := (hc (w.heap.size + 1) 1 (by rw [zS]; omega)).trans tR1; have sR2 := (hc (w.heap.size + 1) 2 (by rw [zS]; omega)).trans tR2; have sRf := fun o => (hf (w.heap.size + 1) o (by rw [zS]; omega)).trans (tRf o); clear hc hf tA0 tA1 tA2 tR0 tR1 tR2 tX0 tX1 tX2 tRf yA0 yA1 yA2 yX0 yX1 yX2 yR0 yR1 yR2 yXf yRf) | (go_at_call 83; refine (copyKeys_row d ad cap _ (h0.below x5) l0).mono ?_; rintro e w6 ⟨v6, rfl, ⟨s6, rfl, r6⟩, b6⟩; obtain ⟨a6, c6, rfl⟩ := r6.form; have x6 := x5.trans (b6.mono x5.size); have z6 := b6.size; obtain ⟨hc, hf⟩ := bcell b6; have q0 := (hc (w.heap.size + 1) 0 (by omega)).trans sR0; have q1 := (hc (w.heap.size + 1) 1 (by omega)).trans sR1; have q2 := (hc (w.heap.size + 1) 2 (by omega)).trans sR2; have qf := fun o => (hf (w.heap.size + 1) o (by omega)).trans (sRf o); clear hc hf sR0 sR1 sR2 sRf))
            go_wp2
            refine bodyPost_ret (v := .tuple #[.agg #[.string d.master, .slice a6 d.slots.length c6, .int .i64 d.wiped], .bool false]) (by simp [results, Try.results57, go_sem, q0, q1, q2]) rfl ?_
            rw [HR.out, HB.out]
            refine ⟨_, rfl, ?_, ?_⟩
            · refine ⟨_, rfl, Row.of_own (n := d.slots.length) (own_mono (base := w.heap.size + 1 + 1) ?_ (by omega)) rfl⟩
              repeat (refine own_other ?_ _ (by simp <;> omega) _)
              exact own_mono r6.1 (by omega)
            · repeat (refine Below.setCell ?_ (by simp <;> omega) _)
              exact x6
          · have HR := Lib.hid (show keyAdd d n key = keyAddS d n key from by simp [keyAdd, addB, hd, hd2])
            have HB := Lib.hid (show addB d n key = true from by simp [addB, hd, hd2])
            go_wp2_with (go_at_call 23; refine (implKeyOk _ (keyAddS d n key) _ hIS lS).mono ?_; rintro e w5 ⟨rfl, b5⟩; rw [hd2]; have x5 := xS.trans (b5.mono xS.size); have z5 := b5.size; rw [zS] at z5; obtain ⟨hc, hf⟩ := bcell b5; have sA0 := (hc w.heap.size 0 (by rw [zS]; omega)).trans tA0; have sA1 := (hc w.heap.size 1 (by rw [zS]; omega)).trans tA1; have sA2 := (hc w.heap.size 2 (by rw [zS]; omega)).trans tA2; have sX0 := (hc w2.heap.size 0 (by rw [zS]; omega)).trans tX0; have sX1 := (hc w2.heap.size 1 (by rw [zS]; omega)).trans tX1; have sX2 := (hc w2.heap.size 2 (by rw [zS]; omega)).trans tX2; have sR0 := (hc (w.heap.size + 1) 0 (by rw [zS]; omega)).trans tR0; have sR1 := (hc (w.heap.size + 1) 1 (by rw [zS]; omega)).trans tR1; have sR2 := (hc (w.heap.size + 1) 2 (by rw [zS]; omega)).trans tR2; have sRf := fun o => (hf (w.heap.size + 1) o (by rw [zS]; omega)).trans (tRf o); clear hc hf tA0 tA1 tA2 tR0 tR1 tR2 tX0 tX1 tX2 tRf yA0 yA1 yA2 yX0 yX1 yX2 yR0 yR1 yR2 yXf yRf)
            go_wp2
            refine bodyPost_ret (v := .tuple #[.agg #[.string d.master, .slice a4 (addS d.slots n key).length c4, .int .i64 d.wiped], .bool true]) (by simp [results, Try.results57, go_sem, sX0, sX1, sX2, sR0, sR1, sR2, neR', neR'']) rfl ?_
            rw [HR.out, HB.out]
            refine ⟨_, rfl, ?_, ?_⟩
            · refine ⟨_, rfl, Row.of_own (n := (addS d.slots n key).length) (own_mono (base := w.heap.size + 1 + 1) ?_ (by omega)) rfl⟩
              repeat (refine own_other ?_ _ (by simp <;> omega) _)
              exact own_below oS b5
            · repeat (refine Below.setCell ?_ (by simp <;> omega) _)
              exact x5
        · have hpe : posOf d.slots n = d.slots.length := by omega
          have HPE := Lib.hid hpe
          have hng : ¬ ((posOf d.slots n : Int) < d.slots.length) := by omega
          clear hpe hlt
          go_upto_region 9 with fail
          have hIns : Calls Try.prog 94 #[.slice ao d.slots.length cp, .int .i64 (posOf d.slots n), .slice (some ⟨wr.heap.size, 0, none⟩) 1 1] (wr.alloc (.cells #[.int .i64 n, .string key] 92)) fun e w' => ∃ a4 c4, e = .returned (.slice a4 (addS d.slots n key).length c4) ∧ w'.ownsRow (w.heap.size + 1 + 1) 92 2 (.slice a4 (addS d.slots n key).length c4) (addS d.slots n key).length ((addS d.slots n key).map SlotR.cells).flatten ∧ (Value.slice a4 (addS d.slots n key).length c4).ownBlock ≠ some w2.heap.size ∧ wr.heap.size ≤ w'.heap.size ∧ Below w.heap.size w w' ∧ (∀ b, b < wr.heap.size → b < w.heap.size + 1 + 1 ∨ w2.heap.size ≤ b → ∀ j, w'.cell? ⟨b, j, none⟩ = wr.cell? ⟨b, j, none⟩ ∧ w'.frozen? ⟨b, j, none⟩ = wr.frozen? ⟨b, j, none⟩) := by
            refine (insertKeySlot_any d.slots _ (w.heap.size + 1 + 1) (wr.alloc (.cells #[.int .i64 n, .string key] 92)) (by simp; omega) (oX.alloc _) (by omega) (posOf d.slots n) hple ⟨n, key⟩ wr.heap.size 2 92 (fun t u hu => ?_) (by simp) (neV _ (by omega)) (by rw [World.shape?, heap_alloc_new]; rfl) (by simp [go_sem]) (by simp [go_sem])).mono ?_
            · have := cells_new wr #[.int .i64 n, .string key] 92 t u hu
              rwa [add_none, Nat.zero_add] at this
            rintro e w4 ⟨v4, rfl, o4, g4, p4⟩
            have o4' : w4.ownsRow (w.heap.size + 1 + 1) 92 2 v4 (addS d.slots n key).length ((addS d.slots n key).map SlotR.cells).flatten := by rw [addS_length]; exact o4
            obtain ⟨a4, c4, rfl⟩ := (Row.of_own o4' rfl).form
            have z4 := g4.size
            have hal4 := hal' wr (.cells #[.int .i64 n, .string key] 92)
            simp only [World.size_alloc] at z4 p4
            refine ⟨a4, c4, rfl, o4', ?_, by omega, (xe.trans (hal4.mono xe.size)).grown g4 (by simp; omega) (fun j hj => (by have := (oX.lt j hj).1; omega)), fun b hb hh j => ?_⟩
            · rcases p4 with h | h
              · rw [h]; exact neV _ (by omega)
              · rw [h]; simp; omega
            · have hg := gcell g4 (b := b) (by simp; omega) (neV _ hh)
              exact ⟨(hg.1 j).trans ((bcell hal4).1 b j hb), (hg.2 j).trans ((bcell hal4).2 b j hb)⟩
          clear rR0 rR1 rR2 rF hx0 hx1 hx2 hxf rA0 rA1 rA2 hSw hS oA
          go_upto_region 10 with (go_at_call 94; refine hIns.mono ?_; rintro e w4 ⟨a4, c4, rfl, o4, hfar, z4, x4, hK⟩; have yA0 := (hK w.heap.size (by omega) (by omega) 0).1.trans pA0; have yA1 := (hK w.heap.size (by omega) (by omega) 1).1.trans pA1; have yA2 := (hK w.heap.size (by omega) (by omega) 2).1.trans pA2; have yX0 := (hK w2.heap.size (by omega) (by omega) 0).1.trans pX0; have yX1 := (hK w2.heap.size (by omega) (by omega) 1).1.trans pX1; have yX2 := (hK w2.heap.size (by omega) (by omega) 2).1.trans pX2; have yR0 := (hK (w.heap.size + 1) (by omega) (by omega) 0).1.trans pR0; have yR1 := (hK (w.heap.size + 1) (by omega) (by omega) 1).1.trans pR1; have yR2 := (hK (w.heap.size + 1) (by omega) (by omega) 2).1.trans pR2; have yXf := fun o => (hK w2.heap.size (by omega) (by omega) o).2.trans (pXf o); have yRf := fun o => (hK (w.heap.size + 1) (by omega) (by omega) o).2.trans (pRf o); clear hK hIns pA0 pA1 pA2 pX0 pX1 pX2 pR0 pR1 pR2 pXf pRf)
          have oS := own_far o4 ⟨w2.heap.size, 1, none⟩ (.slice a4 (addS d.slots n key).length c4) hfar
          have hIS : IsKeyDev (w4.setCell ⟨w2.heap.size, 1, none⟩ (.slice a4 (addS d.slots n key).length c4)) (.agg #[.string d.master, .slice a4 (addS d.slots n key).length c4, .int .i64 d.wiped]) (keyAddS d n key) := ⟨_, rfl, SlT.of_own oS (fun _ => rfl) (by decide)⟩
          have xS := Below.setCell x4 (p := ⟨w2.heap.size, 1, none⟩) (by simp <;> omega) (.slice a4 (addS d.slots n key).length c4)
          have zS : (w4.setCell ⟨w2.heap.size, 1, none⟩ (.slice a4 (addS d.slots n key).length c4)).heap.size = w4.heap.size := by simp
          have neA : w.heap.size ≠ w2.heap.size := by omega
          have neR : w.heap.size + 1 ≠ w2.heap.size := by omega
          have neR' : ¬ w2.heap.size = w.heap.size + 1 := by omega
          have neR'' : ¬ w.heap.size + 1 = w2.heap.size := by omega
          have tA0 := (sc_far (w := w4) (i := 1) (j := 0) (u := .slice a4 (addS d.slots n key).length c4) neA).trans yA0
          have tA1 := (sc_far (w := w4) (i := 1) (j := 1) (u := .slice a4 (addS d.slots n key).length c4) neA).trans yA1
          have tA2 := (sc_far (w := w4) (i := 1) (j := 2) (u := .slice a4 (addS d.slots n key).length c4) neA).trans yA2
          have tR0 := (sc_far (w := w4) (i := 1) (j := 0) (u := .slice a4 (addS d.slots n key).length c4) neR).trans yR0
          have tR1 := (sc_far (w := w4) (i := 1) (j := 1) (u := .slice a4 (addS d.slots n key).length c4) neR).trans yR1
          have tR2 := (sc_far (w := w4) (i := 1) (j := 2) (u := .slice a4 (addS d.slots n key).length c4) neR).trans yR2
          have tX0 := (sc_near (w := w4) (a := w2.heap.size) (i := 1) (j := 0) (u := .slice a4 (addS d.slots n key).length c4) (by decide)).trans yX0
          have tX1 := sc_same (u := .slice a4 (addS d.slots n key).length c4) yX1
          have tX2 := (sc_near (w := w4) (a := w2.heap.size) (i := 1) (j := 2) (u := .slice a4 (addS d.slots n key).length c4) (by decide)).trans yX2
          have tRf := fun o => (sc_frz (w := w4) (p := ⟨w2.heap.size, 1, none⟩) (u := .slice a4 (addS d.slots n key).length c4)).trans (yRf o)
          rcases hd2 : keyDevB (keyAddS d n key) with _ | _
          · have HR := Lib.hid (show keyAdd d n key = d from by simp [keyAdd, addB, hd, hd2])
            have HB := Lib.hid (show addB d n key = false from by simp [addB, hd2])
            go_wp2_with (first | (go_at_call 23; refine (implKeyOk _ (keyAddS d n key) _ hIS lS).mono ?_; rintro e w5 ⟨rfl, b5⟩; rw [hd2]; have x5 := xS.trans (b5.mono xS.size); have z5 := b5.size; rw [zS] at z5; obtain ⟨hc, hf⟩ := bcell b5; have sA0 := (hc w.heap.size 0 (by rw [zS]; omega)).trans tA0; have sA1 := (hc w.heap.size 1 (by rw [zS]; omega)).trans tA1; have sA2 := (hc w.heap.size 2 (by rw [zS]; omega)).trans tA2; have sX0 := (hc w2.heap.size 0 (by rw [zS]; omega)).trans tX0; have sX1 := (hc w2.heap.size 1 (by rw [zS]; omega)).trans tX1; have sX2 := (hc w2.heap.size 2 (by rw [zS]; omega)).trans tX2; have sR0 := (hc (w.heap.size + 1) 0 (by rw [zS]; omega)).trans tR0; have sR1 := (hc (w.heap.size + 1) 1 (by rw [zS]; omega)).trans tR1; have sR2 := (hc (w.heap.size + 1) 2 (by rw [zS]; omega)).trans tR2; have sRf := fun o => (hf (w.heap.size + 1) o (by rw [zS]; omega)).trans (tRf o); clear hc hf tA0 tA1 tA2 tR0 tR1 tR2 tX0 tX1 tX2 tRf yA0 yA1 yA2 yX0 yX1 yX2 yR0 yR1 yR2 yXf yRf) | (go_at_call 83; refine (copyKeys_row d ad cap _ (h0.below x5) l0).mono ?_; rintro e w6 ⟨v6, rfl, ⟨s6, rfl, r6⟩, b6⟩; obtain ⟨a6, c6, rfl⟩ := r6.form; have x6 := x5.trans (b6.mono x5.size); have z6 := b6.size; obtain ⟨hc, hf⟩ := bcell b6; have q0 := (hc (w.heap.size + 1) 0 (by omega)).trans sR0; have q1 := (hc (w.heap.size + 1) 1 (by omega)).trans sR1; have q2 := (hc (w.heap.size + 1) 2 (by omega)).trans sR2; have qf := fun o => (hf (w.heap.size + 1) o (by omega)).trans (sRf o); clear hc hf sR0 sR1 sR2 sRf))
            go_wp2
            refine bodyPost_ret (v := .tuple #[.agg #[.string d.master, .slice a6 d.slots.length c6, .int .i64 d.wiped], .bool false]) (by simp [results, Try.results57, go_sem, q0, q1, q2]) rfl ?_
            rw [HR.out, HB.out]
            refine ⟨_, rfl, ?_, ?_⟩
            · refine ⟨_, rfl, Row.of_own (n := d.slots.length) (own_mono (base := w.heap.size + 1 + 1) ?_ (by omega)) rfl⟩
              repeat (refine own_other ?_ _ (by simp <;> omega) _)
              exact own_mono r6.1 (by omega)
            · repeat (refine Below.setCell ?_ (by simp <;> omega) _)
              exact x6
          · have HR := Lib.hid (show keyAdd d n key = keyAddS d n key from by simp [keyAdd, addB, hd, hd2])
            have HB := Lib.hid (show addB d n key = true from by simp [addB, hd, hd2])
            go_wp2_with (go_at_call 23; refine (implKeyOk _ (keyAddS d n key) _ hIS lS).mono ?_; rintro e w5 ⟨rfl, b5⟩; rw [hd2]; have x5 := xS.trans (b5.mono xS.size); have z5 := b5.size; rw [zS] at z5; obtain ⟨hc, hf⟩ := bcell b5; have sA0 := (hc w.heap.size 0 (by rw [zS]; omega)).trans tA0; have sA1 := (hc w.heap.size 1 (by rw [zS]; omega)).trans tA1; have sA2 := (hc w.heap.size 2 (by rw [zS]; omega)).trans tA2; have sX0 := (hc w2.heap.size 0 (by rw [zS]; omega)).trans tX0; have sX1 := (hc w2.heap.size 1 (by rw [zS]; omega)).trans tX1; have sX2 := (hc w2.heap.size 2 (by rw [zS]; omega)).trans tX2; have sR0 := (hc (w.heap.size + 1) 0 (by rw [zS]; omega)).trans tR0; have sR1 := (hc (w.heap.size + 1) 1 (by rw [zS]; omega)).trans tR1; have sR2 := (hc (w.heap.size + 1) 2 (by rw [zS]; omega)).trans tR2; have sRf := fun o => (hf (w.heap.size + 1) o (by rw [zS]; omega)).trans (tRf o); clear hc hf tA0 tA1 tA2 tR0 tR1 tR2 tX0 tX1 tX2 tRf yA0 yA1 yA2 yX0 yX1 yX2 yR0 yR1 yR2 yXf yRf)
            go_wp2
            refine bodyPost_ret (v := .tuple #[.agg #[.string d.master, .slice a4 (addS d.slots n key).length c4, .int .i64 d.wiped], .bool true]) (by simp [results, Try.results57, go_sem, sX0, sX1, sX2, sR0, sR1, sR2, neR', neR'']) rfl ?_
            rw [HR.out, HB.out]
            refine ⟨_, rfl, ?_, ?_⟩
            · refine ⟨_, rfl, Row.of_own (n := (addS d.slots n key).length) (own_mono (base := w.heap.size + 1 + 1) ?_ (by omega)) rfl⟩
              repeat (refine own_other ?_ _ (by simp <;> omega) _)
              exact own_below oS b5
            · repeat (refine Below.setCell ?_ (by simp <;> omega) _)
              exact x5
end Go.Proofs.Ytcdcpdbolakfaaa

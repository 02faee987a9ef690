/- Walks: KeyWipe of the program. -/
import Derived.Test.YtcdcpdbolakfaaaKeyW
set_option linter.unusedVariables false
set_option linter.unusedSimpArgs false
namespace Go.Proofs.Ytcdcpdbolakfaaa
open Go.RowKit Sp Go.Sort

set_option maxRecDepth 100000 in
set_option maxHeartbeats 1600000 in
theorem implKeyWipe (d : KeyDevR) (n : Int) (ad : Addr) (cap : Nat) (w : World) (h0 : SlT SlotR.cells 2 w (.slice (some ad) d.slots.length cap) d.slots) (l0 : (d.slots.length : Int) ≤ 1048576) :
    Calls Try.prog 45 #[.agg #[.string d.master, .slice (some ad) d.slots.length cap, .int .i64 d.wiped], .int .i64 n] w fun e w' => ∃ v', e = .returned (.tuple #[v', .bool (wipeB d n)]) ∧ RowKeyDev w.heap.size w'.heap.size w' v' (keyWipe d n) ∧ Below w.heap.size w w' := by
  have hb2 : ∀ o₁ o₂ : Obj, RowKit.Below w.heap.size w ((w.alloc o₁).alloc o₂) := fun o₁ o₂ => ((Below.refl _ _).alloc (Nat.le_refl _) _).alloc (by simp <;> omega) _
  have hI : IsKeyDev w (.agg #[.string d.master, .slice (some ad) d.slots.length cap, .int .i64 d.wiped]) d := ⟨_, rfl, h0⟩
  rcases hd : keyDevB d with _ | _
  · have HR := Lib.hid (show keyWipe d n = noKeys from by simp [keyWipe, hd])
    have HB := Lib.hid (show wipeB d n = false from by simp [wipeB, hd])
    go_enter Try.func45, Try.ntmps45
    go_wp2_with (go_at_call 23; refine (implKeyOk _ d _ (hI.below (hb2 _ _)) l0).mono ?_; rintro e w1 ⟨rfl, b1⟩; rw [hd]; have x1 := Below.trans (hb2 _ _) (b1.mono (Below.size (hb2 _ _))); have z1 : w.heap.size + 1 < w1.heap.size := Nat.lt_of_lt_of_le (by simp) b1.size; obtain ⟨hc, hf⟩ := bcell b1; have cA1 := fun o => hc w.heap.size o (by first | omega | (simp <;> omega)); have fA1 := fun o => hf w.heap.size o (by first | omega | (simp <;> omega)); have cR1 := fun o => hc (w.heap.size + 1) o (by first | omega | (simp <;> omega)); have fR1 := fun o => hf (w.heap.size + 1) o (by first | omega | (simp <;> omega)); clear hc hf)
    go_wp2
    refine bodyPost_ret (v := .tuple #[.agg #[.string ByteArray.empty, .slice none 0 0, .int .i64 0], .bool false]) (by simp [results, Try.results45, go_sem, cA1, cR1] <;> rfl) rfl ?_
    rw [HR.out, HB.out]
    refine ⟨_, rfl, ?_, ?_⟩
    · exact ⟨_, rfl, Row.nil _ _ _⟩
    · repeat (refine Below.setCell ?_ (by simp <;> omega) _)
      exact x1
  have hwr := keyDevB_heads hd
  have hw1 : IntKind.i64.wrap (d.wiped + 1) = d.wiped + 1 := by rw [IntKind.wrap_i64]; omega
  go_enter Try.func45, Try.ntmps45
  go_wp2_with (go_at_call 23; refine (implKeyOk _ d _ (hI.below (hb2 _ _)) l0).mono ?_; rintro e w1 ⟨rfl, b1⟩; rw [hd]; have x1 := Below.trans (hb2 _ _) (b1.mono (Below.size (hb2 _ _))); have z1 : w.heap.size + 1 < w1.heap.size := Nat.lt_of_lt_of_le (by simp) b1.size; obtain ⟨hc, hf⟩ := bcell b1; have cA1 := fun o => hc w.heap.size o (by first | omega | (simp <;> omega)); have fA1 := fun o => hf w.heap.size o (by first | omega | (simp <;> omega)); have cR1 := fun o => hc (w.heap.size + 1) o (by first | omega | (simp <;> omega)); have fR1 := fun o => hf (w.heap.size + 1) o (by first | omega | (simp <;> omega)); clear hc hf)
  go_upto_region 4 with (go_at_call 83; refine (copyKeys_row d ad cap _ (h0.below x1) l0).mono ?_; rintro e w2 ⟨v2, rfl, ⟨s1, rfl, r2⟩, b2⟩; obtain ⟨ao, cp, rfl⟩ := r2.form; have x2 := x1.trans (b2.mono x1.size); have z2 := b2.size; obtain ⟨hc, hf⟩ := bcell b2; have cA2 := fun o => hc w.heap.size o (by first | omega | (simp <;> omega)); have fA2 := fun o => hf w.heap.size o (by first | omega | (simp <;> omega)); have cR2 := fun o => hc (w.heap.size + 1) o (by first | omega | (simp <;> omega)); have fR2 := fun o => hf (w.heap.size + 1) o (by first | omega | (simp <;> omega)); clear hc hf)
  have ks : ∀ k, (Value.slice ao d.slots.length cp).ownBlock = some k → k < w2.heap.size := r2.2
  have hx0 : (w2.alloc (.cells #[.string d.master, .slice ao d.slots.length cp, .int .i64 d.wiped] 36)).cell? ⟨w2.heap.size, 0, none⟩ = some (.string d.master) := by simp [go_sem]
  have hx1 : (w2.alloc (.cells #[.string d.master, .slice ao d.slots.length cp, .int .i64 d.wiped] 36)).cell? ⟨w2.heap.size, 1, none⟩ = some (.slice ao d.slots.length cp) := by simp [go_sem]
  have hx2 : (w2.alloc (.cells #[.string d.master, .slice ao d.slots.length cp, .int .i64 d.wiped] 36)).cell? ⟨w2.heap.size, 2, none⟩ = some (.int .i64 d.wiped) := by simp [go_sem]
  have hxf : ∀ o, (w2.alloc (.cells #[.string d.master, .slice ao d.slots.length cp, .int .i64 d.wiped] 36)).frozen? ⟨w2.heap.size, o, none⟩ = false := fun o => by simp [go_sem]
  have hsz : (w2.alloc (.cells #[.string d.master, .slice ao d.slots.length cp, .int .i64 d.wiped] 36)).heap.size = w2.heap.size + 1 := by simp
  have oA := (own_mono (base' := w.heap.size + 1 + 1) r2.1 (by omega)).alloc (.cells #[.string d.master, .slice ao d.slots.length cp, .int .i64 d.wiped] 36)
  have xW := x2.alloc x2.size (.cells #[.string d.master, .slice ao d.slots.length cp, .int .i64 d.wiped] 36)
  have hbW := hal' w2 (.cells #[.string d.master, .slice ao d.slots.length cp, .int .i64 d.wiped] 36)
  have rA1 : (w2.alloc (.cells #[.string d.master, .slice ao d.slots.length cp, .int .i64 d.wiped] 36)).cell? ⟨w.heap.size, 1, none⟩ = some (.slice (some ad) d.slots.length cap) := by rw [(bcell hbW).1 w.heap.size 1 (by omega), cA2, cA1]; simp [go_sem]
  have rA2 : (w2.alloc (.cells #[.string d.master, .slice ao d.slots.length cp, .int .i64 d.wiped] 36)).cell? ⟨w.heap.size, 2, none⟩ = some (.int .i64 d.wiped) := by rw [(bcell hbW).1 w.heap.size 2 (by omega), cA2, cA1]; simp [go_sem]
  have rA0 : (w2.alloc (.cells #[.string d.master, .slice ao d.slots.length cp, .int .i64 d.wiped] 36)).cell? ⟨w.heap.size, 0, none⟩ = some (.string d.master) := by rw [(bcell hbW).1 w.heap.size 0 (by omega), cA2, cA1]; simp [go_sem]
  have rR0 : (w2.alloc (.cells #[.string d.master, .slice ao d.slots.length cp, .int .i64 d.wiped] 36)).cell? ⟨w.heap.size + 1, 0, none⟩ = some (.string ByteArray.empty) := by rw [(bcell hbW).1 (w.heap.size + 1) 0 (by omega), cR2, cR1]; simp [go_sem] <;> rfl
  have rR1 : (w2.alloc (.cells #[.string d.master, .slice ao d.slots.length cp, .int .i64 d.wiped] 36)).cell? ⟨w.heap.size + 1, 1, none⟩ = some (.slice none 0 0) := by rw [(bcell hbW).1 (w.heap.size + 1) 1 (by omega), cR2, cR1]; simp [go_sem]
  have rR2 : (w2.alloc (.cells #[.string d.master, .slice ao d.slots.length cp, .int .i64 d.wiped] 36)).cell? ⟨w.heap.size + 1, 2, none⟩ = some (.int .i64 0) := by rw [(bcell hbW).1 (w.heap.size + 1) 2 (by omega), cR2, cR1]; simp [go_sem]
  have rF : ∀ o, (w2.alloc (.cells #[.string d.master, .slice ao d.slots.length cp, .int .i64 d.wiped] 36)).frozen? ⟨w.heap.size + 1, o, none⟩ = false := fun o => by rw [(bcell hbW).2 (w.heap.size + 1) o (by omega), fR2, fR1]; simp [go_sem]
  generalize (w2.alloc (.cells #[.string d.master, .slice ao d.slots.length cp, .int .i64 d.wiped] 36)) = W at hx0 hx1 hx2 hxf hsz oA xW rA0 rA1 rA2 rR0 rR1 rR2 rF ⊢
  clear hbW cA1 cR1 fA1 fR1 cA2 cR2 fA2 fR2
  have hIW : IsKeyDev W (.agg #[.string d.master, .slice (some ad) d.slots.length cap, .int .i64 d.wiped]) d := ⟨_, rfl, h0.below xW⟩
  have neR : ¬ w2.heap.size = w.heap.size + 1 := by omega
  have neR' : ¬ w.heap.size + 1 = w2.heap.size := by omega
  rcases slot_dec d.slots n with ⟨k, hk, he, hno⟩ | hno
  · have HJ : ∀ j, IsSlot d.slots n j → j = k := fun j => isSlot_hit hk he hno
    have hlt := others_lt hk he
    have hns : ¬ (others d.slots n).length = d.slots.length := by omega
    rcases hmx : (d.wiped == 1000000) with _ | _
    rotate_left
    · have HB := Lib.hid (show wipeB d n = false from by have : d.wiped = 1000000 := by simpa using hmx
                                                         simp [wipeB, this])
      have HR := Lib.hid (show keyWipe d n = d from by simp [keyWipe, hd, HB.out])
      clear hno he
      go_wp2_with (go_at_call 71; refine (slotOf_any _ d _ _ hIW l0).mono ?_; rintro e w3 ⟨j, rfl, hj, b3⟩; obtain rfl := HJ _ hj; clear hj; have x3 := xW.trans (b3.mono xW.size); have z3 := b3.size; obtain ⟨hc, hf⟩ := bcell b3; have y0 := (hc w2.heap.size 0 (by omega)).trans hx0; have y1 := (hc w2.heap.size 1 (by omega)).trans hx1; have y2 := (hc w2.heap.size 2 (by omega)).trans hx2; have yf := fun o => (hf w2.heap.size o (by omega)).trans (hxf o); have yA2 := (hc w.heap.size 2 (by omega)).trans rA2; have q0 := (hc (w.heap.size + 1) 0 (by omega)).trans rR0; have q1 := (hc (w.heap.size + 1) 1 (by omega)).trans rR1; have q2 := (hc (w.heap.size + 1) 2 (by omega)).trans rR2; have qf := fun o => (hf (w.heap.size + 1) o (by omega)).trans (rF o); have oX := own_below oA b3; clear hc hf rR0 rR1 rR2 rF hx0 hx1 hx2 hxf rA0 rA1 rA2)
      go_wp2
      refine bodyPost_ret (v := .tuple #[.agg #[.string d.master, .slice ao d.slots.length cp, .int .i64 d.wiped], .bool false]) (by simp [results, Try.results45, go_sem, y0, y1, y2, q0, q1, q2, neR, neR']) rfl ?_
      rw [HR.out, HB.out]
      refine ⟨_, rfl, ?_, ?_⟩
      · refine ⟨_, rfl, Row.of_own (n := d.slots.length) (own_mono (base := w.heap.size + 1 + 1) ?_ (by omega)) rfl⟩
        repeat (refine own_other ?_ _ (by simp <;> omega) _)
        exact oX
      · repeat (refine Below.setCell ?_ (by simp <;> omega) _)
        exact x3
    · have HB := Lib.hid (show wipeB d n = true from by have : d.wiped ≠ 1000000 := by simpa using hmx
                                                        simp [wipeB, hd, hns]; omega)
      have HR := Lib.hid (show keyWipe d n = ⟨d.master, others d.slots n, d.wiped + 1⟩ from by simp [keyWipe, hd, HB.out])
      have HC := Lib.hid (others_cut hd hk he)
      clear hno he
      obtain ⟨g, rfl⟩ : ∃ g, ao = some ⟨g, 0, none⟩ := by
        rcases (Row.of_own (l := d.slots) oA rfl).shape with ⟨hv, hn⟩ | ⟨g, c, hv, _⟩
        · rw [hn] at hk; simp at hk
        · simp at hv; exact ⟨g, hv.1⟩
      have hg := oA.lt g rfl
      have hg2 := ks g rfl
      have hcp : d.slots.length ≤ cp ∧ cp ≤ 9223372036854775807 := by
        rcases (Row.of_own (l := d.slots) oA rfl).shape with ⟨hv, hn⟩ | ⟨g, c, hv, h1, h2, _⟩
        · rw [hn] at hk; simp at hk
        · simp at hv; rw [hv.2]; exact ⟨h1, h2⟩
      have hwr2 : IntKind.i64.wrap ((k : Int) + 1) = (k : Int) + 1 := by rw [IntKind.wrap_i64]; omega
      go_upto_region 7 with (go_at_call 71; refine (slotOf_any _ d _ _ hIW l0).mono ?_; rintro e w3 ⟨j, rfl, hj, b3⟩; obtain rfl := HJ _ hj; clear hj; have x3 := xW.trans (b3.mono xW.size); have z3 := b3.size; obtain ⟨hc, hf⟩ := bcell b3; have y0 := (hc w2.heap.size 0 (by omega)).trans hx0; have y1 := (hc w2.heap.size 1 (by omega)).trans hx1; have y2 := (hc w2.heap.size 2 (by omega)).trans hx2; have yf := fun o => (hf w2.heap.size o (by omega)).trans (hxf o); have yA2 := (hc w.heap.size 2 (by omega)).trans rA2; have q0 := (hc (w.heap.size + 1) 0 (by omega)).trans rR0; have q1 := (hc (w.heap.size + 1) 1 (by omega)).trans rR1; have q2 := (hc (w.heap.size + 1) 2 (by omega)).trans rR2; have qf := fun o => (hf (w.heap.size + 1) o (by omega)).trans (rF o); have oX := own_below oA b3; clear hc hf rR0 rR1 rR2 rF hx0 hx1 hx2 hxf rA0 rA1 rA2)
      go_wp2_with (go_at_call 84; refine (delete_any g cp d.slots k hk hcp.1 hcp.2 (w.heap.size + 1 + 1) _ oX).mono ?_; rintro e w4 ⟨rfl, o4, g4⟩; have z4 := g4.size; have hb4 := gcell g4 (b := w2.heap.size) (by omega) (by simp; omega); have hr4 := gcell g4 (b := w.heap.size + 1) (by omega) (by simp; omega); have y0' := (hb4.1 0).trans y0; have y1' := (hb4.1 1).trans y1; have y2' := (hb4.1 2).trans y2; have yf' := fun o => (hb4.2 o).trans (yf o); have q0' := (hr4.1 0).trans q0; have q1' := (hr4.1 1).trans q1; have q2' := (hr4.1 2).trans q2; have qf' := fun o => (hr4.2 o).trans (qf o); have x4 := x3.grown g4 (by omega) (fun j hj => by obtain rfl := Option.some.inj hj; omega); clear hb4 hr4)
      go_wp2
      have hln : (others d.slots n).length = d.slots.length - 1 := by rw [HC.out]; simp; omega
      refine bodyPost_ret (v := .tuple #[.agg #[.string d.master, .slice (some ⟨g, 0, none⟩) (d.slots.length - 1) cp, .int .i64 (d.wiped + 1)], .bool true]) (by simp [results, Try.results45, go_sem, y0', y1', y2', q0', q1', q2', neR, neR']) rfl ?_
      rw [HR.out, HB.out]
      refine ⟨_, rfl, ⟨_, rfl, Row.of_own (n := d.slots.length - 1) (own_mono (base := w.heap.size + 1 + 1) ?_ (by omega)) hln.symm⟩, ?_⟩
      · simp only [HC.out]
        repeat (first | refine own_other ?_ _ (by first | (simp; done) | (simp; omega)) _ | refine own_far ?_ _ _ (by simp [Value.ownBlock]; omega))
        exact o4
      · repeat (refine Below.setCell ?_ (by simp <;> omega) _)
        exact x4
  · have HJ : ∀ j, IsSlot d.slots n j → j = -1 := fun j => isSlot_none hno
    have HN := others_none hno
    have HB := Lib.hid (show wipeB d n = false from by simp [wipeB, HN])
    have HR := Lib.hid (show keyWipe d n = d from by simp [keyWipe, hd, HB.out])
    clear hno
    go_wp2_with (go_at_call 71; refine (slotOf_any _ d _ _ hIW l0).mono ?_; rintro e w3 ⟨j, rfl, hj, b3⟩; obtain rfl := HJ _ hj; clear hj; have x3 := xW.trans (b3.mono xW.size); have z3 := b3.size; obtain ⟨hc, hf⟩ := bcell b3; have y0 := (hc w2.heap.size 0 (by omega)).trans hx0; have y1 := (hc w2.heap.size 1 (by omega)).trans hx1; have y2 := (hc w2.heap.size 2 (by omega)).trans hx2; have yf := fun o => (hf w2.heap.size o (by omega)).trans (hxf o); have yA2 := (hc w.heap.size 2 (by omega)).trans rA2; have q0 := (hc (w.heap.size + 1) 0 (by omega)).trans rR0; have q1 := (hc (w.heap.size + 1) 1 (by omega)).trans rR1; have q2 := (hc (w.heap.size + 1) 2 (by omega)).trans rR2; have qf := fun o => (hf (w.heap.size + 1) o (by omega)).trans (rF o); have oX := own_below oA b3; clear hc hf rR0 rR1 rR2 rF hx0 hx1 hx2 hxf rA0 rA1 rA2)
    go_wp2
    refine bodyPost_ret (v := .tuple #[.agg #[.string d.master, .slice ao d.slots.length cp, .int .i64 d.wiped], .bool false]) (by simp [results, Try.results45, go_sem, y0, y1, y2, q0, q1, q2, neR, neR']) rfl ?_
    rw [HR.out, HB.out]
    refine ⟨_, rfl, ?_, ?_⟩
    · refine ⟨_, rfl, Row.of_own (n := d.slots.length) (own_mono (base := w.heap.size + 1 + 1) ?_ (by omega)) rfl⟩
      repeat (refine own_other ?_ _ (by simp <;> omega) _)
      exact oX
    · repeat (refine Below.setCell ?_ (by simp <;> omega) _)
      exact x3
end Go.Proofs.Ytcdcpdbolakfaaa

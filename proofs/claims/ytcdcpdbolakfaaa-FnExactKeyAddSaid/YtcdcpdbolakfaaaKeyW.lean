/- Walks: KeyWipe of the reference and of the program. -/
import Derived.Test.YtcdcpdbolakfaaaKeyWP
import Derived.Test.YtcdcpdbolakfaaaKeyC
import Derived.Lib.Hide
set_option linter.unusedVariables false
set_option linter.unusedSimpArgs false
namespace Go.Proofs.Ytcdcpdbolakfaaa
open Go.RowKit Sp Go.Sort
theorem hal' (W : World) (o : Obj) : RowKit.Below W.heap.size W (W.alloc o) := (Below.refl _ _).alloc (Nat.le_refl _) _

set_option maxRecDepth 100000 in
set_option maxHeartbeats 1600000 in
theorem specKeyWipe (d : KeyDevR) (n : Int) (ad : Addr) (cap : Nat) (w : World) (h0 : SlT SlotR.cells 2 w (.slice (some ad) d.slots.length cap) d.slots) (l0 : (d.slots.length : Int) ≤ 1048576) :
    Calls Try.prog 44 #[.agg #[.string d.master, .slice (some ad) d.slots.length cap, .int .i64 d.wiped], .int .i64 n] w fun e w' => ∃ v', e = .returned (.tuple #[v', .bool (wipeB d n)]) ∧ IsKeyDev w' v' (keyWipe d n) ∧ Below w.heap.size w w' := by
  have hb2 : ∀ o₁ o₂ : Obj, RowKit.Below w.heap.size w ((w.alloc o₁).alloc o₂) := fun o₁ o₂ => ((Below.refl _ _).alloc (Nat.le_refl _) _).alloc (by simp <;> omega) _
  have hI : IsKeyDev w (.agg #[.string d.master, .slice (some ad) d.slots.length cap, .int .i64 d.wiped]) d := ⟨_, rfl, h0⟩
  rcases hd : keyDevB d with _ | _
  · have HR := Lib.hid (show keyWipe d n = noKeys from by simp [keyWipe, hd])
    have HB := Lib.hid (show wipeB d n = false from by simp [wipeB, hd])
    go_enter Try.func44, Try.ntmps44
    go_wp2_with (go_at_call 21; refine (specKeyOk _ d _ (hI.below (hb2 _ _)) l0).mono ?_; rintro e w1 ⟨rfl, b1⟩; rw [hd]; have x1 := Below.trans (hb2 _ _) (b1.mono (Below.size (hb2 _ _))); have z1 : w.heap.size + 1 < w1.heap.size := Nat.lt_of_lt_of_le (by simp) b1.size; obtain ⟨hc, hf⟩ := bcell b1; have cA1 := fun o => hc w.heap.size o (by first | omega | (simp <;> omega)); have fA1 := fun o => hf w.heap.size o (by first | omega | (simp <;> omega)); have cR1 := fun o => hc (w.heap.size + 1) o (by first | omega | (simp <;> omega)); have fR1 := fun o => hf (w.heap.size + 1) o (by first | omega | (simp <;> omega)); clear hc hf)
    go_wp2
    refine bodyPost_ret (v := .tuple #[.agg #[.string ByteArray.empty, .slice none 0 0, .int .i64 0], .bool false]) (by simp [results, Try.results44, go_sem, cA1, cR1] <;> rfl) rfl ?_
    rw [HR.out, HB.out]
    refine ⟨_, rfl, ?_, ?_⟩
    · exact ⟨_, rfl, (Row.nil (T := 0) _ 0 0).slT (fun _ => rfl) (by decide)⟩
    · repeat (refine Below.setCell ?_ (by simp <;> omega) _)
      exact x1
  have hwr := keyDevB_heads hd
  have hw1 : IntKind.i64.wrap (d.wiped + 1) = d.wiped + 1 := by rw [IntKind.wrap_i64]; omega
  go_enter Try.func44, Try.ntmps44
  go_wp2_with (go_at_call 21; refine (specKeyOk _ d _ (hI.below (hb2 _ _)) l0).mono ?_; rintro e w1 ⟨rfl, b1⟩; rw [hd]; have x1 := Below.trans (hb2 _ _) (b1.mono (Below.size (hb2 _ _))); have z1 : w.heap.size + 1 < w1.heap.size := Nat.lt_of_lt_of_le (by simp) b1.size; obtain ⟨hc, hf⟩ := bcell b1; have cA1 := fun o => hc w.heap.size o (by first | omega | (simp <;> omega)); have fA1 := fun o => hf w.heap.size o (by first | omega | (simp <;> omega)); have cR1 := fun o => hc (w.heap.size + 1) o (by first | omega | (simp <;> omega)); have fR1 := fun o => hf (w.heap.size + 1) o (by first | omega | (simp <;> omega)); clear hc hf)
  go_upto_region 4 with (go_at_call 82; refine (l4Copy_row d ad cap _ (h0.below x1) l0).mono ?_; rintro e w2 ⟨v2, rfl, ⟨s1, rfl, r2⟩, b2⟩; obtain ⟨ao, cp, rfl⟩ := r2.form; have x2 := x1.trans (b2.mono x1.size); have z2 := b2.size; obtain ⟨hc, hf⟩ := bcell b2; have cA2 := fun o => hc w.heap.size o (by first | omega | (simp <;> omega)); have fA2 := fun o => hf w.heap.size o (by first | omega | (simp <;> omega)); have cR2 := fun o => hc (w.heap.size + 1) o (by first | omega | (simp <;> omega)); have fR2 := fun o => hf (w.heap.size + 1) o (by first | omega | (simp <;> omega)); clear hc hf)
  have hx0 : (w2.alloc (.cells #[.string d.master, .slice ao d.slots.length cp, .int .i64 d.wiped] 36)).cell? ⟨w2.heap.size, 0, none⟩ = some (.string d.master) := by simp [go_sem]
  have hx1 : (w2.alloc (.cells #[.string d.master, .slice ao d.slots.length cp, .int .i64 d.wiped] 36)).cell? ⟨w2.heap.size, 1, none⟩ = some (.slice ao d.slots.length cp) := by simp [go_sem]
  have hx2 : (w2.alloc (.cells #[.string d.master, .slice ao d.slots.length cp, .int .i64 d.wiped] 36)).cell? ⟨w2.heap.size, 2, none⟩ = some (.int .i64 d.wiped) := by simp [go_sem]
  have hxf : ∀ o, (w2.alloc (.cells #[.string d.master, .slice ao d.slots.length cp, .int .i64 d.wiped] 36)).frozen? ⟨w2.heap.size, o, none⟩ = false := fun o => by simp [go_sem]
  have hsz : (w2.alloc (.cells #[.string d.master, .slice ao d.slots.length cp, .int .i64 d.wiped] 36)).heap.size = w2.heap.size + 1 := by simp
  have oA := (own_mono (base' := w.heap.size + 1 + 1) r2.1 (by omega)).alloc (.cells #[.string d.master, .slice ao d.slots.length cp, .int .i64 d.wiped] 36)
  have xW := x2.alloc x2.size (.cells #[.string d.master, .slice ao d.slots.length cp, .int .i64 d.wiped] 36)
  have hbW := hal' w2 (.cells #[.string d.master, .slice ao d.slots.length cp, .int .i64 d.wiped] 36)
  have rA1 : (w2.alloc (.cells #[.string d.master, .slice ao d.slots.length cp, .int .i64 d.wiped] 36)).cell? ⟨w.heap.size, 1, none⟩ = some (.slice (some ad) d.slots.length cap) := by rw [(bcell hbW).1 w.heap.size 1 (by omega), cA2, cA1]; simp [go_sem]
  have rA2 : (w2.alloc (.cells #[.string d.master, .slice ao d.slots.length cp, .int .i64 d.wiped] 36)).cell? ⟨w.heap.size, 2, none⟩ = some (.int .i64 d.wiped) := by rw [(bcell hbW).1 w.heap.size 2 (by omega), cA2, cA1]; simp [go_sem]
  have rA0 : (w2.alloc (.cells #[.string d.master, .slice ao d.slots.length cp, .int .i64 d.wiped] 36)).cell? ⟨w.heap.size, 0, none⟩ = some (.string d.master) := by rw [(bcell hbW).1 w.heap.size 0 (by omega), cA2, cA1]; simp [go_sem]
  have rR0 : (w2.alloc (.cells #[.string d.master, .slice ao d.slots.length cp, .int .i64 d.wiped] 36)).cell? ⟨w.heap.size + 1, 0, none⟩ = some (.string ByteArray.empty) := by rw [(bcell hbW).1 (w.heap.size + 1) 0 (by omega), cR2, cR1]; simp [go_sem] <;> rfl
  have rR1 : (w2.alloc (.cells #[.string d.master, .slice ao d.slots.length cp, .int .i64 d.wiped] 36)).cell? ⟨w.heap.size + 1, 1, none⟩ = some (.slice none 0 0) := by rw [(bcell hbW).1 (w.heap.size + 1) 1 (by omega), cR2, cR1]; simp [go_sem]
  have rR2 : (w2.alloc (.cells #[.string d.master, .slice ao d.slots.length cp, .int .i64 d.wiped] 36)).cell? ⟨w.heap.size + 1, 2, none⟩ = some (.int .i64 0) := by rw [(bcell hbW).1 (w.heap.size + 1) 2 (by omega), cR2, cR1]; simp [go_sem]
  have rF : ∀ o, (w2.alloc (.cells #[.string d.master, .slice ao d.slots.length cp, .int .i64 d.wiped] 36)).frozen? ⟨w.heap.size + 1, o, none⟩ = false := fun o => by rw [(bcell hbW).2 (w.heap.size + 1) o (by omega), fR2, fR1]; simp [go_sem]
  generalize (w2.alloc (.cells #[.string d.master, .slice ao d.slots.length cp, .int .i64 d.wiped] 36)) = W at hx0 hx1 hx2 hxf hsz oA xW rA0 rA1 rA2 rR0 rR1 rR2 rF ⊢
  clear hbW cA1 cR1 fA1 fR1 cA2 cR2 fA2 fR2
  go_wp2
  have oZ : (W.alloc (.cells #[] 92)).ownsRow (w2.heap.size + 1) 92 2 (.slice (some ⟨w2.heap.size + 1, 0, none⟩) 0 0) 0 [] := own0 hsz (Nat.le_refl _)
  have bZ : RowKit.Below (w2.heap.size + 1) W (W.alloc (.cells #[] 92)) := (Below.refl _ _).alloc (by omega) _
  go_loopw [7, 8] (fun o i wr => ∃ k : Nat, k ≤ d.slots.length ∧ i = .int .i64 k ∧ wr.ownsRow (w2.heap.size + 1) 92 2 o (others (d.slots.take k) n).length ((others (d.slots.take k) n).map SlotR.cells).flatten ∧ RowKit.Below (w2.heap.size + 1) W wr) (fun _ i _ => d.slots.length - (intOf i).toNat)
  case atStart => exact ⟨0, by omega, rfl, by simpa [others] using oZ, bZ⟩
  case round =>
    obtain ⟨k, hk, rfl, hr, hbl⟩ := hrel
    obtain ⟨hc, hf⟩ := bcellB hbl
    have yA0 := (hc w.heap.size 0 (by omega)).trans rA0
    have yA1 := (hc w.heap.size 1 (by omega)).trans rA1
    have yA2 := (hc w.heap.size 2 (by omega)).trans rA2
    have hzw := hbl.size
    obtain ⟨oo, co, rfl⟩ := (Row.of_own hr rfl).form
    by_cases hlt : k < d.slots.length
    · obtain ⟨bo', cp', hv, hlc, hcm, hsh⟩ := h0.shape
      obtain ⟨b, off, hb, hbs, hcc⟩ := hsh (by omega)
      obtain rfl : ad = ⟨b, off, none⟩ := by simp at hv; rw [hb] at hv; simpa using hv.1
      have e0 : wr.cell? ⟨b, off + k * 2, none⟩ = some (.int .i64 d.slots[k].ten) := (hc b _ (by omega)).trans ((xW.cell (p := ⟨b, off + k * 2, none⟩) hbs).trans (hcc k hlt 0 _ rfl))
      have e1 : wr.cell? ⟨b, off + k * 2 + 1, none⟩ = some (.string d.slots[k].key) := (hc b _ (by omega)).trans ((xW.cell (p := ⟨b, off + k * 2 + 1, none⟩) hbs).trans (hcc k hlt 1 _ rfl))
      have HS := Lib.hid (others_step d.slots n k hlt)
      have hle : (others (d.slots.take k) n).length ≤ 4 := by have := others_le (d.slots.take k) n; simp at this; omega
      clear hcc hsh hv hb hc hf
      by_cases hq : d.slots[k].ten = n
      · go_wp2
        go_roundw
        case rel => exact ⟨k + 1, by omega, by go_num, by rw [HS.out, if_pos hq]; exact hr, hbl⟩
        case measure => simp [intOf]; omega
      · go_wp2_with (at_builtin; refine app_new_at rfl rfl Try.underlying34 info_KeySlot rfl (by decide) hr rfl 1 rfl rfl (by simp [Value.oneCell']) (by omega) hbl (Nat.le_refl _) (by omega) ?_; intro v3 w3 o3 x3 g3 p3)
        go_roundw
        case rel => exact ⟨k + 1, by omega, by go_num, by rw [HS.out, if_neg hq]; simpa [SlotR.cells] using o3, x3⟩
        case measure => simp [intOf]; omega
    · obtain rfl : k = d.slots.length := by omega
      rw [List.take_length] at hr
      have xe : RowKit.Below w.heap.size w wr := xW.trans (hbl.mono (show w.heap.size ≤ w2.heap.size + 1 from by omega))
      have hblW : RowKit.Below W.heap.size W wr := by rw [hsz]; exact hbl
      have oX := own_below oA hblW
      have y0 := (hc w2.heap.size 0 (by omega)).trans hx0
      have y1 := (hc w2.heap.size 1 (by omega)).trans hx1
      have y2 := (hc w2.heap.size 2 (by omega)).trans hx2
      have yf := fun o => (hf w2.heap.size o (by omega)).trans (hxf o)
      have q0 := (hc (w.heap.size + 1) 0 (by omega)).trans rR0
      have q1 := (hc (w.heap.size + 1) 1 (by omega)).trans rR1
      have q2 := (hc (w.heap.size + 1) 2 (by omega)).trans rR2
      have qf := fun o => (hf (w.heap.size + 1) o (by omega)).trans (rF o)
      have neR : ¬ w2.heap.size = w.heap.size + 1 := by omega
      have neR' : ¬ w.heap.size + 1 = w2.heap.size := by omega
      have hle := others_le d.slots n
      clear hc hf rR0 rR1 rR2 rF hx0 hx1 hx2 hxf oZ bZ hbl
      rw [List.take_length] at *
      by_cases hsame : (others d.slots n).length = d.slots.length
      · have HB := Lib.hid (show wipeB d n = false from by simp [wipeB, hsame])
        have HR := Lib.hid (show keyWipe d n = d from by simp [keyWipe, hd, HB.out])
        have hsi : ((others d.slots n).length : Int) = d.slots.length := by omega
        rw [hsame]
        go_wp2
        refine bodyPost_ret (v := .tuple #[.agg #[.string d.master, .slice ao d.slots.length cp, .int .i64 d.wiped], .bool false]) (by simp [results, Try.results44, go_sem, y0, y1, y2, q0, q1, q2, neR, neR']) rfl ?_
        rw [HR.out, HB.out]
        refine ⟨_, rfl, ?_, ?_⟩
        · refine ⟨_, rfl, SlT.of_own (base := w.heap.size + 1 + 1) (e := 92) (n := d.slots.length) ?_ (fun _ => rfl) (by decide)⟩
          repeat (refine own_other ?_ _ (by simp <;> omega) _)
          exact oX
        · repeat (refine Below.setCell ?_ (by simp <;> omega) _)
          exact xe
      by_cases hmx : (1000000 : Int) ≤ d.wiped
      · have hns : ¬ ((others d.slots n).length : Int) = d.slots.length := by omega
        have HB := Lib.hid (show wipeB d n = false from by simp [wipeB]; omega)
        have HR := Lib.hid (show keyWipe d n = d from by simp [keyWipe, hd, HB.out])
        go_wp2
        refine bodyPost_ret (v := .tuple #[.agg #[.string d.master, .slice ao d.slots.length cp, .int .i64 d.wiped], .bool false]) (by simp [results, Try.results44, go_sem, y0, y1, y2, q0, q1, q2, neR, neR']) rfl ?_
        rw [HR.out, HB.out]
        refine ⟨_, rfl, ?_, ?_⟩
        · refine ⟨_, rfl, SlT.of_own (base := w.heap.size + 1 + 1) (e := 92) (n := d.slots.length) ?_ (fun _ => rfl) (by decide)⟩
          repeat (refine own_other ?_ _ (by simp <;> omega) _)
          exact oX
        · repeat (refine Below.setCell ?_ (by simp <;> omega) _)
          exact xe
      · have hns : ¬ ((others d.slots n).length : Int) = d.slots.length := by omega
        have HB := Lib.hid (show wipeB d n = true from by simp [wipeB, hd, hsame]; omega)
        have HR := Lib.hid (show keyWipe d n = ⟨d.master, others d.slots n, d.wiped + 1⟩ from by simp [keyWipe, hd, HB.out])
        go_wp2
        refine bodyPost_ret (v := .tuple #[.agg #[.string d.master, .slice oo (others d.slots n).length co, .int .i64 (d.wiped + 1)], .bool true]) (by simp [results, Try.results44, go_sem, y0, y1, y2, q0, q1, q2, neR, neR']) rfl ?_
        rw [HR.out, HB.out]
        refine ⟨_, rfl, ?_, ?_⟩
        · refine ⟨_, rfl, SlT.of_own (base := w2.heap.size + 1) (e := 92) (n := (others d.slots n).length) ?_ (fun _ => rfl) (by decide)⟩
          repeat (refine own_other ?_ _ (by simp <;> omega) _)
          exact hr
        · repeat (refine Below.setCell ?_ (by simp <;> omega) _)
          exact xe
end Go.Proofs.Ytcdcpdbolakfaaa

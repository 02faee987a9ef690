/- Walks: KeyOf of the reference and of the program. -/
import Derived.Test.YtcdcpdbolakfaaaKeyF
import Derived.LoopN
set_option linter.unusedVariables false
set_option linter.unusedSimpArgs false
namespace Go.Proofs.Ytcdcpdbolakfaaa
open Go.RowKit Sp Go.Sort
namespace Sp
def keyFind (l : List SlotR) (n : Int) : ByteArray := match l.find? (fun x => x.ten == n) with
  | some x => x.key
  | none => ByteArray.empty
def slotKeyOf (d : KeyDevR) (n : Int) : ByteArray := if keyDevB d then keyFind d.slots n else ByteArray.empty
theorem slotKeyOf_hit {d : KeyDevR} {n : Int} {k : Nat} (hm : keyDevB d = true) (hk : k < d.slots.length) (he : d.slots[k].ten = n) (hno : ∀ i (hi : i < d.slots.length), i < k → d.slots[i].ten ≠ n) : slotKeyOf d n = d.slots[k].key := by
  unfold slotKeyOf keyFind
  rw [if_pos hm, (List.find?_eq_some_iff_getElem (p := fun x : SlotR => x.ten == n) (b := d.slots[k])).2 ⟨by simp [he], k, hk, rfl, fun j hj => by simpa using hno j (by omega) hj⟩]
theorem slotKeyOf_miss {d : KeyDevR} {n : Int} (hno : ∀ i (hi : i < d.slots.length), d.slots[i].ten ≠ n) : slotKeyOf d n = ByteArray.empty := by
  unfold slotKeyOf keyFind
  have h : d.slots.find? (fun x => x.ten == n) = none := by
    rw [List.find?_eq_none]
    intro x hx
    obtain ⟨i, hi, rfl⟩ := List.mem_iff_getElem.1 hx
    simpa using hno i hi
  rw [h]; simp
theorem slotKeyOf_bad {d : KeyDevR} {n : Int} (hm : keyDevB d = false) : slotKeyOf d n = ByteArray.empty := by unfold slotKeyOf; rw [if_neg (by simp [hm])]
theorem slot_dec (l : List SlotR) (n : Int) : (∃ k : Nat, ∃ h : k < l.length, l[k].ten = n ∧ ∀ i (hi : i < l.length), i < k → l[i].ten ≠ n) ∨ ∀ i (hi : i < l.length), l[i].ten ≠ n := by
  cases hf : l.find? (fun x => x.ten == n) with
  | some x =>
    obtain ⟨h1, k, hk, h2, h3⟩ := List.find?_eq_some_iff_getElem.1 hf
    refine .inl ⟨k, hk, by rw [h2]; simpa using h1, fun i hi hik => by simpa using h3 i hik⟩
  | none =>
    refine .inr fun i hi => ?_
    have := List.find?_eq_none.1 hf l[i] (List.getElem_mem _)
    simpa using this
theorem isSlot_hit {l : List SlotR} {n j : Int} {k : Nat} (hk : k < l.length) (he : l[k].ten = n) (hno : ∀ i (hi : i < l.length), i < k → l[i].ten ≠ n) (h : IsSlot l n j) : j = k := by
  rcases h with ⟨k', hk', rfl, he', hno'⟩ | ⟨rfl, hno'⟩
  · rcases Nat.lt_trichotomy k k' with h | h | h
    · exact absurd he (hno' k h)
    · rw [h]
    · exact absurd he' (hno k' hk' h)
  · exact absurd he (hno' k hk)
theorem isSlot_none {l : List SlotR} {n j : Int} (hno : ∀ i (hi : i < l.length), l[i].ten ≠ n) (h : IsSlot l n j) : j = -1 := by
  rcases h with ⟨k', hk', rfl, he', hno'⟩ | ⟨rfl, hno'⟩
  · exact absurd he' (hno k' hk')
  · rfl
end Sp

set_option maxRecDepth 100000 in
set_option maxHeartbeats 1600000 in
theorem implKeyOf (v : Value) (d : KeyDevR) (n : Int) (w : World) (h : IsKeyDev w v d) (hl : (d.slots.length : Int) ≤ 1048576) :
    Calls Try.prog 31 #[v, .int .i64 n] w fun e w' => e = .returned (.string (slotKeyOf d n)) ∧ Below w.heap.size w w' := by
  have hcopy := h
  obtain ⟨s1, hv, h1⟩ := hcopy
  obtain ⟨ao, cap, hv1, hlc, hcm, hsh⟩ := h1.shape
  subst hv hv1
  have hbox : ∀ o : Obj, RowKit.Below w.heap.size w (w.alloc o) := fun o => (Below.refl _ _).alloc (Nat.le_refl _) _
  rcases slot_dec d.slots n with ⟨k, hk, he, hno⟩ | hno
  · obtain ⟨b, off, rfl, hb, hc⟩ := hsh (by omega)
    have hc1 : w.cell? ⟨b, off + k * 2 + 1, none⟩ = some (.string d.slots[k].key) := hc k hk 1 _ rfl
    have HJ : ∀ j, IsSlot d.slots n j → j = k := fun j => isSlot_hit hk he hno
    clear hsh hc
    by_cases hm : keyDevB d = true
    · have HR := Lib.hid (slotKeyOf_hit hm hk he hno)
      clear he hno
      go_enter Try.func31, Try.ntmps31
      go_wp2_with (go_at_call 71; refine (slotOf_any _ d _ _ (h.below (hbox _)) hl).mono ?_; rintro e w1 ⟨j, rfl, hj, b1⟩; obtain rfl := HJ _ hj; clear hj; have x1 := Below.trans (hbox _) (b1.mono (Below.size (hbox _))); have ca := fun o => (bcell b1).1 w.heap.size o (by simp <;> omega); have hz1 : w.heap.size < w1.heap.size := Nat.lt_of_lt_of_le (by simp <;> omega) b1.size)
      go_wp2_with (go_at_call 23; refine (implKeyOk _ d _ (h.below x1) hl).mono ?_; rintro e w2 ⟨rfl, b2⟩; rw [hm]; have x2 := x1.trans (b2.mono x1.size); have cb := fun o => (bcell b2).1 w.heap.size o hz1; have hq := (x2.cell (by exact hb)).trans hc1)
      go_ret
      exact ⟨by rw [HR.out]; rfl, x2⟩
    · have hm' : keyDevB d = false := by simpa using hm
      have HR := Lib.hid (slotKeyOf_bad (n := n) hm')
      clear he hno
      go_enter Try.func31, Try.ntmps31
      go_wp2_with (go_at_call 71; refine (slotOf_any _ d _ _ (h.below (hbox _)) hl).mono ?_; rintro e w1 ⟨j, rfl, hj, b1⟩; obtain rfl := HJ _ hj; clear hj; have x1 := Below.trans (hbox _) (b1.mono (Below.size (hbox _))); have ca := fun o => (bcell b1).1 w.heap.size o (by simp <;> omega); have hz1 : w.heap.size < w1.heap.size := Nat.lt_of_lt_of_le (by simp <;> omega) b1.size)
      go_wp2_with (go_at_call 23; refine (implKeyOk _ d _ (h.below x1) hl).mono ?_; rintro e w2 ⟨rfl, b2⟩; rw [hm']; have x2 := x1.trans (b2.mono x1.size))
      go_ret
      exact ⟨by rw [HR.out]; rfl, x2⟩
  · have HR := Lib.hid (slotKeyOf_miss hno)
    have HJ : ∀ j, IsSlot d.slots n j → j = -1 := fun j => isSlot_none hno
    clear hno hsh
    go_enter Try.func31, Try.ntmps31
    go_wp2_with (go_at_call 71; refine (slotOf_any _ d _ _ (h.below (hbox _)) hl).mono ?_; rintro e w1 ⟨j, rfl, hj, b1⟩; obtain rfl := HJ _ hj; clear hj; have x1 := Below.trans (hbox _) (b1.mono (Below.size (hbox _))); have ca := fun o => (bcell b1).1 w.heap.size o (by simp <;> omega); have hz1 : w.heap.size < w1.heap.size := Nat.lt_of_lt_of_le (by simp <;> omega) b1.size)
    go_ret
    exact ⟨by rw [HR.out]; rfl, x1⟩

set_option maxRecDepth 100000 in
set_option maxHeartbeats 1600000 in
theorem specKeyOf (v : Value) (d : KeyDevR) (n : Int) (w : World) (h : IsKeyDev w v d) (hl : (d.slots.length : Int) ≤ 1048576) :
    Calls Try.prog 30 #[v, .int .i64 n] w fun e w' => e = .returned (.string (slotKeyOf d n)) ∧ Below w.heap.size w w' := by
  have hcopy := h
  obtain ⟨s1, hv, h1⟩ := hcopy
  obtain ⟨ao, cap, hv1, hlc, hcm, hsh⟩ := h1.shape
  subst hv hv1
  have hbox : ∀ o : Obj, RowKit.Below w.heap.size w (w.alloc o) := fun o => (Below.refl _ _).alloc (Nat.le_refl _) _
  by_cases hm : keyDevB d = true
  · go_enter Try.func30, Try.ntmps30
    go_wp2
    go_loopw [5] (fun i wr => ∃ k : Nat, (k : Int) ≤ d.slots.length ∧ i = .int .i64 k ∧ (∀ i (hi : i < d.slots.length), i < k → d.slots[i].ten ≠ n) ∧ Below w.heap.size w wr ∧ w.heap.size < wr.heap.size ∧ wr.cell? ⟨w.heap.size, 0, none⟩ = some (.string d.master) ∧ wr.cell? ⟨w.heap.size, 1, none⟩ = some (.slice ao d.slots.length cap) ∧ wr.cell? ⟨w.heap.size, 2, none⟩ = some (.int .i64 d.wiped)) (fun i _ => d.slots.length - (intOf i).toNat)
    case atStart => exact ⟨0, by omega, rfl, fun i h1 h2 => by omega, hbox _, by simp, by simp [go_sem], by simp [go_sem], by simp [go_sem]⟩
    case round =>
      obtain ⟨k, hk, rfl, hno, hbl, hsz, q0, q1, q2⟩ := hrel
      by_cases hlt : (k : Int) < d.slots.length
      · have hltn : k < d.slots.length := by omega
        obtain ⟨b, off, rfl, hb, hc⟩ := hsh (by omega)
        have hc0 : w.cell? ⟨b, off + k * 2, none⟩ = some (.int .i64 d.slots[k].ten) := hc k hltn 0 _ rfl
        have hc1 : w.cell? ⟨b, off + k * 2 + 1, none⟩ = some (.string d.slots[k].key) := hc k hltn 1 _ rfl
        by_cases he : d.slots[k].ten = n
        · have HR := Lib.hid (slotKeyOf_hit hm hltn he hno)
          clear hno hsh hc
          go_wp2_with (go_at_call 21; refine (specKeyOk _ d _ (h.below hbl) hl).mono ?_; rintro e w2 ⟨rfl, b2⟩; rw [hm]; have x2 := hbl.trans (b2.mono hbl.size); have p1 := ((bcell b2).1 w.heap.size 1 hsz).trans q1; have r0 := (x2.cell (by exact hb)).trans hc0; have r1 := (x2.cell (by exact hb)).trans hc1)
          go_ret
          exact ⟨by rw [HR.out]; rfl, x2⟩
        · have he' : (d.slots[k].ten == n) = false := by simp [he]
          have hno2 : ∀ i (hi : i < d.slots.length), i < k + 1 → d.slots[i].ten ≠ n := fun i h1 h2 => by
            by_cases hi : i = k
            · subst hi; exact he
            · exact hno i h1 (by omega)
          clear hno hsh hc
          go_wp2_with (go_at_call 21; refine (specKeyOk _ d _ (h.below hbl) hl).mono ?_; rintro e w2 ⟨rfl, b2⟩; rw [hm]; have x2 := hbl.trans (b2.mono hbl.size); have p0 := ((bcell b2).1 w.heap.size 0 hsz).trans q0; have p1 := ((bcell b2).1 w.heap.size 1 hsz).trans q1; have p2 := ((bcell b2).1 w.heap.size 2 hsz).trans q2; have hsz2 : w.heap.size < w2.heap.size := Nat.lt_of_lt_of_le hsz b2.size; have r0 := (x2.cell (by exact hb)).trans hc0)
          go_roundw
          case rel => exact ⟨k + 1, by omega, by go_num, hno2, x2, hsz2, p0, p1, p2⟩
          case measure => simp [intOf]; omega
      · obtain rfl : k = d.slots.length := by omega
        have HR := Lib.hid (slotKeyOf_miss (n := n) fun i hi => hno i hi hi)
        clear hno hsh
        go_wp2
        go_ret
        exact ⟨by rw [HR.out]; rfl, hbl⟩
  · have hm' : keyDevB d = false := by simpa using hm
    have HR := Lib.hid (slotKeyOf_bad (n := n) hm')
    clear hsh
    by_cases hz : d.slots.length = 0
    · go_enter Try.func30, Try.ntmps30
      go_wp2
      refine wp_loop_rounds 1 ?_
      rw [rounds_succ]; go_wp2
      go_ret
      exact ⟨by rw [HR.out]; rfl, hbox _⟩
    · have hz' : (0 : Int) < d.slots.length := by omega
      go_enter Try.func30, Try.ntmps30
      go_wp2
      refine wp_loop_rounds 1 ?_
      rw [rounds_succ]
      go_wp2_with (go_at_call 21; refine (specKeyOk _ d _ (h.below (hbox _)) hl).mono ?_; rintro e w2 ⟨rfl, b2⟩; rw [hm']; have x2 := Below.trans (hbox _) (b2.mono (Below.size (hbox _))))
      go_ret
      exact ⟨by rw [HR.out]; rfl, x2⟩
end Go.Proofs.Ytcdcpdbolakfaaa

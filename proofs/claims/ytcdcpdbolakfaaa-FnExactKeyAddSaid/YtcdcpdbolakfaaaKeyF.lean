/- Walks: slotOf of the program; KeyOf of the reference and of the program. -/
import Derived.Test.YtcdcpdbolakfaaaKeyS
import Derived.Test.YtcdcpdbolakfaaaKeyI
set_option linter.unusedVariables false
set_option linter.unusedSimpArgs false
namespace Go.Proofs.Ytcdcpdbolakfaaa
open Go.RowKit Sp Go.Sort

set_option maxRecDepth 100000 in
set_option maxHeartbeats 400000 in
theorem slotTest_any (t : Int) (k : ByteArray) (n : Int) (b : Nat) (w : World) (hc : w.cell? ⟨b, 0, none⟩ = some (.int .i64 n)) :
    Calls Try.prog 101 #[.agg #[.int .i64 t, .string k], .pointer (some ⟨b, 0, none⟩)] w fun e w' => e = .returned (.bool (t == n)) ∧ Below w.heap.size w w' := by
  have hb := block_lt_of_cell hc
  have hc2 : (w.alloc (.cells #[.int .i64 t, .string k] 92)).cell? ⟨b, 0, none⟩ = some (.int .i64 n) := by rw [World.cell?_alloc_past _ _ _ hb]; exact hc
  go_enter Try.func101, Try.ntmps101
  go_wp2
  go_ret
  exact ⟨rfl, (Below.refl _ _).alloc (Nat.le_refl _) _⟩

namespace Sp
/-- The first slot of a tenant, or -1. -/
def IsSlot (l : List SlotR) (n j : Int) : Prop := (∃ k : Nat, ∃ h : k < l.length, j = k ∧ l[k].ten = n ∧ ∀ i (hi : i < k), (l[i]'(by omega)).ten ≠ n) ∨ (j = -1 ∧ ∀ i (hi : i < l.length), l[i].ten ≠ n)
end Sp
set_option maxRecDepth 100000 in
set_option maxHeartbeats 800000 in
theorem slotOf_any (v : Value) (d : KeyDevR) (n : Int) (w : World) (h : IsKeyDev w v d) (hl : (d.slots.length : Int) ≤ 1048576) :
    Calls Try.prog 71 #[v, .int .i64 n] w fun e w' => ∃ j, e = .returned (.int .i64 j) ∧ IsSlot d.slots n j ∧ Below w.heap.size w w' := by
  obtain ⟨s1, rfl, h1⟩ := h
  obtain ⟨ao, cap, rfl, hlc, hcm, hsh⟩ := h1.shape
  go_enter Try.func71, Try.ntmps71
  go_wp2
  go_loopw [8] (fun i wr => ∃ k : Nat, (k : Int) ≤ d.slots.length ∧ i = .int .i64 k ∧ (∀ i (hi : i < d.slots.length), i < k → d.slots[i].ten ≠ n) ∧ Below w.heap.size w wr ∧ wr.cell? ⟨w.heap.size + 1, 0, none⟩ = some (.int .i64 n)) (fun i _ => d.slots.length - (intOf i).toNat)
  case atStart => exact ⟨0, by omega, rfl, fun i h1 h2 => by omega, ((Below.refl _ _).alloc (Nat.le_refl _) _).alloc (by simp <;> omega) _, by simp [go_sem]⟩
  case round =>
    obtain ⟨k, hk, rfl, hno, hbl, hcn⟩ := hrel
    by_cases hlt : (k : Int) < d.slots.length
    · have hltn : k < d.slots.length := by omega
      obtain ⟨b, off, rfl, hb, hc⟩ := hsh (by omega)
      have hc0 : wr.cell? ⟨b, off + k * 2, none⟩ = some (.int .i64 d.slots[k].ten) := (hbl.cell (by exact hb)).trans (hc k hltn 0 _ rfl)
      have hc1 : wr.cell? ⟨b, off + k * 2 + 1, none⟩ = some (.string d.slots[k].key) := (hbl.cell (by exact hb)).trans (hc k hltn 1 _ rfl)
      have hnb := block_lt_of_cell hcn
      by_cases he : d.slots[k].ten = n
      · have he' : (d.slots[k].ten == n) = true := by simp [he]
        have HS := Lib.hid (show IsSlot d.slots n k from .inl ⟨k, hltn, rfl, he, fun i hi => hno i (by omega) hi⟩)
        have HE := Lib.hid he'
        clear he he'
        clear hno hsh hc h1
        go_wp2_with (go_at_call 101; refine (slotTest_any _ _ n _ _ hcn).mono ?_; rintro e w2 ⟨rfl, b2⟩; rw [HE.out])
        go_ret
        exact ⟨_, rfl, HS.out, hbl.trans (b2.mono hbl.size)⟩
      · have he' : (d.slots[k].ten == n) = false := by simp [he]
        have hno2 : ∀ i (hi : i < d.slots.length), i < k + 1 → d.slots[i].ten ≠ n := fun i h1 h2 => by
          by_cases hi : i = k
          · subst hi; exact he
          · exact hno i h1 (by omega)
        clear hno hsh hc h1
        go_wp2_with (go_at_call 101; refine (slotTest_any _ _ n _ _ hcn).mono ?_; rintro e w2 ⟨rfl, b2⟩; rw [he']; have hb3 := hbl.trans (b2.mono hbl.size); have hcn2 := (b2.cell (p := ⟨w.heap.size + 1, 0, none⟩) (by exact hnb)).trans hcn)
        go_roundw
        case rel => exact ⟨k + 1, by omega, by go_num, hno2, hb3, hcn2⟩
        case measure => simp [intOf]; omega
    · obtain rfl : k = d.slots.length := by omega
      have HS := Lib.hid (show IsSlot d.slots n (-1) from .inr ⟨rfl, fun i hi => hno i hi hi⟩)
      clear hno hsh h1
      go_wp2
      go_ret
      exact ⟨_, rfl, HS.out, hbl⟩
end Go.Proofs.Ytcdcpdbolakfaaa

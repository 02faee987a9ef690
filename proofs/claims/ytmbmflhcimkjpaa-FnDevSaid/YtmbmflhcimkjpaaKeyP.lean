
/- Plain: what makes a key device right; walks of its tests. -/
import Derived.Test.YtmbmflhcimkjpaaSKeyDevA
import Derived.Test.YtmbmflhcimkjpaaMapP
import Derived.Test.YtmbmflhcimkjpaaIn
set_option linter.unusedVariables false
set_option linter.unusedSimpArgs false
namespace Go.Proofs.Ytmbmflhcimkjpaa
open Go.RowKit Sp Go.Sort
namespace Sp
def slotB (x : SlotR) : Bool := inB x.ten 1 99 && decide ((x.key.size : Int) = 32)
def slotAt (l : List SlotR) (i : Nat) : Bool := match l[i]? with
  | some x => slotB x && (match i with | 0 => true | j + 1 => match l[j]? with | some y => decide (y.ten < x.ten) | none => false)
  | none => false
def keyHead (d : KeyDevR) : Bool := decide ((d.master.size : Int) = 32) && decide ((d.slots.length : Int) ≤ 4) && inB d.wiped 0 1000000
def keyDevB (d : KeyDevR) : Bool := keyHead d && allIx d.slots.length (slotAt d.slots)
theorem slotAt_bad {l : List SlotR} {k : Nat} (h : k < l.length) (hb : slotB l[k] = false) : slotAt l k = false := by simp [slotAt, h, hb]
theorem slotAt_first {l : List SlotR} {k : Nat} (h : k < l.length) (h0 : k = 0) : slotAt l k = slotB l[k] := by
  subst h0; simp [slotAt, h]
theorem slotAt_next {l : List SlotR} {k : Nat} (h : k < l.length) (h0 : k ≠ 0) (hp : k - 1 < l.length) : slotAt l k = (slotB l[k] && decide (l[k - 1].ten < l[k].ten)) := by
  obtain ⟨j, rfl⟩ : ∃ j, k = j + 1 := ⟨k - 1, by omega⟩
  simp only [Nat.add_sub_cancel] at hp
  simp [slotAt, h, hp]
theorem keyDevB_head {d : KeyDevR} (h : keyHead d = false) : keyDevB d = false := by simp [keyDevB, h]
theorem keyDevB_bad {d : KeyDevR} {k : Nat} (hk : k < d.slots.length) (h : slotAt d.slots k = false) : keyDevB d = false := by
  unfold keyDevB; rw [allIx_false hk h, Bool.and_false]
theorem keyDevB_all {d : KeyDevR} (hh : keyHead d = true) (h : AllTo (slotAt d.slots) d.slots.length) : keyDevB d = true := by
  unfold keyDevB; rw [allIx_true h, hh]; rfl
end Sp

set_option maxRecDepth 100000 in
theorem isTenant_any (n : Int) (w : World) : Calls Try.prog 188 #[.int .i64 n] w fun e w' => e = .returned (.bool (inB n 1 99)) ∧ w = w' := by
  go_enter Try.func188, Try.ntmps188
  go_wp2_with (go_at_call 105; refine (inRange_any _ _ _ _).mono ?_; rintro e w' ⟨rfl, rfl⟩)
  go_ret
  exact ⟨rfl, rfl⟩
set_option maxRecDepth 100000 in
theorem isNumber_any (n : Int) (w : World) : Calls Try.prog 172 #[.int .i64 n] w fun e w' => e = .returned (.bool (inB n 0 1000000)) ∧ w = w' := by
  go_enter Try.func172, Try.ntmps172
  go_wp2_with (go_at_call 105; refine (inRange_any _ _ _ _).mono ?_; rintro e w' ⟨rfl, rfl⟩)
  go_ret
  exact ⟨rfl, rfl⟩
end Go.Proofs.Ytmbmflhcimkjpaa

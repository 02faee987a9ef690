
/- Walks: what a strings.Builder's WriteString does. -/
import Derived.Test.YtmbmflhcimkjpaaTypes
import Derived.Test.YtmbmflhcimkjpaaLaws
import Derived.Lib.Builder
import Derived.Lib.AppendStr
import Derived.Lib.UnsafeStr
import Derived.Laws.Externs
import Derived.Lib.Hide
import Derived.WalkKit
import Derived.WalkSpells
import Derived.WalkLawsBesides
set_option linter.unusedVariables false
set_option linter.unusedSimpArgs false
namespace Go.Proofs.Ytmbmflhcimkjpaa
open Go.RowKit Sp

set_option maxRecDepth 100000 in
set_option maxHeartbeats 1000000 in
theorem copyUsed (b : Nat) (w : World) (h0 : w.cell? ⟨b, 0, none⟩ = some (.pointer (some ⟨b, 0, none⟩))) :
    Calls Try.prog 165 #[.pointer (some ⟨b, 0, none⟩)] w fun e w' => e = .returned (.tuple #[]) ∧ w' = w := by
  have hi : (Try.prog.info? 122).map (fun i => i.size) = some 2 := by kernel_rfl
  obtain ⟨j, hj, _⟩ := Option.map_eq_some_iff.1 hi
  have hne := Lib.run_neq_ptr_same (P := Try.prog) w ⟨b, 0, none⟩ Try.underlying120 hj
  go_enter Try.func165, Try.ntmps165
  go_wp2
  go_end0
  exact ⟨rfl, rfl⟩

set_option maxRecDepth 100000 in
set_option maxHeartbeats 1000000 in
theorem copyFresh (b : Nat) (w : World) (h0 : w.cell? ⟨b, 0, none⟩ = some (.pointer none)) (hsh : w.shape? b = some (122, 2)) (hfz : w.frozen? ⟨b, 0, none⟩ = false) :
    Calls Try.prog 165 #[.pointer (some ⟨b, 0, none⟩)] w fun e w' => e = .returned (.tuple #[]) ∧ w' = w.setCell ⟨b, 0, none⟩ (.pointer (some ⟨b, 0, none⟩)) := by
  have hi : (Try.prog.info? 122).map (fun i => i.size) = some 2 := by kernel_rfl
  obtain ⟨j, hj, hjs⟩ := Option.map_eq_some_iff.1 hi
  have hto := Lib.run_to_unsafe (P := Try.prog) w ⟨b, 0, none⟩ Try.underlying120 Try.underlying209 hj (by rw [hjs]; decide) hsh (Nat.zero_lt_succ 1)
  have hfr := Lib.run_from_unsafe (P := Try.prog) w ⟨b, 0, none⟩ Try.underlying209 Try.underlying120 hj hsh (by kernel_rfl)
  have hne : ∀ args, (callFunc 194 args).run Try.prog w = ((Extern.AbiNoEscape.same args).run Try.prog w).andThen fun v w' => .ok (.value v) w' := fun args => run_callFunc_extern Try.func194 (by kernel_rfl) (by kernel_rfl) (by kernel_rfl) (e := Extern.AbiNoEscape.same) (by kernel_rfl) args w
  have hse : ∀ x : Value, (Extern.AbiNoEscape.same #[x]).run Try.prog w = .ok x w := fun x => rfl
  go_enter Try.func165, Try.ntmps165
  go_wp2
  go_end0
  exact ⟨rfl, rfl⟩

theorem bld_below {T e : TypeId} {B b : Nat} {bs : List Value} {w w' : World} (h : Lib.IsBuilder T e B b bs w) (hb : Below w.heap.size w w') : Lib.IsBuilder T e B b bs w' := by
  have key : ∀ p, Lib.BuilderAt T e B b p bs w → Lib.BuilderAt T e B b p bs w' := by
    rintro p ⟨hB, v, hbk, hown, hne⟩
    exact ⟨hB, v, (hb.block b (Array.getElem?_eq_some_iff.1 hbk).1).trans hbk, hown.kept ⟨hb.os, hb.tape, hb.output, hb.size, fun k hk _ => hb.block k hk⟩ (row := none) (by cases h : v.ownBlock with | none => exact .inl rfl | some x => exact .inr (by simp)), hne⟩
  exact h.imp (key _) (key _)
set_option maxRecDepth 100000 in
set_option maxHeartbeats 1000000 in
/-- WriteString: the bytes behind those that the builder holds. -/
theorem writeStr_any (B b : Nat) (l : List UInt8) (s : ByteArray) (w : World) (h : Lib.IsBuilder 122 5 B b (Lib.byteCells l) w) (hlen : (l.length : Int) + s.size ≤ 140737488355328) (hBw : B ≤ w.heap.size) :
    Calls Try.prog 88 #[.pointer (some ⟨b, 0, none⟩), .string s] w fun e w' => e = .returned (.tuple #[.int .i64 s.size, .nilIface]) ∧ Lib.IsBuilder 122 5 B b (Lib.byteCells (l ++ s.data.toList)) w' ∧ Below B w w' ∧ (∀ (k : Nat) (cs : Array Value) (T : TypeId) (fr : Nat × Nat), w.heap[k]? = some (.cells cs T fr) → T ≠ 5 → k ≠ b → w'.heap[k]? = some (.cells cs T fr)) := by
  obtain ⟨i0, hi, hz0, hz1, hz2⟩ := info_parts info_u8
  have hcc : Calls Try.prog 165 #[.pointer (some ⟨b, 0, none⟩)] w fun e w' => e = .returned (.tuple #[]) ∧ Lib.BuilderAt 122 5 B b (.pointer (some ⟨b, 0, none⟩)) (Lib.byteCells l) w' ∧ Below B w w' ∧ ∀ k, k ≠ b → w'.heap[k]? = w.heap[k]? := by
    rcases h with h | h
    · refine (copyFresh b w h.cell0 h.shape h.frozen0).mono ?_
      rintro e w' ⟨rfl, rfl⟩
      exact ⟨rfl, h.used _, (Below.refl B w).setCell (p := ⟨b, 0, none⟩) h.1 _, fun k hk => Below.heap_setCell _ _ _ _ (fun e => hk e)⟩
    · refine (copyUsed b w h.cell0).mono ?_
      rintro e w' ⟨rfl, rfl⟩
      exact ⟨rfl, h, Below.refl B _, fun k hk => rfl⟩
  have hbl := Lib.byteCells_length l
  have HC := Lib.hid hcc
  clear hcc h
  go_enter Try.func88, Try.ntmps88
  go_wp2_with fail
  refine HC.out.mono ?_
  rintro e w1 ⟨rfl, ⟨hB, v, hbk, hown, hne⟩, b1, hk1⟩
  have hlt : b < w1.heap.size := (Array.getElem?_eq_some_iff.1 hbk).1
  have c1 : w1.cell? ⟨b, 1, none⟩ = some v := by rw [Lib.cell_of_heap hbk]; rfl
  go_wp2_with (at_builtin; refine Lib.wpList_append_own_string _ rfl _ _ 22 9 rfl B 5 i0 Try.underlying22 Try.underlying9 hi hz0 hz1 hz2 _ _ _ rfl hown s rfl ?c3 ?c4 ?c5 ?_)
  case c3 => rw [hbl]; unfold maxLen; omega
  case c4 => rw [hbl]; omega
  case c5 => have := b1.size; omega
  intro v' w2 hown' hgrow _
  have hb2 : w2.heap[b]? = some (.cells #[.pointer (some ⟨b, 0, none⟩), v] 122 (0, 0)) := by
    rw [hgrow.block b hlt (fun e => hne e.symm)]; exact hbk
  have d1 : w2.cell? ⟨b, 1, none⟩ = some v := by rw [Lib.cell_of_heap hb2]; rfl
  have f1 : w2.frozen? ⟨b, 1, none⟩ = false := Lib.frozen_of_heap hb2 1
  have hx : Lib.byteCells l ++ Lib.strCells s = Lib.byteCells (l ++ s.data.toList) := by
    unfold Lib.byteCells Lib.strCells; rw [List.map_append]
  have hll : l.length + s.size = (Lib.byteCells (l ++ s.data.toList)).length := by
    rw [Lib.byteCells_length, List.length_append]; simp
  rw [hx, hll] at hown'
  have hput := Lib.BuilderAt.put hB hb2 hown' (by decide)
  have x2 : Below B w w2 := b1.trans ⟨hgrow.os, hgrow.tape, hgrow.output, hgrow.size, fun k hk => hgrow.block k (by have := b1.size; omega) (by intro he; have := (hown.lt k he.symm).1; omega)⟩
  have x3 := x2.setCell (p := ⟨b, 1, none⟩) hB v'
  have hk3 : ∀ (k : Nat) (cs : Array Value) (T : TypeId) (fr : Nat × Nat), w.heap[k]? = some (.cells cs T fr) → T ≠ 5 → k ≠ b → (w2.setCell ⟨b, 1, none⟩ v').heap[k]? = some (.cells cs T fr) := by
    intro k cs T fr hk hT hkb
    have e1 := (hk1 k hkb).trans hk
    have hno := Lib.ownBlock_ne hown e1 hT
    rw [Below.heap_setCell _ _ _ _ (fun e => hkb e), hgrow.block k (Array.getElem?_eq_some_iff.1 e1).1 (fun e => hno e.symm)]
    exact e1
  obtain ⟨ao, n', c', rfl⟩ : ∃ ao n c, v' = .slice ao n c := by
    rcases hown'.2 with ⟨h, _⟩ | ⟨g, cap, cur, h, _⟩
    · exact ⟨_, _, _, h⟩
    · exact ⟨_, _, _, h⟩
  clear hown' hown hgrow hbk hx hll hbl HC b1 c1
  go_wp2
  go_ret2
  exact ⟨rfl, .inr hput, x3, hk3⟩
end Go.Proofs.Ytmbmflhcimkjpaa

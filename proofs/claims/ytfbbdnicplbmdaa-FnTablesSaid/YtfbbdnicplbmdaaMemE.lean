
/- Walks: the tests of an entry. -/
import Derived.Test.YtfbbdnicplbmdaaMemP
import Derived.Test.YtfbbdnicplbmdaaOpW
import Derived.Deep.RegionLaw
set_option linter.unusedVariables false
set_option linter.unusedSimpArgs false
namespace Go.Proofs.Ytfbbdnicplbmdaa
open Go.RowKit Sp Go.Sort

set_option maxRecDepth 100000 in
set_option maxHeartbeats 400000 in
theorem l9Ent_any (x : EntR) (w : World) : Calls Try.prog 176 #[.agg #[.string x.key, .int .i64 x.seq, .bool x.del, .string x.val]] w fun e w' => e = .returned (.bool (entB x)) ∧ Below w.heap.size w w' := by
  have hbox : ∀ o : Obj, RowKit.Below w.heap.size w (w.alloc o) := fun o => (Below.refl _ _).alloc (Nat.le_refl _) _
  rcases ho : opB x.key x.del x.val with _ | _
  all_goals
    have hB : entB x = (opB x.key x.del x.val && inB x.seq 0 1000000) := rfl
    rw [ho] at hB
    have HB := Lib.hid hB
    clear hB
    go_enter Try.func176, Try.ntmps176
    go_wp2_with fail
    refine (l7Op_any _ _ _ _).mono ?_
    rintro e w2 ⟨rfl, b2⟩
    have x2 := Below.trans (hbox _) (b2.mono (Below.size (hbox _)))
    have ca := fun o => (bcell b2).1 w.heap.size o (by simp <;> omega)
    rw [ho]
    go_wp2_with (go_at_call 104; refine (l1In_any _ _ _ _).mono ?_; rintro e w' ⟨rfl, rfl⟩)
    go_ret
    exact ⟨by rw [HB.out]; rfl, x2⟩

set_option maxRecDepth 100000 in
theorem numE_any (n : Int) (w : World) : Calls Try.prog 163 #[.int .i64 n] w fun e w' => e = .returned (.bool (inB n 0 1000000)) ∧ w = w' := by
  go_enter Try.func163, Try.ntmps163
  go_wp2_with (go_at_call 108; refine (inRange_any _ _ _ _).mono ?_; rintro e w' ⟨rfl, rfl⟩)
  go_ret
  exact ⟨rfl, rfl⟩

set_option maxRecDepth 100000 in
set_option maxHeartbeats 800000 in
theorem entOk_any (x : EntR) (w : World) : Calls Try.prog 179 #[.agg #[.string x.key, .int .i64 x.seq, .bool x.del, .string x.val]] w fun e w' => e = .returned (.bool (entB x)) ∧ Below w.heap.size w w' := by
  have hbox : ∀ o : Obj, RowKit.Below w.heap.size w (w.alloc o) := fun o => (Below.refl _ _).alloc (Nat.le_refl _) _
  have hB : entB x = (keyB x.key && valOk x.del x.val && inB x.seq 0 1000000) := by
    unfold entB opB valOk; rw [Bool.and_assoc (keyB x.key)]
  rcases h1 : keyB x.key with _ | _ <;> rcases h2 : inB x.seq 0 1000000 with _ | _ <;> rcases h3 : valOk x.del x.val with _ | _
  all_goals
    rw [h1, h2, h3] at hB
    have HB := Lib.hid hB
    clear hB
    go_enter Try.func179, Try.ntmps179
    go_wp2_with (first | (go_at_call 153; refine (isKey_any _ _).mono ?_; rintro e w' ⟨rfl, rfl⟩; rw [h1]) | (go_at_call 163; refine (numE_any _ _).mono ?_; rintro e w' ⟨rfl, rfl⟩; rw [h2]) | (go_at_call 154; refine (isVal_any _ _ _).mono ?_; rintro e w' ⟨rfl, rfl⟩; rw [h3]))
    go_ret
    exact ⟨by rw [HB.out]; rfl, hbox _⟩

set_option maxRecDepth 100000 in
set_option maxHeartbeats 800000 in
theorem l9Ahead_any (x y : EntR) (w : World) : Calls Try.prog 177 #[.agg #[.string x.key, .int .i64 x.seq, .bool x.del, .string x.val], .agg #[.string y.key, .int .i64 y.seq, .bool y.del, .string y.val]] w fun e w' => e = .returned (.bool (aheadB x y)) ∧ Below w.heap.size w w' := by
  have hbox : ∀ o : Obj, RowKit.Below w.heap.size w (w.alloc o) := fun o => (Below.refl _ _).alloc (Nat.le_refl _) _
  have hbox2 : ∀ o o' : Obj, RowKit.Below w.heap.size w ((w.alloc o).alloc o') := fun o o' => (hbox o).alloc (by simp) _
  have hB : aheadB x y = (Op.bytesLess x.key.toList y.key.toList || (x.key.toList == y.key.toList && decide (y.seq < x.seq))) := rfl
  rcases h1 : Op.bytesLess x.key.toList y.key.toList with _ | _ <;> rcases h2 : (x.key.toList == y.key.toList) with _ | _
  all_goals
    rw [h1, h2] at hB
    have HB := Lib.hid hB
    clear hB
    go_enter Try.func177, Try.ntmps177
    go_wp2
    go_ret
    exact ⟨by rw [HB.out]; rfl, hbox2 _ _⟩

set_option maxRecDepth 100000 in
set_option maxHeartbeats 800000 in
theorem cmpStr_any (a b : ByteArray) (w : World) : Calls Try.prog 190 #[.string a, .string b] w fun e w' => e = .returned (.int .i64 (cmpS a b)) ∧ w = w' := by
  have hS : cmpS a b = (if Op.bytesLess a.toList b.toList then -1 else if Op.bytesLess b.toList a.toList then 1 else 0) := rfl
  have hle : (Op.bytesLess a.toList b.toList || a.toList == b.toList) = !Op.bytesLess b.toList a.toList := leq_less a b
  rcases h1 : Op.bytesLess a.toList b.toList with _ | _ <;> rcases h2 : Op.bytesLess b.toList a.toList with _ | _
  all_goals
    rw [h1, h2] at hS
    rw [h1, h2] at hle
    (simp only [Bool.false_or, Bool.true_or, Bool.not_false, Bool.not_true] at hle) <;>
    (have HS := Lib.hid hS
     clear hS
     go_enter Try.func190, Try.ntmps190
     go_wp2) <;>
    (go_ret
     exact ⟨by rw [HS.out]; rfl, rfl⟩)

set_option maxRecDepth 100000 in
set_option maxHeartbeats 800000 in
theorem cmpInt_any (a b : Int) (w : World) : Calls Try.prog 191 #[.int .i64 a, .int .i64 b] w fun e w' => e = .returned (.int .i64 (cmpI a b)) ∧ w = w' := by
  have hS : cmpI a b = (if a < b then -1 else if b < a then 1 else 0) := rfl
  by_cases h1 : a < b
  · rw [if_pos h1] at hS
    have HS := Lib.hid hS
    clear hS
    go_enter Try.func191, Try.ntmps191
    go_wp2
    go_ret
    exact ⟨by rw [HS.out]; rfl, rfl⟩
  · by_cases h2 : b < a
    · rw [if_neg h1, if_pos h2] at hS
      have HS := Lib.hid hS
      clear hS
      go_enter Try.func191, Try.ntmps191
      go_wp2
      go_ret
      exact ⟨by rw [HS.out]; rfl, rfl⟩
    · rw [if_neg h1, if_neg h2] at hS
      have HS := Lib.hid hS
      clear hS
      go_enter Try.func191, Try.ntmps191
      go_wp2
      go_ret
      exact ⟨by rw [HS.out]; rfl, rfl⟩

set_option maxRecDepth 100000 in
set_option maxHeartbeats 800000 in
theorem cmpOr_any (x y : Int) (g : Nat) (w : World) (h0 : w.cell? ⟨g, 0, none⟩ = some (.int .i64 x)) (h1 : w.cell? ⟨g, 1, none⟩ = some (.int .i64 y)) :
    Calls Try.prog 189 #[.slice (some ⟨g, 0, none⟩) 2 2] w fun e w' => e = .returned (.int .i64 (orI x y)) ∧ Below w.heap.size w w' := by
  have hS : orI x y = if x = 0 then y else x := rfl
  by_cases hx : x = 0
  · rw [if_pos hx] at hS
    by_cases hy : y = 0
    · subst hx hy
      have HS := Lib.hid hS
      clear hS
      go_enter Try.func189, Try.ntmps189
      go_wp2
      refine wp_loop_rounds 3 ?_
      rw [rounds_succ]; go_wp2
      rw [rounds_succ]; go_wp2
      rw [rounds_succ]; go_wp2
      go_ret
      exact ⟨by rw [HS.out]; rfl, Below.refl _ _⟩
    · subst hx
      have HS := Lib.hid hS
      clear hS
      go_enter Try.func189, Try.ntmps189
      go_wp2
      refine wp_loop_rounds 3 ?_
      rw [rounds_succ]; go_wp2
      rw [rounds_succ]; go_wp2
      go_ret
      exact ⟨by rw [HS.out]; rfl, Below.refl _ _⟩
  · rw [if_neg hx] at hS
    have HS := Lib.hid hS
    clear hS
    go_enter Try.func189, Try.ntmps189
    go_wp2
    refine wp_loop_rounds 3 ?_
    rw [rounds_succ]; go_wp2
    go_ret
    exact ⟨by rw [HS.out]; rfl, Below.refl _ _⟩

set_option maxRecDepth 100000 in
set_option maxHeartbeats 1600000 in
theorem compareEnts_any (x y : EntR) (w : World) : Calls Try.prog 180 #[.agg #[.string x.key, .int .i64 x.seq, .bool x.del, .string x.val], .agg #[.string y.key, .int .i64 y.seq, .bool y.del, .string y.val]] w fun e w' => e = .returned (.int .i64 (cmpE x y)) ∧ Below w.heap.size w w' := by
  have hbox : ∀ o : Obj, RowKit.Below w.heap.size w (w.alloc o) := fun o => (Below.refl _ _).alloc (Nat.le_refl _) _
  have hbox2 : ∀ o o' : Obj, RowKit.Below w.heap.size w ((w.alloc o).alloc o') := fun o o' => (hbox o).alloc (by simp) _
  have hE : cmpE x y = orI (cmpS x.key y.key) (cmpI y.seq x.seq) := rfl
  have HE := Lib.hid hE
  clear hE
  go_enter Try.func180, Try.ntmps180
  go_wp2
  go_region_law (first
    | (go_simp; go_at_call 190; refine (cmpStr_any _ _ _).mono ?_; rintro e w' ⟨rfl, rfl⟩)
    | (go_simp; go_at_call 191; refine (cmpInt_any _ _ _).mono ?_; rintro e w' ⟨rfl, rfl⟩)
    | (go_simp; go_at_call 189; refine (cmpOr_any (cmpS x.key y.key) (cmpI y.seq x.seq) _ _ (by simp [go_sem]) (by simp [go_sem])).mono ?_; rintro e w3 ⟨rfl, b3⟩))
  all_goals
    go_wp2
    go_ret
    exact ⟨by rw [HE.out]; rfl, Below.trans (below_drewN ((hbox2 _ _).alloc (by simp <;> omega) _) 1) (b3.mono (Below.size (below_drewN ((hbox2 _ _).alloc (by simp <;> omega) _) 1)))⟩
end Go.Proofs.Ytfbbdnicplbmdaa


/- Laws of the walk: a builder beside a row of another type. -/
import Derived.Test.YtmbmflhcimkjpaaBldW
import Derived.Test.YtmbmflhcimkjpaaDelP
set_option linter.unusedVariables false
set_option linter.unusedSimpArgs false
namespace Go.Proofs.Ytmbmflhcimkjpaa
open Go.RowKit Sp
theorem own_typed {w : World} {base e size : Nat} {v : Value} {n : Nat} {xs : List Value} (h : w.ownsRow base e size v n xs) {k : Nat} (hk : v.ownBlock = some k) : ∃ cur, w.heap[k]? = some (.cells cur e (0, 0)) := by
  rcases h.2 with ⟨hv, _⟩ | ⟨g, cap, cur, hv, hb', hg, _⟩
  · rw [hv] at hk; simp [Value.ownBlock] at hk
  · rw [hv] at hk
    obtain rfl : g = k := Option.some.inj hk
    exact ⟨cur, hg⟩
/-- A row whose block is kept is kept. -/
theorem own_kept {w w' : World} {base e size : Nat} {v : Value} {n : Nat} {xs : List Value} (h : w.ownsRow base e size v n xs) (hk : ∀ (k : Nat) (cs : Array Value) (fr : Nat × Nat), w.heap[k]? = some (.cells cs e fr) → w'.heap[k]? = some (.cells cs e fr)) : w'.ownsRow base e size v n xs := by
  refine ⟨h.1, ?_⟩
  rcases h.2 with hn | ⟨g, cap, cur, hv, hb', hg, rest⟩
  · exact .inl hn
  · exact .inr ⟨g, cap, cur, hv, hb', hk _ _ _ hg, rest⟩
theorem bld_ne {T e e' : TypeId} {B b k : Nat} {bs : List Value} {w : World} {cs : Array Value} {fr : Nat × Nat} (h : Lib.IsBuilder T e B b bs w) (hk : w.heap[k]? = some (.cells cs e' fr)) (hne : e' ≠ T) : k ≠ b := by
  intro hkb
  subst hkb
  rcases h with ⟨_, v, hbk, _⟩ | ⟨_, v, hbk, _⟩
  all_goals
    rw [hbk] at hk
    simp at hk
    exact hne hk.2.1.symm
theorem bld_grown {T e : TypeId} {B b : Nat} {bs : List Value} {w w' : World} {base e' size' : Nat} {v' : Value} {n' : Nat} {xs' : List Value} (h : Lib.IsBuilder T e B b bs w) (hr : w.ownsRow base e' size' v' n' xs') (h1 : e' ≠ e) (h2 : e' ≠ T) (hg : w.grownBy w' v'.ownBlock) : Lib.IsBuilder T e B b bs w' := by
  have key : ∀ p, Lib.BuilderAt T e B b p bs w → Lib.BuilderAt T e B b p bs w' := by
    rintro p ⟨hB, v, hbk, hown, hne⟩
    refine ⟨hB, v, (hg.block b (Array.getElem?_eq_some_iff.1 hbk).1 (fun hk => ?_)).trans hbk, own_grown hown hg (fun k hk hk' => ?_), hne⟩
    · obtain ⟨cur, hc⟩ := own_typed hr hk.symm
      rw [hbk] at hc
      simp at hc
      exact h2 hc.2.symm
    · obtain ⟨c1, q1⟩ := own_typed hown hk
      obtain ⟨c2, q2⟩ := own_typed hr hk'
      rw [q1] at q2
      simp at q2
      exact h1 q2.2.symm
  exact h.imp (key _) (key _)
end Go.Proofs.Ytmbmflhcimkjpaa


/- Laws of the walk: rows of one's own beside boxes that were laid behind them. No program in sight. -/
import Derived.Test.YtfbbdnicplbmdaaDoorStepR
set_option linter.unusedVariables false
set_option linter.unusedSimpArgs false
namespace Go.Proofs.YtfbbdnicplbmdaaDoor
open Go.RowKit Sp
theorem own_far {w : World} {base e size : Nat} {v : Value} {n : Nat} {xs : List Value} (h : w.ownsRow base e size v n xs) (p : Addr) (u : Value) (hp : v.ownBlock ≠ some p.block) : (w.setCell p u).ownsRow base e size v n xs := by
  refine ⟨h.1, ?_⟩
  rcases h.2 with hn | ⟨g, cap, cur, hv, hb', hg, rest⟩
  · exact .inl hn
  · exact .inr ⟨g, cap, cur, hv, hb', (Below.heap_setCell _ _ _ _ (by intro e; apply hp; rw [hv, ← e]; rfl)).trans hg, rest⟩
/-- What a row's growth leaves alone: cells and marks of a block that is not the row's. -/
theorem gcell {w w' : World} {r : Option Nat} (hg : w.grownBy w' r) {b : Nat} (hb : b < w.heap.size) (hn : r ≠ some b) :
    (∀ o, w'.cell? ⟨b, o, none⟩ = w.cell? ⟨b, o, none⟩) ∧ (∀ o, w'.frozen? ⟨b, o, none⟩ = w.frozen? ⟨b, o, none⟩) := by
  have h := hg.block b hb (fun e => hn e.symm)
  refine ⟨fun o => ?_, fun o => ?_⟩
  · simp only [World.cell?]; rw [h]
  · simp only [World.frozen?]; rw [h]
section
variable {P : Program} {ops : Array Oper} {rest : List Oper} {o : Oper} {a : Act} {Q : Exit → Act → World → Prop}
theorem app_new_at {w0 : World} {news : Array Value} {e : TypeId} (hgd : o.guard = none) {s x : Operand} {t : TypeId}
    (ho : o.op = .call { callee := .builtin .append, args := #[s, x], argTypes := #[t, t] })
    {size bytes : Nat} {z : Value} (ht : P.underlying t = some (.slice e)) (hinf : (P.info? e).map (fun i => (i.zero, i.size, i.bytes)) = some (some z, size, bytes)) (hzs : z.cells.size = size) (hsz : 0 < size)
    {base : Nat} {v : Value} {n : Nat} {xs : List Value} (hown : w0.ownsRow base e size v n xs) (hs : a.eval s = v)
    (m : Nat) (hx : a.eval x = .slice (some ⟨w0.heap.size, 0, none⟩) m m) (hl : news.size = m * size) (h1 : ∀ u ∈ news.toList, u.oneCell' = true)
    (hlen : (n + m) * bytes ≤ 140737488355328 ∧ n + m ≤ 9223372036854775807) {B0 : Nat} {W0 : World} (hbl : Below B0 W0 w0) (hB : B0 ≤ base) (hbase : base ≤ w0.heap.size)
    (hK : ∀ v' w', w'.ownsRow base e size v' (n + m) (xs ++ news.toList) → Below B0 W0 w' → w0.grownBy w' v.ownBlock → (v'.ownBlock = v.ownBlock ∨ v'.ownBlock = some (w0.heap.size + 1)) → wpList P ops Q rest (a.put o.dst v') w') :
    wpList P ops Q (o :: rest) a (w0.alloc (.cells news e)) := by
  obtain ⟨i, hi, hz, hsize, hby⟩ := info_parts hinf
  refine wpList_append_own_at (w := w0.alloc (.cells news e)) hgd s x t ho base e i z size bytes ht hi hz hsize hby hzs hsz v n xs hs (hown.alloc _) ⟨w0.heap.size, 0, none⟩ m m news.toList hx (by simpa using hl) (cells_new w0 news e) h1
    (by simp only [maxLen]; omega) hlen.1 (by simp; omega) fun v' w' h2 h3 _ h5 => hK v' w' h2 ?_ ?_ (by simpa using h5)
  · refine (hbl.alloc (by omega) _).grown h3 (by simp; omega) fun k hk => ?_
    have := hown.lt k hk
    omega
  · exact ⟨h3.os, h3.tape, h3.output, Nat.le_trans (by simp) h3.size, fun k hk hne => (h3.block k (by simp; omega) hne).trans (Below.heap_alloc w0 _ k hk)⟩
end
end Go.Proofs.YtfbbdnicplbmdaaDoor

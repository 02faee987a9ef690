
/- Laws for one step of a region that draws its order: append of a whole slice of records. No program in sight. -/
import Derived.Test.YtfbbdnicplbmdaaDoorApp
import Derived.Test.YtfbbdnicplbmdaaDoorRow
import Derived.Deep.RegionLaw
import Derived.Maps.AppendAt
set_option linter.unusedVariables false
set_option linter.unusedSimpArgs false
namespace Go.Proofs.YtfbbdnicplbmdaaDoor
open Go.RowKit Sp

theorem own0 {W : World} {e : TypeId} {size base k : Nat} (hk : W.heap.size = k) (hb : base ≤ k) : (W.alloc (.cells #[] e)).ownsRow base e size (.slice (some ⟨k, 0, none⟩) 0 0) 0 [] := by
  subst hk
  exact World.ownsRow_lit (base := base) (e := e) (size := size) W #[] 0 hb (by simp [maxLen]) (by simp)
/-- A row of one's own is left alone by what grows another block. -/
theorem own_grown {w w' : World} {base e size : Nat} {v : Value} {n : Nat} {xs : List Value} {r : Option Nat} (h : w.ownsRow base e size v n xs) (hg : w.grownBy w' r) (hne : ∀ k, v.ownBlock = some k → r ≠ some k) : w'.ownsRow base e size v n xs := by
  refine ⟨h.1, ?_⟩
  rcases h.2 with hn | ⟨g, cap, cur, hv, hb', hc, rest⟩
  · exact .inl hn
  · exact .inr ⟨g, cap, cur, hv, hb', (hg.block g (Array.getElem?_eq_some_iff.1 hc).1 (by have := hne g (by rw [hv]; rfl); exact fun e => this e.symm)).trans hc, rest⟩
theorem own_ne {a b n c m d : Nat} (h : a ≠ b) : ∀ k, (Value.slice (some ⟨a, 0, none⟩) n c).ownBlock = some k → (Value.slice (some ⟨b, 0, none⟩) m d).ownBlock ≠ some k := by
  intro k h1 h2
  simp [Value.ownBlock] at h1 h2
  omega
/-- Two values whose own blocks are not one. -/
def Apart (a b : Value) : Prop := ∀ k, a.ownBlock = some k → b.ownBlock ≠ some k

theorem step_app_recs {α : Type} {enc : α → List Value} {P : Program} {ops : Array Oper} {o : Oper} {a : Act} {w : World} {K : Act → World → Prop} {Q : Exit → Act → World → Prop} {E : Prop}
    (hgd : o.guard = none) {s x : Operand} {t : TypeId} (hop : o.op = Op.call { callee := Callee.builtin Builtin.append, args := #[s, x], argTypes := #[t, t] })
    {e : TypeId} {size bytes : Nat} {z : Value} (ht : P.underlying t = some (.slice e)) (hinf : (P.info? e).map (fun i => (i.zero, i.size, i.bytes)) = some (some z, size, bytes)) (hzs : z.cells.size = size) (hsz : 0 < size)
    {base : Nat} {v : Value} {n : Nat} {xs : List Value} (hs : a.eval s = v) (hown : w.ownsRow base e size v n xs)
    {l : List α} (ad : Option Addr) (cap : Nat) (hx : a.eval x = .slice ad l.length cap) (hy : SlT enc size w (.slice ad l.length cap) l) (henc : ∀ x, (enc x).length = size) (h1 : ∀ x, ∀ u ∈ enc x, u.oneCell' = true)
    (hlen : (n + l.length) * bytes ≤ 140737488355328 ∧ n + l.length ≤ 9223372036854775807) {B0 : Nat} {W0 : World} (hbl : Below B0 W0 w) (hB : B0 ≤ base) (hbase : base ≤ w.heap.size)
    (hK : ∀ v' w', w'.ownsRow base e size v' (n + l.length) (xs ++ (l.map enc).flatten) → Below B0 W0 w' → w.grownBy w' v.ownBlock → (v'.ownBlock = v.ownBlock ∨ v'.ownBlock = some w.heap.size) → K (a.put o.dst v') w') :
    if Region.wanted o (yielded ops a.tmps) = true then Oper.wp P o a w K Q else E := by
  have hw : Region.wanted o (yielded ops a.tmps) = true := by simp [Region.wanted, hgd]
  rw [if_pos hw]
  obtain ⟨v', w', hrun, r1, r2, r3⟩ := run_app_sl (P := P) (ty := o.type) ht hinf hzs hsz hown ad cap hy henc h1 hlen hbase
  have hb2 : Below B0 W0 w' := hbl.grown r2 (by omega) fun k hk => by have := hown.lt k hk; omega
  unfold Oper.wp
  simp [execOp, hop, resolve, invoke, builtin, hs, hx, hrun, Result.andThen]
  exact hK v' w' r1 hb2 r2 r3
theorem step_app_at {P : Program} {ops : Array Oper} {o : Oper} {a : Act} {w : World} {K : Act → World → Prop} {Q : Exit → Act → World → Prop} {E : Prop}
    (hgd : o.guard = none) {s x : Operand} {t : TypeId} (hop : o.op = Op.call { callee := Callee.builtin Builtin.append, args := #[s, x], argTypes := #[t, t] })
    {e : TypeId} {size bytes : Nat} {z : Value} (ht : P.underlying t = some (.slice e)) (hinf : (P.info? e).map (fun i => (i.zero, i.size, i.bytes)) = some (some z, size, bytes)) (hzs : z.cells.size = size) (hsz : 0 < size)
    {base : Nat} {v : Value} {n : Nat} {xs : List Value} (hs : a.eval s = v) (hown : w.ownsRow base e size v n xs)
    {g : Nat} {news : Array Value} (m : Nat) (hx : a.eval x = .slice (some ⟨g, 0, none⟩) m m) (hg : w.heap[g]? = some (.cells news e (0, 0))) (hl : news.size = m * size) (h1 : ∀ u ∈ news.toList, u.oneCell' = true)
    (hlen : (n + m) * bytes ≤ 140737488355328 ∧ n + m ≤ 9223372036854775807) {B0 : Nat} {W0 : World} (hbl : Below B0 W0 w) (hB : B0 ≤ base) (hbase : base ≤ w.heap.size)
    (hK : ∀ v' w', w'.ownsRow base e size v' (n + m) (xs ++ news.toList) → Below B0 W0 w' → w.grownBy w' v.ownBlock → (v'.ownBlock = v.ownBlock ∨ v'.ownBlock = some w.heap.size) → K (a.put o.dst v') w') :
    if Region.wanted o (yielded ops a.tmps) = true then Oper.wp P o a w K Q else E := by
  have hw : Region.wanted o (yielded ops a.tmps) = true := by simp [Region.wanted, hgd]
  rw [if_pos hw]
  obtain ⟨i, hi, hz, hsize, hby⟩ := info_parts hinf
  obtain ⟨v', w', hrun, r1, r2, _, r3⟩ := run_append_own_at (P := P) w base t o.type e i z size bytes ht hi hz hsize hby hzs hsz v n xs hown ⟨g, 0, none⟩ m m news.toList (by simpa using hl)
    (fun j u hj => by rw [add_none, Nat.zero_add, cell_of_row w g j news e (0, 0) hg]; simpa using hj) h1 (by simp only [maxLen]; omega) hlen.1 hbase
  have hb2 : Below B0 W0 w' := hbl.grown r2 (by omega) fun k hk => by have := hown.lt k hk; omega
  unfold Oper.wp
  simp [execOp, hop, resolve, invoke, builtin, hs, hx, hrun, Result.andThen]
  exact hK v' w' r1 hb2 r2 r3
end Go.Proofs.YtfbbdnicplbmdaaDoor

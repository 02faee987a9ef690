
/- Laws for one step of a region that draws its order: append of a whole slice of records. No program in sight. -/
import Derived.Test.YtmbmflhcimkjpaaApp
import Derived.Test.YtmbmflhcimkjpaaRow
import Derived.Deep.RegionLaw
import Derived.Maps.AppendAt
set_option linter.unusedVariables false
set_option linter.unusedSimpArgs false
namespace Go.Proofs.Ytmbmflhcimkjpaa
open Go.RowKit Sp

theorem own0 {W : World} {e : TypeId} {size base k : Nat} (hk : W.heap.size = k) (hb : base ≤ k) : (W.alloc (.cells #[] e)).ownsRow base e size (.slice (some ⟨k, 0, none⟩) 0 0) 0 [] := by
  subst hk
  exact World.ownsRow_lit (base := base) (e := e) (size := size) W #[] 0 hb (by simp [maxLen]) (by simp)
/-- A row of one's own is left alone by what grows another block. -/
theorem own_grown {w w' : World} {base e size : Nat} {v : Value} {n : Nat} {xs : List Value} {r : Option Nat} (h : w.ownsRow base e size v n xs) (hg : w.grownBy w' r) (hne : ∀ k, v.ownBlock = some k → r ≠ some k) : w'.ownsRow base e size v n xs := by
  refine ⟨h.1, ?_⟩
  rcases h.2 with hn | ⟨g, cap, cur, hv, hb', hc, rest⟩
  · exact .inl hn
  · exact .inr ⟨g, cap, cur, hv, hb', (hg.block g (Array.getElem?_eq_some_iff.1 hc).1 (by have := hne g (by rw [hv]; rfl); exact fun e => this e.symm)).trans hc, rest⟩
theorem own_ne {a b n c m d : Nat} (h : a ≠ b) : ∀ k, (Value.slice (some ⟨a, 0, none⟩) n c).ownBlock = some k → (Value.slice (some ⟨b, 0, none⟩) m d).ownBlock ≠ some k := by
  intro k h1 h2
  simp [Value.ownBlock] at h1 h2
  omega
/-- Two values whose own blocks are not one. -/
def Apart (a b : Value) : Prop := ∀ k, a.ownBlock = some k → b.ownBlock ≠ some k

theorem step_app_recs {α : Type} {enc : α → List Value} {P : Program} {ops : Array Oper} {o : Oper} {a : Act} {w : World} {K : Act → World → Prop} {Q : Exit → Act → World → Prop} {E : Prop}
    (hgd : o.guard = none) {s x : Operand} {t : TypeId} (hop : o.op = Op.call { callee := Callee.builtin Builtin.append, args := #[s, x], argTypes := #[t, t] })
    {e : TypeId} {size bytes : Nat} {z : Value} (ht : P.underlying t = some (.slice e)) (hinf : (P.info? e).map (fun i => (i.zero, i.size, i.bytes)) = some (some z, size, bytes)) (hzs : z.cells.size = size) (hsz : 0 < size)
    {base : Nat} {v : Value} {n : Nat} {xs : List Value} (hs : a.eval s = v) (hown : w.ownsRow base e size v n xs)
    {l : List α} (ad : Addr) (cap : Nat) (hx : a.eval x = .slice (some ad) l.length cap) (hy : SlT enc size w (.slice (some ad) l.length cap) l) (henc : ∀ x, (enc x).length = size) (h1 : ∀ x, ∀ u ∈ enc x, u.oneCell' = true)
    (hlen : (n + l.length) * bytes ≤ 140737488355328 ∧ n + l.length ≤ 9223372036854775807) {B0 : Nat} {W0 : World} (hbl : Below B0 W0 w) (hB : B0 ≤ base) (hbase : base ≤ w.heap.size)
    (hK : ∀ v' w', w'.ownsRow base e size v' (n + l.length) (xs ++ (l.map enc).flatten) → Below B0 W0 w' → w.grownBy w' v.ownBlock → (v'.ownBlock = v.ownBlock ∨ v'.ownBlock = some w.heap.size) → K (a.put o.dst v') w') :
    if Region.wanted o (yielded ops a.tmps) = true then Oper.wp P o a w K Q else E := by
  have hw : Region.wanted o (yielded ops a.tmps) = true := by simp [Region.wanted, hgd]
  rw [if_pos hw]
  obtain ⟨i, hi, hz, hsize, hby⟩ := info_parts hinf
  obtain ⟨ao, cp, hv, _, _, hsh⟩ := hy.shape
  obtain ⟨rfl, _, rfl⟩ : (some ad) = ao ∧ True ∧ cap = cp := by simp at hv; exact ⟨by rw [hv.1], trivial, hv.2⟩
  obtain ⟨v', w', hrun, r1, r2, _, r3⟩ := run_append_own_at (P := P) w base t o.type e i z size bytes ht hi hz hsize hby hzs hsz v n xs hown ad l.length cap (l.map enc).flatten (flat_length henc l)
    (fun j u hj => by
      have hl : 0 < l.length := by
        have := (List.getElem?_eq_some_iff.1 hj).1
        rw [flat_length henc] at this
        exact Nat.pos_of_ne_zero fun h0 => by rw [h0] at this; omega
      obtain ⟨b, off, hb, _, hc⟩ := hsh hl
      obtain rfl := Option.some.inj hb
      rw [add_none]
      exact flat_cell henc hsz l w b off hc j u hj)
    (fun u hu => by
      obtain ⟨c, hc, hu⟩ := List.mem_flatten.1 hu
      obtain ⟨y, _, rfl⟩ := List.mem_map.1 hc
      exact h1 y u hu) (by simp only [maxLen]; omega) hlen.1 hbase
  have hb2 : Below B0 W0 w' := hbl.grown r2 (by omega) fun k hk => by have := hown.lt k hk; omega
  unfold Oper.wp
  simp [execOp, hop, resolve, invoke, builtin, hs, hx, hrun, Result.andThen]
  exact hK v' w' r1 hb2 r2 r3
end Go.Proofs.Ytmbmflhcimkjpaa

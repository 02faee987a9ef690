
/- Laws of the walk: append of a whole slice of records to a row of one's own. -/
import Derived.Test.YtfbbdnicplbmdaaDoorLaws
import Derived.Test.YtfbbdnicplbmdaaDoorRep
import Derived.Test.YtfbbdnicplbmdaaDoorSlices
import Derived.Deep.Upon
import Derived.Maps.AppendAt
set_option linter.unusedVariables false
set_option linter.unusedSimpArgs false
namespace Go.Proofs.YtfbbdnicplbmdaaDoor
open Go.RowKit Sp
theorem flat_length {α : Type} {enc : α → List Value} {size : Nat} (henc : ∀ x, (enc x).length = size) (l : List α) : (l.map enc).flatten.length = l.length * size := by
  induction l with
  | nil => simp
  | cons x l ih => rw [List.map_cons, List.flatten_cons, List.length_append, ih, henc, List.length_cons, Nat.succ_mul]; omega
theorem flat_cell {α : Type} {enc : α → List Value} {size : Nat} (henc : ∀ x, (enc x).length = size) (hp : 0 < size) (l : List α) (w : World) (b off : Nat)
    (hc : ∀ i (hi : i < l.length) j u, (enc l[i])[j]? = some u → w.cell? ⟨b, off + i * size + j, none⟩ = some u) (j : Nat) (u : Value) (h : (l.map enc).flatten[j]? = some u) : w.cell? ⟨b, off + j, none⟩ = some u := by
  have hj := (List.getElem?_eq_some_iff.1 h).1
  rw [flat_length henc] at hj
  have hd : j / size < l.length := by rw [Nat.div_lt_iff_lt_mul hp]; exact hj
  have hm : j % size < size := Nat.mod_lt _ hp
  have hml : j % size < (enc l[j / size]).length := by rw [henc]; exact hm
  have e := flat_at (size := size) (l.map enc) (fun cs h => by obtain ⟨x, _, rfl⟩ := List.mem_map.1 h; exact henc x) (j / size) (enc l[j / size]) (by simp [hd]) (j % size) _ (List.getElem?_eq_getElem hml)
  have hjs : j / size * size + j % size = j := by rw [Nat.mul_comm]; exact Nat.div_add_mod _ _
  rw [hjs, h] at e
  obtain rfl := Option.some.inj e
  have := hc (j / size) hd (j % size) _ (List.getElem?_eq_getElem hml)
  rw [Nat.add_assoc, hjs] at this
  exact this
section
variable {P : Program} {ops : Array Oper} {rest : List Oper} {o : Oper} {a : Act} {Q : Exit → Act → World → Prop}
theorem run_app_sl {α : Type} {enc : α → List Value} {w : World} {e t ty : TypeId} {size bytes : Nat} {z : Value} (ht : P.underlying t = some (.slice e)) (hinf : (P.info? e).map (fun i => (i.zero, i.size, i.bytes)) = some (some z, size, bytes)) (hzs : z.cells.size = size) (hsz : 0 < size)
    {base : Nat} {v : Value} {n : Nat} {xs : List Value} (hown : w.ownsRow base e size v n xs)
    {l : List α} (ao : Option Addr) (cap : Nat) (hy : SlT enc size w (.slice ao l.length cap) l) (henc : ∀ x, (enc x).length = size) (h1 : ∀ x, ∀ u ∈ enc x, u.oneCell' = true)
    (hlen : (n + l.length) * bytes ≤ 140737488355328 ∧ n + l.length ≤ 9223372036854775807) (hbase : base ≤ w.heap.size) :
    ∃ v' w', (Builtin.append_ #[t, t] ty #[v, .slice ao l.length cap]).run P w = .ok v' w' ∧ w'.ownsRow base e size v' (n + l.length) (xs ++ (l.map enc).flatten) ∧ w.grownBy w' v.ownBlock ∧ (v'.ownBlock = v.ownBlock ∨ v'.ownBlock = some w.heap.size) := by
  obtain ⟨i, hi, hz, hsize, hby⟩ := info_parts hinf
  obtain ⟨ao', cp, hv, _, _, hsh⟩ := hy.shape
  obtain ⟨rfl, rfl⟩ : ao = ao' ∧ cap = cp := by simpa using hv
  cases ao with
  | some ad =>
    obtain ⟨v', w', hrun, r1, r2, _, r3⟩ := run_append_own_at (P := P) w base t ty e i z size bytes ht hi hz hsize hby hzs hsz v n xs hown ad l.length cap (l.map enc).flatten (flat_length henc l)
      (fun j u hj => by
        have hl : 0 < l.length := by
          have := (List.getElem?_eq_some_iff.1 hj).1
          rw [flat_length henc] at this
          exact Nat.pos_of_ne_zero fun h0 => by rw [h0] at this; omega
        obtain ⟨b, off, hb, _, hc⟩ := hsh hl
        obtain rfl := Option.some.inj hb
        rw [add_none]
        exact flat_cell henc hsz l w b off hc j u hj)
      (fun u hu => by
        obtain ⟨c, hc, hu⟩ := List.mem_flatten.1 hu
        obtain ⟨y, _, rfl⟩ := List.mem_map.1 hc
        exact h1 y u hu) (by simp only [maxLen]; omega) hlen.1 hbase
    exact ⟨v', w', hrun, r1, r2, r3⟩
  | none =>
    have hl : l.length = 0 := Nat.eq_zero_of_not_pos fun h => by
      obtain ⟨b, off, hb, _⟩ := hsh h
      cases hb
    have : l = [] := List.eq_nil_of_length_eq_zero hl
    subst this
    have hS : Src P i.size t (.slice none 0 cap) 0 [] w := Src.ofNil w ht cap
    have hrun : (Builtin.append_ #[t, t] ty #[v, .slice none 0 cap]).run P w = .ok v w := by
      rcases hown.2 with ⟨rfl, rfl⟩ | ⟨g, cp, cur, rfl, _, _, hle, _⟩
      · exact run_append_nothing w t t ty e i ht hi none 0 0 (Nat.le_refl _) _ hS
      · exact run_append_nothing w t t ty e i ht hi _ n cp (by omega) _ hS
    refine ⟨v, w, hrun, by simpa using hown, World.grownBy.refl _ _, .inl rfl⟩
/-- append(v, y...): y a slice of records. -/
theorem app_recs {α : Type} {enc : α → List Value} {w0 : World} {e : TypeId} (hgd : o.guard = none) {s x : Operand} {t : TypeId}
    (ho : o.op = .call { callee := .builtin .append, args := #[s, x], argTypes := #[t, t] })
    {size bytes : Nat} {z : Value} (ht : P.underlying t = some (.slice e)) (hinf : (P.info? e).map (fun i => (i.zero, i.size, i.bytes)) = some (some z, size, bytes)) (hzs : z.cells.size = size) (hsz : 0 < size)
    {base : Nat} {v : Value} {n : Nat} {xs : List Value} (hown : w0.ownsRow base e size v n xs) (hs : a.eval s = v)
    {l : List α} (ad : Option Addr) (cap : Nat) (hy : SlT enc size w0 (.slice ad l.length cap) l) (hx : a.eval x = .slice ad l.length cap) (henc : ∀ x, (enc x).length = size) (h1 : ∀ x, ∀ u ∈ enc x, u.oneCell' = true)
    (hlen : (n + l.length) * bytes ≤ 140737488355328 ∧ n + l.length ≤ 9223372036854775807) {B0 : Nat} {W0 : World} (hbl : Below B0 W0 w0) (hB : B0 ≤ base) (hbase : base ≤ w0.heap.size)
    (hK : ∀ v' w', w'.ownsRow base e size v' (n + l.length) (xs ++ (l.map enc).flatten) → Below B0 W0 w' → w0.grownBy w' v.ownBlock → wpList P ops Q rest (a.put o.dst v') w') :
    wpList P ops Q (o :: rest) a w0 := by
  refine wpList_plain hgd fun K hK2 => ?_
  obtain ⟨v', w', hr, h2, h3, _⟩ := run_app_sl (P := P) (ty := o.type) ht hinf hzs hsz hown ad cap hy henc h1 hlen hbase
  unfold Oper.wp execOp
  simp only [ho, resolve, invoke, builtin, Sem.run_bind, Sem.run_pure, Result.andThen_ok, List.map_toArray, List.map_cons, List.map_nil, hs, hx, hr]
  exact hK2 _ _ (hK v' w' h2 (hbl.grown h3 (by omega) fun k hk => by have := hown.lt k hk; omega) h3)
end
end Go.Proofs.YtfbbdnicplbmdaaDoor

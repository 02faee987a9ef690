
/- Laws of the walk: append of a whole slice of records to a row of one's own. -/
import Derived.Test.YtmbmflhcimkjpaaLaws
import Derived.Test.YtmbmflhcimkjpaaRep
import Derived.Test.YtmbmflhcimkjpaaSlices
set_option linter.unusedVariables false
set_option linter.unusedSimpArgs false
namespace Go.Proofs.Ytmbmflhcimkjpaa
open Go.RowKit Sp
theorem flat_length {α : Type} {enc : α → List Value} {size : Nat} (henc : ∀ x, (enc x).length = size) (l : List α) : (l.map enc).flatten.length = l.length * size := by
  induction l with
  | nil => simp
  | cons x l ih => rw [List.map_cons, List.flatten_cons, List.length_append, ih, henc, List.length_cons, Nat.succ_mul]; omega
theorem flat_cell {α : Type} {enc : α → List Value} {size : Nat} (henc : ∀ x, (enc x).length = size) (hp : 0 < size) (l : List α) (w : World) (b off : Nat)
    (hc : ∀ i (hi : i < l.length) j u, (enc l[i])[j]? = some u → w.cell? ⟨b, off + i * size + j, none⟩ = some u) (j : Nat) (u : Value) (h : (l.map enc).flatten[j]? = some u) : w.cell? ⟨b, off + j, none⟩ = some u := by
  have hj := (List.getElem?_eq_some_iff.1 h).1
  rw [flat_length henc] at hj
  have hd : j / size < l.length := by rw [Nat.div_lt_iff_lt_mul hp]; exact hj
  have hm : j % size < size := Nat.mod_lt _ hp
  have hml : j % size < (enc l[j / size]).length := by rw [henc]; exact hm
  have e := flat_at (size := size) (l.map enc) (fun cs h => by obtain ⟨x, _, rfl⟩ := List.mem_map.1 h; exact henc x) (j / size) (enc l[j / size]) (by simp [hd]) (j % size) _ (List.getElem?_eq_getElem hml)
  have hjs : j / size * size + j % size = j := by rw [Nat.mul_comm]; exact Nat.div_add_mod _ _
  rw [hjs, h] at e
  obtain rfl := Option.some.inj e
  have := hc (j / size) hd (j % size) _ (List.getElem?_eq_getElem hml)
  rw [Nat.add_assoc, hjs] at this
  exact this
section
variable {P : Program} {ops : Array Oper} {rest : List Oper} {o : Oper} {a : Act} {Q : Exit → Act → World → Prop}
/-- append(v, y...): y a slice of records that is not nil. -/
theorem app_recs {α : Type} {enc : α → List Value} {w0 : World} {e : TypeId} (hgd : o.guard = none) {s x : Operand} {t : TypeId}
    (ho : o.op = .call { callee := .builtin .append, args := #[s, x], argTypes := #[t, t] })
    {size bytes : Nat} {z : Value} (ht : P.underlying t = some (.slice e)) (hinf : (P.info? e).map (fun i => (i.zero, i.size, i.bytes)) = some (some z, size, bytes)) (hzs : z.cells.size = size) (hsz : 0 < size)
    {base : Nat} {v : Value} {n : Nat} {xs : List Value} (hown : w0.ownsRow base e size v n xs) (hs : a.eval s = v)
    {l : List α} (ad : Addr) (cap : Nat) (hy : SlT enc size w0 (.slice (some ad) l.length cap) l) (hx : a.eval x = .slice (some ad) l.length cap) (henc : ∀ x, (enc x).length = size) (h1 : ∀ x, ∀ u ∈ enc x, u.oneCell' = true)
    (hlen : (n + l.length) * bytes ≤ 140737488355328 ∧ n + l.length ≤ 9223372036854775807) {B0 : Nat} {W0 : World} (hbl : Below B0 W0 w0) (hB : B0 ≤ base) (hbase : base ≤ w0.heap.size)
    (hK : ∀ v' w', w'.ownsRow base e size v' (n + l.length) (xs ++ (l.map enc).flatten) → Below B0 W0 w' → w0.grownBy w' v.ownBlock → wpList P ops Q rest (a.put o.dst v') w') :
    wpList P ops Q (o :: rest) a w0 := by
  obtain ⟨i, hi, hz, hsize, hby⟩ := info_parts hinf
  obtain ⟨ao, cp, hv, _, _, hsh⟩ := hy.shape
  obtain ⟨rfl, _, rfl⟩ : (some ad) = ao ∧ True ∧ cap = cp := by simp at hv; exact ⟨by rw [hv.1], trivial, hv.2⟩
  refine wpList_append_own w0 hgd s x t ho base e i z size bytes ht hi hz hsize hby hzs hsz v n xs hs hown ad l.length cap (l.map enc).flatten hx (flat_length henc l) (fun j u hj => ?_) (fun u hu => ?_)
    (by simp only [maxLen]; omega) hlen.1 hbase fun v' w' h2 h3 _ => hK v' w' h2 (hbl.grown h3 (by omega) fun k hk => ?_) h3
  · have hl : 0 < l.length := by
      have := (List.getElem?_eq_some_iff.1 hj).1
      rw [flat_length henc] at this
      exact Nat.pos_of_ne_zero fun h0 => by rw [h0] at this; omega
    obtain ⟨b, off, hb, _, hc⟩ := hsh hl
    obtain rfl := Option.some.inj hb
    rw [add_none]
    exact flat_cell henc hsz l w0 b off hc j u hj
  · obtain ⟨c, hc, hu⟩ := List.mem_flatten.1 hu
    obtain ⟨y, _, rfl⟩ := List.mem_map.1 hc
    exact h1 y u hu
  · have := hown.lt k hk
    omega
end
end Go.Proofs.Ytmbmflhcimkjpaa

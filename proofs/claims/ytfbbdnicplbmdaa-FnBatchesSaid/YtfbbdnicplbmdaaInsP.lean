
/- Plain and laws: a row of one's own made longer by one record in the midst; copy of records. No program in sight. -/
import Derived.Test.YtfbbdnicplbmdaaDelP
import Derived.Lib.AppendZerosOnto
import Derived.Lib.Overlaps
import Derived.Laws.IdiomCopy
set_option linter.unusedVariables false
set_option linter.unusedSimpArgs false
namespace Go.Proofs.Ytfbbdnicplbmdaa
open Go.RowKit Sp
namespace Sp
theorem setAll_drop {α : Type} : ∀ (us xs : List α) (o : Nat), (setAll xs o us).drop (o + us.length) = xs.drop (o + us.length)
  | [], xs, o => rfl
  | u :: us, xs, o => by
    rw [setAll, show o + (u :: us).length = (o + 1) + us.length from by simp; omega, setAll_drop us, List.drop_set_of_lt (by omega)]
theorem setAll_mid {α : Type} (us xs : List α) (o : Nat) (h : o + us.length ≤ xs.length) : setAll xs o us = xs.take o ++ us ++ xs.drop (o + us.length) := by
  have h1 := setAll_eq us xs o h
  have h2 := setAll_drop us xs o
  have h3 := List.take_append_drop (o + us.length) (setAll xs o us)
  rw [h1, h2] at h3
  exact h3.symm
theorem flat_drop {α β : Type} {f : α → List β} {n : Nat} (hf : ∀ x, (f x).length = n) : ∀ (l : List α) (k : Nat), ((l.map f).flatten).drop (k * n) = ((l.drop k).map f).flatten
  | [], k => by simp
  | x :: l, 0 => by simp
  | x :: l, k + 1 => by
    rw [List.map_cons, List.flatten_cons, List.drop_succ_cons, List.drop_append, ← flat_drop hf l k, hf]
    rw [List.drop_eq_nil_of_le (by rw [hf, Nat.succ_mul]; omega), List.nil_append, show (k + 1) * n - n = k * n from by rw [Nat.succ_mul]; omega]
/-- In place: what stood from i on goes one record up, then the new one is laid at i. -/
theorem ins_room {α β : Type} {f : α → List β} {n : Nat} (hf : ∀ x, (f x).length = n) (l : List α) (i : Nat) (hi : i < l.length) (x : α) (ys : List β) (hy : ys.length = n) :
    setAll (setAll ((l.map f).flatten ++ ys) ((i + 1) * n) ((l.drop i).map f).flatten) (i * n) (f x) = ((l.take i ++ x :: l.drop i).map f).flatten := by
  have hL : ∀ l : List α, ((l.map f).flatten).length = l.length * n := by
    intro l; induction l with
    | nil => simp
    | cons x l ih => rw [List.map_cons, List.flatten_cons, List.length_append, ih, hf, List.length_cons, Nat.succ_mul]; omega
  obtain ⟨k, hk⟩ : ∃ k, l.length = i + k := ⟨l.length - i, by omega⟩
  have hd : (l.drop i).length = k := by simp [hk]
  have ht : (l.take i).length = i := by simp; omega
  have hA := hL (l.take i)
  have hD := hL (l.drop i)
  rw [ht] at hA
  rw [hd] at hD
  have hl : (l.map f).flatten = ((l.take i).map f).flatten ++ ((l.drop i).map f).flatten := by rw [← List.flatten_append, ← List.map_append, List.take_append_drop]
  have hr : ((l.take i ++ x :: l.drop i).map f).flatten = ((l.take i).map f).flatten ++ f x ++ ((l.drop i).map f).flatten := by rw [List.map_append, List.map_cons, List.flatten_append, List.flatten_cons, List.append_assoc]
  rw [hl, hr]
  generalize ((l.take i).map f).flatten = A at *
  generalize ((l.drop i).map f).flatten = D at *
  have e1 : (i + 1) * n = i * n + n := Nat.succ_mul _ _
  have hfx := hf x
  generalize f x = F at *
  rw [e1]
  generalize i * n = p at *
  generalize k * n = q at *
  obtain ⟨T, hT⟩ : ∃ T, T = (A ++ D ++ ys).take (p + n) := ⟨_, rfl⟩
  have hTl : T.length = p + n := by rw [hT]; simp; omega
  have s1 : setAll (A ++ D ++ ys) (p + n) D = T ++ D := by
    rw [setAll_mid _ _ _ (by simp; omega), ← hT]
    simp; omega
  rw [s1, setAll_mid _ _ _ (by simp; omega)]
  have s2 : (T ++ D).take p = A := by
    rw [List.take_append_of_le_length (by omega), hT, List.take_take, Nat.min_eq_left (by omega), List.append_assoc, List.take_append_of_le_length (by omega), List.take_of_length_le (by omega)]
  have s3 : (T ++ D).drop (p + F.length) = D := by
    rw [List.drop_append, List.drop_eq_nil_of_le (by omega), hTl, hfx]; simp
  rw [s2, s3]
/-- In a new row: what stood ahead of i lies there, the new one is laid at i, then the rest. -/
theorem ins_grow {α β : Type} {f : α → List β} {n : Nat} (hf : ∀ x, (f x).length = n) (l : List α) (i : Nat) (hi : i ≤ l.length) (x : α) (ys : List β) (hy : ys.length = (l.length + 1 - i) * n) :
    setAll (setAll (((l.take i).map f).flatten ++ ys) (i * n) (f x)) ((i + 1) * n) ((l.drop i).map f).flatten = ((l.take i ++ x :: l.drop i).map f).flatten := by
  have hL : ∀ l : List α, ((l.map f).flatten).length = l.length * n := by
    intro l; induction l with
    | nil => simp
    | cons x l ih => rw [List.map_cons, List.flatten_cons, List.length_append, ih, hf, List.length_cons, Nat.succ_mul]; omega
  obtain ⟨k, hk⟩ : ∃ k, l.length = i + k := ⟨l.length - i, by omega⟩
  have hd : (l.drop i).length = k := by simp [hk]
  have ht : (l.take i).length = i := by simp; omega
  have e0 : l.length + 1 - i = k + 1 := by omega
  rw [e0] at hy
  have e1 : (i + 1) * n = i * n + n := Nat.succ_mul _ _
  have e2 : (k + 1) * n = k * n + n := Nat.succ_mul _ _
  have em : setAll (((l.take i).map f).flatten ++ ys) (i * n) (f x) = ((l.take i).map f).flatten ++ f x ++ (((l.take i).map f).flatten ++ ys).drop (i * n + n) := by
    rw [setAll_mid _ _ _ (by rw [List.length_append, hL, hf, ht, hy, e2]; omega), hf, List.take_append_of_le_length (by rw [hL, ht]; exact Nat.le_refl _), List.take_of_length_le (by rw [hL, ht]; exact Nat.le_refl _)]
  rw [em]
  have t1 : (((l.take i).map f).flatten ++ f x).length = (i + 1) * n := by rw [List.length_append, hL, ht, hf, e1]
  have t2 : ((((l.take i).map f).flatten ++ ys).drop (i * n + n)).length = k * n := by rw [List.length_drop, List.length_append, hL, ht, hy, e2]; omega
  rw [setAll_mid _ _ _ (by rw [List.length_append, t1, t2, hL, hd]; exact Nat.le_refl _), List.take_append_of_le_length (Nat.le_of_eq t1.symm), List.take_of_length_le (Nat.le_of_eq t1), hL, hd]
  have s3 : ((((l.take i).map f).flatten ++ f x) ++ (((l.take i).map f).flatten ++ ys).drop (i * n + n)).drop ((i + 1) * n + k * n) = [] := List.drop_eq_nil_of_le (by rw [List.length_append, t1, t2]; exact Nat.le_refl _)
  rw [s3, List.append_nil, List.map_append, List.map_cons, List.flatten_append, List.flatten_cons, List.append_assoc]
end Sp
theorem own_more {w : World} {e size base g n cap : Nat} {xs : List Value} (h : w.ownsRow base e size (.slice (some ⟨g, 0, none⟩) n cap) n xs) (hm : n + 1 ≤ cap) : ∃ ys, ys.length = size ∧ w.ownsRow base e size (.slice (some ⟨g, 0, none⟩) (n + 1) cap) (n + 1) (xs ++ ys) := by
  rcases h.2 with ⟨hn, _⟩ | ⟨g', cap', cur, hv, hb', hg, hc, hcm, hcs, ht⟩
  · cases hn
  · simp only [Value.slice.injEq, Option.some.injEq, Addr.mk.injEq, and_true, true_and] at hv
    obtain ⟨rfl, rfl⟩ := hv
    have hz : cur.toList.length = cap * size := by simpa using hcs
    have hle : (n + 1) * size ≤ cap * size := Nat.mul_le_mul_right _ hm
    have e1 : (n + 1) * size = n * size + size := Nat.succ_mul _ _
    refine ⟨(cur.toList.drop (n * size)).take size, by rw [List.length_take, List.length_drop, hz]; omega, by rw [List.length_append, h.1, List.length_take, List.length_drop, hz]; omega, .inr ⟨g, cap, cur, rfl, hb', hg, hm, hcm, hcs, ?_⟩⟩
    rw [e1, List.take_add, ht]
theorem run_copy_recs {P : Program} (w : World) (dT sT ty elem : TypeId) (size b o dLen dCap : Nat) (a : Addr) (sLen sCap m : Nat) (cs : List Value)
    (hu : P.underlying dT = some (.slice elem)) (hs : (P.info? elem).map (·.size) = some size) (hm : m = Nat.min sLen dLen) (hn : cs.length = m * size)
    (hsrc : ∀ j v, cs[j]? = some v → w.cell? (a.add j) = some v) (hc : ∀ j, j < cs.length → (w.cell? ⟨b, o + j, none⟩).isSome = true) (hf : ∀ j, j < cs.length → w.frozen? ⟨b, o + j, none⟩ = false) (h1 : ∀ v ∈ cs, v.oneCell' = true) :
    (Builtin.copy_ #[dT, sT] ty #[.slice (some ⟨b, o, none⟩) dLen dCap, .slice (some a) sLen sCap]).run P w = .ok (goInt m) (w.setCells b o cs) := by
  have hl := run_loadCells_list (P := P) w a cs hsrc
  have hst := run_storeCells_cells (P := P) b o cs 0 w (by simpa using hc) (by simpa using hf) h1
  cases hq : P.info? elem with
  | none => simp [hq] at hs
  | some i =>
    have hi : i.size = size := by simpa [hq] using hs
    simp [Builtin.copy_, run_underlying hu, Builtin.lenOf, Builtin.firstCells, sizeOf, typeInfo, hq, hi, ← hm, ← hn, hl, hst]
section
variable {P : Program} {ops : Array Oper} {rest : List Oper} {o : Oper} {a : Act} {Q : Exit → Act → World → Prop}
theorem wpList_copy_runI (w : World) (hgd : o.guard = none) (d s : Operand) (t t' : TypeId)
    (ho : o.op = .call { callee := .builtin .copy, args := #[d, s], argTypes := #[t, t'] }) (v u : Value) (hd : a.eval d = v) (hs : a.eval s = u) {v' : Value} {w' : World}
    (hr : (Builtin.copy_ #[t, t'] o.type #[v, u]).run P w = .ok v' w') (h : wpList P ops Q rest (a.put o.dst v') w') : wpList P ops Q (o :: rest) a w :=
  wpList_plain hgd fun _ hK => by
    unfold Oper.wp execOp
    simp only [ho, resolve, invoke, builtin, Sem.run_bind, Sem.run_pure, Result.andThen_ok, List.map_toArray, List.map_cons, List.map_nil, hd, hs, hr]
    exact hK _ _ h
theorem step_copy_runI {w : World} {K : Act → World → Prop} {E : Prop}
    (hg : o.guard = none) (d x : Operand) (dT sT : TypeId) (hop : o.op = Op.call { callee := Callee.builtin Builtin.copy, args := #[d, x], argTypes := #[dT, sT] })
    (v u : Value) (hd : a.eval d = v) (hx : a.eval x = u) {v' : Value} {w' : World} (hr : (Builtin.copy_ #[dT, sT] o.type #[v, u]).run P w = .ok v' w') (hK : K (a.put o.dst v') w') :
    if Region.wanted o (yielded ops a.tmps) = true then Oper.wp P o a w K Q else E := by
  have hw : Region.wanted o (yielded ops a.tmps) = true := by simp [Region.wanted, hg]
  rw [if_pos hw]
  unfold Oper.wp
  simp [execOp, hop, resolve, invoke, builtin, hd, hx, hr, Result.andThen]
  exact hK
end
theorem drew_setCells (b : Nat) : ∀ (vs : List Value) (o : Nat) (w : World), (w.setCells b o vs).drew = w.drew.setCells b o vs
  | [], _, _ => rfl
  | v :: r, o, w => by rw [World.setCells, World.setCells, drew_setCells b r]; rfl
end Go.Proofs.Ytfbbdnicplbmdaa

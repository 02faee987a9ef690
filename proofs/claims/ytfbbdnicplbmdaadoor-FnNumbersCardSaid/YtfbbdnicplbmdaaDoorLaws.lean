
/- Laws of the walk for slices that a call makes itself, with what lies below kept along. No program in sight. -/
import Derived.Test.YtfbbdnicplbmdaaDoorNum
import Derived.WalkKit
import Derived.Maps.AppendAt
import Derived.Deep.Draws
set_option linter.unusedVariables false
set_option linter.unusedSimpArgs false
namespace Go.Proofs.YtfbbdnicplbmdaaDoor
open Go.RowKit Sp
section
variable {P : Program} {ops : Array Oper} {rest : List Oper} {o : Oper} {a : Act} {Q : Exit → Act → World → Prop}

theorem cells_new (w : World) (news : Array Value) (e : TypeId) : ∀ j u, news.toList[j]? = some u → (w.alloc (.cells news e)).cell? ((⟨w.heap.size, 0, none⟩ : Addr).add j) = some u := by
  intro j u hj
  rw [add_none, Nat.zero_add, World.cell?_alloc_at _ _ _ _ rfl]
  simpa using hj

end
theorem heap_new_drew (w : World) (o : Obj) : (w.alloc o).drew.heap[w.heap.size]? = some o := heap_alloc_new w o
section
variable {P : Program} {ops : Array Oper} {rest : List Oper} {o : Oper} {a : Act} {Q : Exit → Act → World → Prop}
/-- append of elements that have just been laid in a new block. -/
theorem app_new {w0 : World} {news : Array Value} {e : TypeId} (hgd : o.guard = none) {s x : Operand} {t : TypeId}
    (ho : o.op = .call { callee := .builtin .append, args := #[s, x], argTypes := #[t, t] })
    {size bytes : Nat} {z : Value} (ht : P.underlying t = some (.slice e)) (hinf : (P.info? e).map (fun i => (i.zero, i.size, i.bytes)) = some (some z, size, bytes)) (hzs : z.cells.size = size) (hsz : 0 < size)
    {base : Nat} {v : Value} {n : Nat} {xs : List Value} (hown : w0.ownsRow base e size v n xs) (hs : a.eval s = v)
    (m : Nat) (hx : a.eval x = .slice (some ⟨w0.heap.size, 0, none⟩) m m) (hl : news.size = m * size) (h1 : ∀ u ∈ news.toList, u.oneCell' = true)
    (hlen : (n + m) * bytes ≤ 140737488355328 ∧ n + m ≤ 9223372036854775807) {B0 : Nat} {W0 : World} (hbl : Below B0 W0 w0) (hB : B0 ≤ base) (hbase : base ≤ w0.heap.size)
    (hK : ∀ v' w', w'.ownsRow base e size v' (n + m) (xs ++ news.toList) → Below B0 W0 w' → w0.grownBy w' v.ownBlock → wpList P ops Q rest (a.put o.dst v') w') :
    wpList P ops Q (o :: rest) a (w0.alloc (.cells news e)) := by
  obtain ⟨i, hi, hz, hsize, hby⟩ := info_parts hinf
  refine wpList_append_own (w0.alloc (.cells news e)) hgd s x t ho base e i z size bytes ht hi hz hsize hby hzs hsz v n xs hs (hown.alloc _) ⟨w0.heap.size, 0, none⟩ m m news.toList hx (by simpa using hl) (cells_new w0 news e) h1
    (by simp only [maxLen]; omega) hlen.1 (by simp; omega) fun v' w' h2 h3 _ => hK v' w' h2 ?_ ?_
  · refine (hbl.alloc (by omega) _).grown h3 (by simp; omega) fun k hk => ?_
    have := hown.lt k hk
    omega
  · exact ⟨h3.os, h3.tape, h3.output, Nat.le_trans (by simp) h3.size, fun k hk hne => (h3.block k (by simp; omega) hne).trans (Below.heap_alloc w0 _ k hk)⟩

/-- make([]T, n). -/
theorem mk_full {w0 : World} {e : TypeId} (hgd : o.guard = none) {l c : Operand} {t : TypeId} (hop : o.op = .makeSlice t l c)
    {size bytes : Nat} {z : Value} (ht : P.underlying t = some (.slice e)) (hinf : (P.info? e).map (fun i => (i.zero, i.size, i.bytes)) = some (some z, size, bytes))
    (n : Nat) {L : Int} (hl : a.eval l = .int .i64 L) (hc : a.eval c = .int .i64 L) (hL : L = (n : Int)) (hlen : bytes * n ≤ 281474976710656 ∧ n ≤ 9223372036854775807) (base : Nat) {B0 : Nat} {W0 : World} (hbl : Below B0 W0 w0) (hB : B0 ≤ base) (hbase : base ≤ w0.heap.size)
    (hK : ∀ w', w'.ownsRow base e size (.slice (some ⟨w0.heap.size, 0, none⟩) n n) n (madeCells z.cells (n * size)).toList → Below B0 W0 w' → w0.grownBy w' none → wpList P ops Q rest (a.put o.dst (.slice (some ⟨w0.heap.size, 0, none⟩) n n)) w') :
    wpList P ops Q (o :: rest) a w0 := by
  obtain ⟨i, hi, hz, hsize, hby⟩ := info_parts hinf
  refine wpList_make_full w0 hgd l c t hop base e i z size ht hi hz hsize .i64 .i64 L L n hl hc hL hL (by rw [hby]; exact hlen.1) (by simp only [maxLen]; omega) hbase fun w' h1 h2 => hK w' h1 (hbl.grown h2 (by omega) (by simp)) h2

/-- make([]T, 0, n). -/
theorem mk_own {w0 : World} {e : TypeId} (hgd : o.guard = none) {l c : Operand} {t : TypeId} (hop : o.op = .makeSlice t l c)
    {size bytes : Nat} {z : Value} (ht : P.underlying t = some (.slice e)) (hinf : (P.info? e).map (fun i => (i.zero, i.size, i.bytes)) = some (some z, size, bytes))
    (n : Nat) {L : Int} (hl : a.eval l = .int .i64 0) (hc : a.eval c = .int .i64 L) (hL : L = (n : Int)) (hlen : bytes * n ≤ 281474976710656 ∧ n ≤ 9223372036854775807) (base : Nat) {B0 : Nat} {W0 : World} (hbl : Below B0 W0 w0) (hB : B0 ≤ base) (hbase : base ≤ w0.heap.size)
    (hK : ∀ w', w'.ownsRow base e size (.slice (some ⟨w0.heap.size, 0, none⟩) 0 n) 0 [] → Below B0 W0 w' → w0.grownBy w' none → wpList P ops Q rest (a.put o.dst (.slice (some ⟨w0.heap.size, 0, none⟩) 0 n)) w') :
    wpList P ops Q (o :: rest) a w0 := by
  obtain ⟨i, hi, hz, hsize, hby⟩ := info_parts hinf
  refine wpList_make_own w0 hgd l c t hop base e i z size ht hi hz hsize .i64 .i64 L n hl hc hL (by rw [hby]; exact hlen.1) (by simp only [maxLen]; omega) hbase fun w' h1 h2 => hK w' h1 (hbl.grown h2 (by omega) (by simp)) h2
end

theorem below_drewN {B : Nat} {a w : World} (h : Below B a w) (n : Nat) : Below B a (w.drewN n) := ⟨h.os, h.tape, h.output, h.size, h.block⟩
/-- Old cells and marks read as before: for the walk to take as rules. -/
theorem bcell {W w1 : World} (hb : Below W.heap.size W w1) : (∀ b o, b < W.heap.size → w1.cell? ⟨b, o, none⟩ = W.cell? ⟨b, o, none⟩) ∧ (∀ b o, b < W.heap.size → w1.frozen? ⟨b, o, none⟩ = W.frozen? ⟨b, o, none⟩) :=
  ⟨fun b o h => hb.cell (p := ⟨b, o, none⟩) h, fun b o h => hb.frozen (p := ⟨b, o, none⟩) h⟩

/-- bits on int, both sides not below 0. -/
theorem ofInt_i64 (a : Nat) (ha : a < 9223372036854775808) : (BitVec.ofInt 64 (a : Int)).toNat = a := by
  rw [BitVec.ofInt_natCast, BitVec.toNat_ofNat]; exact Nat.mod_eq_of_lt (by omega)
theorem i64_and (a b : Nat) (ha : a < 9223372036854775808) (hb : b < 9223372036854775808) : bits .and .i64 (a : Int) (b : Int) = ((a &&& b : Nat) : Int) := by
  have hx : a &&& b < 2 ^ 63 := Nat.and_lt_two_pow _ (by omega)
  show IntKind.i64.wrap ((BitVec.ofInt 64 (a : Int) &&& BitVec.ofInt 64 (b : Int)).toNat : Int) = _
  rw [BitVec.toNat_and, ofInt_i64 a ha, ofInt_i64 b hb, IntKind.wrap_i64]
  omega
theorem i64_or (a b : Nat) (ha : a < 9223372036854775808) (hb : b < 9223372036854775808) : bits .or .i64 (a : Int) (b : Int) = ((a ||| b : Nat) : Int) := by
  have hx : a ||| b < 2 ^ 63 := Nat.or_lt_two_pow (by omega) (by omega)
  show IntKind.i64.wrap ((BitVec.ofInt 64 (a : Int) ||| BitVec.ofInt 64 (b : Int)).toNat : Int) = _
  rw [BitVec.toNat_or, ofInt_i64 a ha, ofInt_i64 b hb, IntKind.wrap_i64]
  omega
theorem i64_xor (a b : Nat) (ha : a < 9223372036854775808) (hb : b < 9223372036854775808) : bits .xor .i64 (a : Int) (b : Int) = ((a ^^^ b : Nat) : Int) := by
  have hx : a ^^^ b < 2 ^ 63 := Nat.xor_lt_two_pow (by omega) (by omega)
  show IntKind.i64.wrap ((BitVec.ofInt 64 (a : Int) ^^^ BitVec.ofInt 64 (b : Int)).toNat : Int) = _
  rw [BitVec.toNat_xor, ofInt_i64 a ha, ofInt_i64 b hb, IntKind.wrap_i64]
  omega
end Go.Proofs.YtfbbdnicplbmdaaDoor

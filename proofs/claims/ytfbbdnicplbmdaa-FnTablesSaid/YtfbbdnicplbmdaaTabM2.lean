
/- Plain: reading a table back. No program in sight. -/
import Derived.Test.YtfbbdnicplbmdaaTabM1
import Derived.Test.YtfbbdnicplbmdaaKStr0
import Derived.Test.YtfbbdnicplbmdaaRound
import Derived.RangeFuncBox
import Derived.Shelf.Abstract
import Derived.Shelf.RegionOpen
import Derived.OwnWalkIn
import Derived.TacticsInMore
import Derived.LoopNIn
import Derived.LoopIn
import Derived.Sort.BigQuietIn
import Derived.Test.YtfbbdnicplbmdaaMemW
import Derived.Deep.DeepCutAuto
import Derived.Deep.QuietTactic
import Derived.Test.YtfbbdnicplbmdaaTakP
/- Plain: what the loops that make a table keep in memory. -/
set_option linter.unusedVariables false
set_option linter.unusedSimpArgs false
namespace Go.Proofs.Ytfbbdnicplbmdaa
open Go.RowKit Sp Go.Sort
/-- A piece of a slice reads as the piece of its list. -/
theorem SlT.sub {α : Type} {enc : α → List Value} {size : Nat} {w : World} {b off n cap : Nat} {l : List α} (h : SlT enc size w (.slice (some ⟨b, off, none⟩) n cap) l) {lo hi : Nat} (h1 : lo ≤ hi) (h2 : hi ≤ l.length) :
    SlT enc size w (.slice (some ⟨b, off + lo * size, none⟩) (hi - lo) (cap - lo)) ((l.drop lo).take (hi - lo)) := by
  obtain ⟨ao, cp, hv, hc, hm, hh⟩ := h.shape
  simp only [Value.slice.injEq] at hv
  obtain ⟨e1, e2, e3⟩ := hv
  subst e1; subst e3
  have hl : ((l.drop lo).take (hi - lo)).length = hi - lo := by rw [List.length_take, List.length_drop]; omega
  refine ⟨_, _, by rw [List.length_map, hl], by rw [List.length_map, hl]; omega, by omega, fun hp => ?_⟩
  rw [List.length_map, hl] at hp
  obtain ⟨b', off', ha, hlt, hcell⟩ := hh (by omega)
  simp only [Option.some.injEq, Addr.mk.injEq] at ha
  obtain ⟨rfl, rfl, _⟩ := ha
  refine ⟨b, off + lo * size, rfl, hlt, fun i cs hi' j u hj => ?_⟩
  have hil : i < hi - lo := by
    have := (List.getElem?_eq_some_iff.1 hi').1
    rw [List.length_map, hl] at this; exact this
  have he : cs = enc (l[lo + i]'(by omega)) := by
    have e : (((l.drop lo).take (hi - lo)).map enc)[i]? = some (enc (l[lo + i]'(by omega))) := by
      rw [List.getElem?_map, List.getElem?_take, if_pos hil, List.getElem?_drop, List.getElem?_eq_getElem (by omega)]; rfl
    rw [e] at hi'; exact (Option.some.inj hi').symm
  subst he
  have := hcell (lo + i) (by omega) j u hj
  rw [Nat.add_mul] at this
  rw [show off + lo * size + i * size + j = off + (lo * size + i * size) + j from by omega]
  exact this
def keyC (e : EntR) : Value := .string e.key
theorem keyC_flat (l : List EntR) : l.map keyC = ((l.map (·.key)).map strCells).flatten := by
  induction l with
  | nil => rfl
  | cons x l ih => simp only [List.map_cons, List.flatten_cons, ← ih]; rfl
/-- k entries behind the reference's loop: the keys, the parts, the table's own box. -/
structure TOf (l : List EntR) (B A k m : Nat) (ao : Option Addr) (cp : Nat) (bo : Option Addr) (dp : Nat) (top : Int) (wr : World) : Prop where
  keys : wr.ownsRow (B + 1) 9 1 (.slice ao k cp) k ((l.take k).map keyC)
  parts : wr.ownsRow (B + 1) 99 2 (.slice bo m dp) m ((prts l m).map PartR.cells).flatten
  ap : Apart (.slice ao k cp) (.slice bo m dp)
  box : Bx wr B #[.slice bo m dp, .string ⟨#[]⟩, .int .i64 top]
  res : Bx wr A #[.slice none 0 0, .string ⟨#[]⟩, .int .i64 0]
theorem TOf.below {l : List EntR} {B A k m : Nat} {ao : Option Addr} {cp : Nat} {bo : Option Addr} {dp : Nat} {top : Int} {wr w' : World} (h : TOf l B A k m ao cp bo dp top wr) (hb : Below wr.heap.size wr w') : TOf l B A k m ao cp bo dp top w' :=
  ⟨own_below h.keys hb, own_below h.parts hb, h.ap, h.box.below hb, h.res.below hb⟩
theorem TOf.setTop {l : List EntR} {B A k m : Nat} {ao : Option Addr} {cp : Nat} {bo : Option Addr} {dp : Nat} {top : Int} {wr : World} (h : TOf l B A k m ao cp bo dp top wr) (hAB : A < B) (t : Int) : TOf l B A k m ao cp bo dp t (wr.setCell ⟨B, 2, none⟩ (.int .i64 t)) :=
  ⟨own_other h.keys _ (by show B < B + 1; omega) _, own_other h.parts _ (by show B < B + 1; omega) _, h.ap, h.box.set 2 _, h.res.far _ _ (by show A ≠ B; omega)⟩
theorem TOf.key {l : List EntR} {B A k m : Nat} {ao : Option Addr} {cp : Nat} {bo : Option Addr} {dp : Nat} {top : Int} {wr w' : World} {v : Value} (h : TOf l B A k m ao cp bo dp top wr) (hAB : A < B) (hk : k < l.length)
    (r : w'.ownsRow (B + 1) 9 1 v (k + 1) ((l.take k).map keyC ++ [.string l[k].key])) (g : wr.grownBy w' (Value.slice ao k cp).ownBlock) (e : v.ownBlock = (Value.slice ao k cp).ownBlock ∨ ∃ q, v.ownBlock = some q ∧ wr.heap.size ≤ q) :
    ∃ ao' cp', v = .slice ao' (k + 1) cp' ∧ TOf l B A (k + 1) m ao' cp' bo dp top w' := by
  obtain ⟨ao', cp', rfl⟩ : ∃ ao' cp', v = .slice ao' (k + 1) cp' := by
    rcases r.2 with ⟨_, hn⟩ | ⟨g, cap, cur, hv, _⟩
    · omega
    · exact ⟨_, _, hv⟩
  have hap : Apart (.slice ao' (k + 1) cp') (.slice bo m dp) := by
    intro q h1 h2
    rcases e with e | ⟨q', e, hq⟩
    · rw [e] at h1; exact h.ap q h1 h2
    · rw [e] at h1
      have := Option.some.inj h1
      have := (h.parts.lt q h2).2
      omega
  refine ⟨ao', cp', rfl, ?_, own_grown h.parts g (fun q h1 h2 => h.ap q h2 h1), hap, h.box.grown g (fun e => ?_), h.res.grown g (fun e => ?_)⟩
  · rw [List.take_succ_eq_append_getElem hk, List.map_append]; exact r
  · have := (h.keys.lt _ e).1; omega
  · have := (h.keys.lt _ e).1; omega
theorem TOf.part {l : List EntR} {B A k m : Nat} {ao : Option Addr} {cp : Nat} {bo : Option Addr} {dp : Nat} {top : Int} {wr w' : World} {v : Value} (h : TOf l B A k m ao cp bo dp top wr) (hAB : A < B)
    (r : w'.ownsRow (B + 1) 99 2 v (m + 1) (((prts l m).map PartR.cells).flatten ++ (prt l m).cells)) (g : wr.grownBy w' (Value.slice bo m dp).ownBlock) (e : v.ownBlock = (Value.slice bo m dp).ownBlock ∨ ∃ q, v.ownBlock = some q ∧ wr.heap.size ≤ q) :
    ∃ bo' dp', v = .slice bo' (m + 1) dp' ∧ TOf l B A k (m + 1) ao cp bo' dp' top (w'.setCell ⟨B, 0, none⟩ v) := by
  obtain ⟨bo', dp', rfl⟩ : ∃ ao' cp', v = .slice ao' (m + 1) cp' := by
    rcases r.2 with ⟨_, hn⟩ | ⟨g, cap, cur, hv, _⟩
    · omega
    · exact ⟨_, _, hv⟩
  have hap : Apart (.slice ao k cp) (.slice bo' (m + 1) dp') := by
    intro q h1 h2
    rcases e with e | ⟨q', e, hq⟩
    · rw [e] at h2; exact h.ap q h1 h2
    · rw [e] at h2
      have := Option.some.inj h2
      have := (h.keys.lt q h1).2
      omega
  have hk2 := own_grown h.keys g (fun q h1 h2 => h.ap q h1 h2)
  have hb2 := h.box.grown g (fun e => by have := (h.parts.lt _ e).1; omega)
  have hr2 := h.res.grown g (fun e => by have := (h.parts.lt _ e).1; omega)
  refine ⟨bo', dp', rfl, own_other hk2 _ (by show B < B + 1; omega) _, own_other ?_ _ (by show B < B + 1; omega) _, hap, hb2.set 0 _, hr2.far _ _ (by show A ≠ B; omega)⟩
  rw [prts_succ, List.map_append, List.flatten_append]
  simpa using r
theorem grown_off {W W1 : World} {o : Obj} {r : Option Nat} (h : (W.alloc o).grownBy W1 r) : W.grownBy W1 r :=
  ⟨h.os, h.tape, h.output, Nat.le_trans (by simp) h.size, fun k hk hne => (h.block k (by simp; omega) hne).trans (Below.heap_alloc W o k hk)⟩
theorem TOf.app {l : List EntR} {B A k m : Nat} {ao : Option Addr} {cp : Nat} {bo : Option Addr} {dp : Nat} {top : Int} {wr w' : World} {v : Value} (h : TOf l B A k m ao cp bo dp top wr) (hAB : A < B) {x : PartR} (hx : prt l m = x)
    (r : w'.ownsRow (B + 1) 99 2 v (m + 1) (((prts l m).map PartR.cells).flatten ++ #[.string x.last, .string x.text].toList)) {o : Obj} (g : (wr.alloc o).grownBy w' (Value.slice bo m dp).ownBlock) (e : v.ownBlock = (Value.slice bo m dp).ownBlock ∨ v.ownBlock = some (wr.alloc o).heap.size) :
    ∃ bo' dp', v = .slice bo' (m + 1) dp' ∧ TOf l B A k (m + 1) ao cp bo' dp' top (w'.setCell ⟨B, 0, none⟩ v) ∧ w'.cell? ⟨B, 0, none⟩ = some (.slice bo m dp) ∧ ∀ j, w'.frozen? ⟨B, j, none⟩ = false := by
  subst hx
  have g' := grown_off g
  have hb := h.box.grown g' (fun e => by have := (h.parts.lt _ e).1; omega)
  obtain ⟨bo', dp', e1, e2⟩ := h.part hAB r g' (e.imp id fun h => ⟨_, h, by simp⟩)
  exact ⟨bo', dp', e1, e2, hb.cell 0 _ rfl, hb.frozen⟩
end Go.Proofs.Ytfbbdnicplbmdaa
/- Walks: slices.Chunk at entries: what its iterator gives. -/
set_option linter.unusedVariables false
set_option linter.unusedSimpArgs false
namespace Go.Proofs.Ytfbbdnicplbmdaa
open Go.RowKit Sp Go.Sort Go.Shelf
attribute [local go_sem] Oper.semAt_some
/-- The j-th piece of six of a slice of entries. -/
def chv (b off len j : Nat) : Value := .slice (some ⟨b, off + 6 * j * 4, none⟩) (min 6 (len - 6 * j)) (min 6 (len - 6 * j))
def KpT (Bs Bn : Nat) (W W' : World) : Prop := W'.heap[Bs]? = W.heap[Bs]? ∧ W'.heap[Bn]? = W.heap[Bn]?
theorem KpT.trans {Bs Bn : Nat} {A B C : World} (h : KpT Bs Bn A B) (k : KpT Bs Bn B C) : KpT Bs Bn A C := ⟨k.1.trans h.1, k.2.trans h.2⟩
theorem range_pre {N k : Nat} {pre : List (Fin N)} (h : pre.map Fin.val = List.range k) (hk : k < N) : (pre ++ [(⟨k, hk⟩ : Fin N)]).map Fin.val = List.range (k + 1) := by
  rw [List.map_append, h, List.range_succ]; rfl

set_option maxRecDepth 100000 in
set_option maxHeartbeats 2000000 in
theorem chunk1_in (n : Nat) (hn : 1 ≤ n) (l Bs Bn b off len cap : Nat) (hl : len ≤ 60) (hlc : len ≤ cap) (hcm : cap ≤ 9223372036854775807) (J Jx : List (Fin (nch len)) → World → Prop)
    (hY : ∀ pre x W, J pre W → pre.length < nch len → YieldAt Fence.wide (n - 1) Try.prog l #[chv b off len x.1] W fun e W' =>
      (e = .returned (.bool true) ∧ J (pre ++ [x]) W' ∧ KpT Bs Bn W W') ∨ (e = .returned (.bool false) ∧ Jx (pre ++ [x]) W'))
    (hAb : ∀ s A B row, J s A → A.grownBy B row → (∀ r, row = some r → False) → J s B) (W : World) (hBs : Bx W Bs #[.slice (some ⟨b, off, none⟩) len cap]) (hBn : Bx W Bn #[.int .i64 6]) (h0 : J [] W) :
    CallsIn Fence.wide n Try.prog 147 #[.func (.yield l) #[] #[], .pointer (some ⟨Bs, 0, none⟩), .pointer (some ⟨Bn, 0, none⟩)] W fun e W' => (∃ v, e = .returned v) ∧
      ((∃ ys : List (Fin (nch len)), ys.map Fin.val = List.range (nch len) ∧ J ys W') ∨ (∃ pre : List (Fin (nch len)), True ∧ Jx pre W')) := by
  refine callsIn_of_wp Try.func147 rfl trivial ?_ rfl
  simp only [Try.ntmps147, List.size_toArray, List.length_cons, List.length_nil, Nat.reduceAdd, Nat.reduceSub, Array.replicate_succ, Array.replicate_zero, List.push_toArray, List.append_toArray, List.nil_append, List.cons_append]
  gi_wp2
  gi_loopw [4] (fun i wr => ∃ (k p : Nat) (pre : List (Fin (nch len))), RowKit.Hid (p = 6 * k) ∧ k ≤ nch len ∧ i = .int .i64 (p : Nat) ∧ RowKit.Hid (pre.map Fin.val = List.range k) ∧ J pre wr ∧ Bx wr Bs #[.slice (some ⟨b, off, none⟩) len cap] ∧ Bx wr Bn #[.int .i64 6])
    (fun i _ => len - (intOf i).toNat)
  case atStart => exact ⟨0, 0, [], Lib.hid rfl, Nat.zero_le _, rfl, Lib.hid rfl, h0, hBs, hBn⟩
  case round =>
    obtain ⟨k, p, pre, HP, hk, rfl, HR, hJs, cs, cn⟩ := hrel
    have s0 := cs.cell 0 _ rfl
    have n0 := cn.cell 0 _ rfl
    by_cases hlt : p < len
    · have hkN : k < nch len := by have := HP.out; unfold nch; omega
      have hpI : (0 : Int) ≤ (p : Int) := by omega
      have hpL : (p : Int) ≤ (cap : Int) := by omega
      have hpc : ¬ cap = p := by omega
      gi_wp2
      gi_big_quiet_th (fail)
      have hJ2 := hAb pre wr (wr.drewN nq) none hJs ⟨rfl, rfl, rfl, Nat.le_refl _, fun _ _ _ => rfl⟩ (fun r e => by cases e)
      have cs2 := cs.below (below_drewN (Below.refl wr.heap.size wr) nq)
      have cn2 := cn.below (below_drewN (Below.refl wr.heap.size wr) nq)
      clear cs cn s0 n0 hJs
      generalize wr.drewN nq = W2 at *
      obtain ⟨fn, tmps, assign, body, hy, hR⟩ := hY pre ⟨k, hkN⟩ W2 hJ2 (by have := congrArg List.length HR.out; rw [List.length_map, List.length_range] at this; omega)
      simp only [chv, ← HP.out] at hy
      have hmin : min 6 ((len - p : Nat) : Int) = ((min 6 (len - p) : Nat) : Int) := by omega
      simp only [hmin]
      have hq1 : 1 ≤ min 6 (len - p) := by omega
      have hq2 : p + min 6 (len - p) ≤ len := by omega
      have HQ3 := Lib.hid (show min 6 (len - p) = 6 ∨ p + min 6 (len - p) = len by omega)
      clear hmin
      generalize min 6 (len - p) = q at *
      have s0 := cs2.cell 0 _ rfl
      have n0 := cn2.cell 0 _ rfl
      have hs1 : (p : Int) ≤ (p : Int) + (q : Int) := by omega
      have hs2 : (p : Int) + (q : Int) ≤ (cap : Int) := by omega
      have hs3 : ((p : Int) + (q : Int)).toNat = p + q := by omega
      have hs4 : p + q - p = q := by omega
      have hs5 : ¬ p + q = p := by omega
      gi_wp2
      refine hR.mono ?_
      rintro e W3 (⟨rfl, hJ3, hk3⟩ | ⟨rfl, hJx3⟩)
      · have cs3 : Bx W3 Bs #[.slice (some ⟨b, off, none⟩) len cap] := by obtain ⟨T, hT⟩ := cs2; exact ⟨T, hk3.1.trans hT⟩
        have cn3 : Bx W3 Bn #[.int .i64 6] := by obtain ⟨T, hT⟩ := cn2; exact ⟨T, hk3.2.trans hT⟩
        have n3 := cn3.cell 0 _ rfl
        gi_wp2
        go_roundw
        case rel => exact ⟨k + 1, p + 6, _, Lib.hid (by have := HP.out; omega), by omega, by go_num, Lib.hid (range_pre HR.out hkN), hJ3, cs3, cn3⟩
        case measure => simp [intOf]; omega
      · gi_wp2
        refine bodyPost_ret (results_none rfl _ _ _) rfl ?_
        exact ⟨⟨_, rfl⟩, .inr ⟨_, trivial, hJx3⟩⟩
    · have hkN : k = nch len := by have := HP.out; unfold nch at *; omega
      gi_wp2
      go_end0
      exact ⟨⟨_, rfl⟩, .inl ⟨_, HR.out.trans (congrArg List.range hkN), hJs⟩⟩
theorem chunk_stops (n : Nat) (hn : 1 ≤ n) (Bs Bn b off len cap : Nat) (hl : len ≤ 60) (hlc : len ≤ cap) (hcm : cap ≤ 9223372036854775807) (w : World) (hBs : Bx w Bs #[.slice (some ⟨b, off, none⟩) len cap]) (hBn : Bx w Bn #[.int .i64 6]) :
    SeqStopsK Fence.wide n Try.prog 147 #[.pointer (some ⟨Bs, 0, none⟩), .pointer (some ⟨Bn, 0, none⟩)] (fun x : Fin (nch len) => #[chv b off len x.1]) (KpT Bs Bn) (fun xs => xs.map Fin.val = List.range (nch len)) (fun _ => True) (nch len) w := fun l J Jx W hW hJ hJx hY h0 =>
  chunk1_in n hn l Bs Bn b off len cap hl hlc hcm J Jx hY (fun s A B row h1 h2 h3 => hJ s A B row h1 h2 (fun r e => (h3 r e).elim)) W (hBs.below hW) (hBn.below hW) h0

set_option maxRecDepth 100000 in
set_option maxHeartbeats 1000000 in
theorem chunk_any (ao : Option Addr) (len cap : Nat) (w : World) :
    Calls Try.prog 85 #[.slice ao len cap, .int .i64 6] w fun e w' => e = .returned (.func (.func 147) #[] #[.pointer (some ⟨w.heap.size, 0, none⟩), .pointer (some ⟨w.heap.size + 1, 0, none⟩)]) ∧ w' = (w.alloc (.cells #[.slice ao len cap] 33)).alloc (.cells #[.int .i64 6] 3) := by
  go_enter Try.func85, Try.ntmps85
  go_wp2
  go_ret
  exact ⟨rfl, rfl⟩
end Go.Proofs.Ytfbbdnicplbmdaa
/- Plain: what the program's range over pieces keeps in memory. -/
set_option linter.unusedVariables false
set_option linter.unusedSimpArgs false
namespace Go.Proofs.Ytfbbdnicplbmdaa
open Go.RowKit Sp Go.Sort
theorem own_turn {W W' : World} {row : Option Nat} {base e size n : Nat} {v : Value} {xs : List Value} (h : W.ownsRow base e size v n xs) (hg : W.grownBy W' row) (hr : ∀ r, row = some r → ∃ o : Obj, W.heap[r]? = some o ∧ o.isCells = false) : W'.ownsRow base e size v n xs := by
  refine own_grown h hg fun k hk he => ?_
  obtain ⟨o, h1, h2⟩ := hr k he
  rcases h.2 with ⟨hn, _⟩ | ⟨g, cap, cur, hv, _, hc, _⟩
  · rw [hn] at hk; simp [Value.ownBlock] at hk
  · rw [hv] at hk
    obtain rfl : g = k := Option.some.inj hk
    rw [hc] at h1
    cases h1
    cases h2
theorem Bx.turn {W W' : World} {row : Option Nat} {b : Nat} {c : Array Value} (h : Bx W b c) (hg : W.grownBy W' row) (hr : ∀ r, row = some r → ∃ o : Obj, W.heap[r]? = some o ∧ o.isCells = false) : Bx W' b c := by
  refine h.grown hg fun he => ?_
  obtain ⟨o, h1, h2⟩ := hr b he
  obtain ⟨T, hT⟩ := h
  rw [hT] at h1
  cases h1
  cases h2
theorem keeps_below {W W' : World} (h : Below W.heap.size W W') : KeepsOthers W W' := ⟨h.size, fun k o hk _ => (h.block k (Array.getElem?_eq_some_iff.1 hk).1).trans hk⟩
/-- A piece of a slice, its capacity cut to its length. -/
theorem SlT.sub3 {α : Type} {enc : α → List Value} {size : Nat} {w : World} {b off n cap : Nat} {l : List α} (h : SlT enc size w (.slice (some ⟨b, off, none⟩) n cap) l) {lo q : Nat} (h2 : lo + q ≤ l.length) :
    SlT enc size w (.slice (some ⟨b, off + lo * size, none⟩) q q) ((l.drop lo).take q) := by
  obtain ⟨ao, cp, hv, hc, hm, hh⟩ := h.shape
  have hl : ((l.drop lo).take q).length = q := by rw [List.length_take, List.length_drop]; omega
  obtain ⟨ao', cp', hv', hc', hm', hh'⟩ := SlT.sub h (lo := lo) (hi := lo + q) (by omega) h2
  simp only [Value.slice.injEq] at hv'
  obtain ⟨e1, e2, e3⟩ := hv'
  rw [show lo + q - lo = q from by omega] at hh'
  refine ⟨_, q, by rw [List.length_map, hl], by rw [List.length_map, hl]; omega, by omega, fun hp => ?_⟩
  obtain ⟨b', off', ha, hr⟩ := hh' hp
  rw [← e1] at ha
  exact ⟨b', off', ha, hr⟩
/-- The table's box, its parts, the keys, the result's box. -/
structure TOg (l : List EntR) (ps : List PartR) (B A Bn : Nat) (ao : Option Addr) (cp : Nat) (bo : Option Addr) (dp : Nat) (top : Int) (W : World) : Prop where
  keys : W.ownsRow (B + 1) 9 1 (.slice ao l.length cp) l.length (l.map keyC)
  parts : W.ownsRow (Bn + 1) 99 2 (.slice bo ps.length dp) ps.length (ps.map PartR.cells).flatten
  box : Bx W B #[.slice bo ps.length dp, .string ⟨#[]⟩, .int .i64 top]
  res : Bx W A #[.slice none 0 0, .string ⟨#[]⟩, .int .i64 0]
  kq : ∀ q, (Value.slice ao l.length cp).ownBlock = some q → q < Bn
theorem TOg.turn {l : List EntR} {ps : List PartR} {B A Bn : Nat} {ao : Option Addr} {cp : Nat} {bo : Option Addr} {dp : Nat} {top : Int} {W W' : World} {row : Option Nat} (h : TOg l ps B A Bn ao cp bo dp top W) (hg : W.grownBy W' row) (hr : ∀ r, row = some r → ∃ o : Obj, W.heap[r]? = some o ∧ o.isCells = false) : TOg l ps B A Bn ao cp bo dp top W' :=
  ⟨own_turn h.keys hg hr, own_turn h.parts hg hr, h.box.turn hg hr, h.res.turn hg hr, h.kq⟩
theorem TOg.below {l : List EntR} {ps : List PartR} {B A Bn : Nat} {ao : Option Addr} {cp : Nat} {bo : Option Addr} {dp : Nat} {top : Int} {W W' : World} (h : TOg l ps B A Bn ao cp bo dp top W) (hb : Below W.heap.size W W') : TOg l ps B A Bn ao cp bo dp top W' :=
  ⟨own_below h.keys hb, own_below h.parts hb, h.box.below hb, h.res.below hb, h.kq⟩
theorem TOg.app {l : List EntR} {ps : List PartR} {B A Bn : Nat} {ao : Option Addr} {cp : Nat} {bo : Option Addr} {dp : Nat} {top : Int} {W w' : World} {v : Value} (h : TOg l ps B A Bn ao cp bo dp top W) (hAB : A < B) (hBn : B < Bn) (x : PartR)
    (r : w'.ownsRow (Bn + 1) 99 2 v (ps.length + 1) ((ps.map PartR.cells).flatten ++ #[.string x.last, .string x.text].toList)) {o : Obj} (g : (W.alloc o).grownBy w' (Value.slice bo ps.length dp).ownBlock) :
    ∃ bo' dp', v = .slice bo' (ps.length + 1) dp' ∧ TOg l (ps ++ [x]) B A Bn ao cp bo' dp' top (w'.setCell ⟨B, 0, none⟩ v) ∧ w'.cell? ⟨B, 0, none⟩ = some (.slice bo ps.length dp) ∧ (∀ j, w'.frozen? ⟨B, j, none⟩ = false) ∧
      KeepsOthers (W.alloc o) (w'.setCell ⟨B, 0, none⟩ v) ∧ (∀ q, q < W.heap.size → q ≠ B → q ≤ Bn → (w'.setCell ⟨B, 0, none⟩ v).heap[q]? = W.heap[q]?) ∧ W.heap.size ≤ w'.heap.size := by
  have g' := grown_off g
  have hne : ∀ q, (Value.slice bo ps.length dp).ownBlock = some q → Bn < q := fun q hq => by have := (h.parts.lt q hq).1; omega
  have hb := h.box.grown g' (fun e => by have := hne _ e; omega)
  have hr := h.res.grown g' (fun e => by have := hne _ e; omega)
  have hk := own_grown h.keys g' (fun q h1 h2 => by have := hne _ h2; have := h.kq _ h1; omega)
  have hl : (ps ++ [x]).length = ps.length + 1 := by simp
  obtain ⟨bo', dp', rfl⟩ : ∃ bo' dp', v = .slice bo' (ps.length + 1) dp' := by
    rcases r.2 with ⟨_, hn⟩ | ⟨g, cap, cur, hv, _⟩
    · omega
    · exact ⟨_, _, hv⟩
  refine ⟨bo', dp', rfl, ⟨own_other hk _ (by show B < B + 1; omega) _, ?_, ?_, hr.far _ _ (by show A ≠ B; omega), h.kq⟩, hb.cell 0 _ rfl, hb.frozen, ?_, fun q h1 h2 h3 => ?_, g'.size⟩
  · rw [hl, List.map_append, List.flatten_append]
    exact own_other (by simpa [PartR.cells] using r) _ (by show B < Bn + 1; omega) _
  · rw [hl]; exact hb.set 0 _
  · refine (KeepsOthers.of_grownBy g fun j o' hj ho' => ?_).trans (KeepsOthers.setCell _ _ _)
    rcases h.parts.2 with ⟨hv, hn⟩ | ⟨g0, cap, cur, hv, _, hc, _⟩
    · rw [hv] at hj; simp [Value.ownBlock] at hj
    · rw [hv] at hj
      obtain rfl : g0 = j := Option.some.inj hj
      rw [Below.heap_alloc W o g0 (Array.getElem?_eq_some_iff.1 hc).1, hc] at ho'
      cases ho'; rfl
  · rw [Below.heap_setCell _ _ _ _ (by show q ≠ B; omega)]
    exact g'.block q h1 (fun e => by have := hne _ e.symm; omega)
theorem chk_min (l : List EntR) (j : Nat) : (l.drop (6 * j)).take (min 6 (l.length - 6 * j)) = chk l j := by
  unfold chk
  rcases Nat.le_total 6 (l.length - 6 * j) with h | h
  · rw [Nat.min_eq_left h]
  · rw [Nat.min_eq_right h, List.take_of_length_le (by rw [List.length_drop]; omega), List.take_of_length_le (by rw [List.length_drop]; omega)]
theorem chk_key {W : World} {b off : Nat} {l : List EntR} {j : Nat} (hj : 6 * j < l.length) (hc : ∀ i (hi : i < l.length), W.cell? ⟨b, off + i * 4, none⟩ = some (.string l[i].key)) :
    W.cell? ⟨b, off + 6 * j * 4 + (min 6 (l.length - 6 * j) - 1) * 4, none⟩ = some (.string (lastK (chk l j))) := by
  have hi : 6 * j + (min 6 (l.length - 6 * j) - 1) < l.length := by omega
  rw [(chk_last (l := l) (j := j) hi (by omega) (by omega) (by omega)).2, ← hc _ hi]
  congr 2
  omega
theorem noDefer_of {ops : Array Oper} (h : ops.toList.all (fun o => match o.op with | .defer _ => false | _ => true) = true) : ∀ (i : Nat) (o : Oper), ops[i]? = some o → ∀ c, o.op ≠ .defer c := by
  intro i o hi c hc
  rw [List.all_eq_true] at h
  have := h o (by rw [Array.mem_toList_iff]; exact Array.mem_of_getElem? hi)
  rw [hc] at this
  cases this
/-- The range over the pieces of a slice: the law at this iterator, whose body never leaves. -/
theorem range_chunks {a : Act} {w : World} {g : Operand} {assign body : Code} {Q : Exit → Act → World → Prop} {b off len cap Bs Bn p d : Nat} (hl : len ≤ 60) (hlc : len ≤ cap) (hcm : cap ≤ 9223372036854775807)
    (hg : a.eval g = .func (.func 147) #[] #[.pointer (some ⟨Bs, 0, none⟩), .pointer (some ⟨Bn, 0, none⟩)]) (hBs : Bx w Bs #[.slice (some ⟨b, off, none⟩) len cap]) (hBn : Bx w Bn #[.int .i64 6])
    (I : List (Fin (nch len)) → World → Prop) (hI : OwnFrom w.heap.size I) (h0 : I [] w)
    (hassign : ∀ (l : Nat) (x : Fin (nch len)) (W : World) (K : Act → World → Prop), K { tmps := (a.tmps.setIfInBounds p (chv b off len x.1)).setIfInBounds d (chv b off len x.1), defers := [] } W →
      assign.wpIn (Fence.wide.inRound l) 3 Try.prog (Exit.then K (fun _ _ _ => False)) { tmps := a.tmps.setIfInBounds p (chv b off len x.1), defers := [] } W)
    (hbody : ∀ (l : Nat) (pre : List (Fin (nch len))) (x : Fin (nch len)) (W : World), I pre W → pre.length < nch len → body.wpIn (Fence.wide.inRound l) 3 Try.prog (ownPostK (KpT Bs Bn) I (fun _ _ _ => False) (pre ++ [x]) W) { tmps := (a.tmps.setIfInBounds p (chv b off len x.1)).setIfInBounds d (chv b off len x.1), defers := [] } W)
    (hdone : ∀ (D : Nat) (xs : List (Fin (nch len))) (W : World), w.heap.size ≤ D → xs.map Fin.val = List.range (nch len) → I xs W → W.heap[D]? = some (.deferred (some [])) → Q .normal { a with defers := { target := .collected D, args := #[] } :: a.defers } W) :
    (Code.rangeFunc g #[p] assign body).wp Try.prog Q a w := by
  have lBs := hBs.lt
  have lBn := hBn.lt
  refine (wpIn_wide (n := 5)).1 ?_
  refine wpIn_rangeFunc_ownF (F := Fence.wide) (n := 5) rfl (by decide) hg trivial (enters_of Try.func147 (by kernel_rfl) rfl) (chunk_stops 4 (by decide) Bs Bn b off len cap hl hlc hcm w hBs hBn) (fun h k => KpT.trans h k) (fun W l o o' h1 h2 h3 h4 => ⟨World.putObj_heap_other (by omega), World.putObj_heap_other (by omega)⟩) (Below.refl _ _) (fun _ => rfl)
    I (fun _ _ _ => False) hI (fun _ _ _ _ _ hs _ _ => hs) h0 (fun x => { tmps := (a.tmps.setIfInBounds p (chv b off len x.1)).setIfInBounds d (chv b off len x.1), defers := [] }) ?_ (fun l pre x W h hp => hbody l pre x W h hp) hdone (fun _ _ _ _ _ _ h _ => h.elim)
  intro l x W K hK
  have e : (#[p].zip #[chv b off len x.1]) = #[(p, chv b off len x.1)] := by simp
  rw [e]
  exact hassign l x W K hK
end Go.Proofs.Ytfbbdnicplbmdaa
/- Walks: TableOf of the reference. -/
set_option linter.unusedVariables false
set_option linter.unusedSimpArgs false
namespace Go.Proofs.Ytfbbdnicplbmdaa
open Go.RowKit Sp Go.Sort
theorem hal4 (W : World) (o : Obj) : RowKit.Below W.heap.size W (W.alloc o) := (Below.refl _ _).alloc (Nat.le_refl _) _

set_option maxRecDepth 100000 in
set_option maxHeartbeats 3200000 in
theorem specTableOf (ad : Option Addr) (cap : Nat) (l : List EntR) (w : World) (h : SlT EntR.cells 4 w (.slice ad l.length cap) l) (hl : (l.length : Int) ≤ 1048576) :
    Calls Try.prog 50 #[.slice ad l.length cap] w fun e w' => ∃ v', e = .returned (.tuple #[v', .bool (tabB l)]) ∧ RowTable w.heap.size w'.heap.size w' v' (tabOf l) ∧ Below w.heap.size w w' := by
  have hb1 := hal4 w (.cells #[.slice none 0 0, .string ⟨#[]⟩, .int .i64 0] 26)
  have R0 := Bx.new w #[.slice none 0 0, .string ⟨#[]⟩, .int .i64 0] 26
  by_cases h0 : l.length = 0
  · have HB := Lib.hid (show tabB l = false from by simp [tabB, h0])
    have HT := Lib.hid (tabOf_not HB.out)
    have e0 : ((l.length : Int) == 0) = true := by simp [h0]
    go_enter Try.func50, Try.ntmps50
    go_wp2
    refine bodyPost_ret (v := .tuple #[.agg #[.slice none 0 0, .string ByteArray.empty, .int .i64 0], .bool false]) (by simp [results, Try.results50, go_sem] <;> rfl) rfl ?_
    rw [HB.out, HT.out]
    refine ⟨_, rfl, ⟨_, rfl, Row.nil _ _ _⟩, ?_⟩
    repeat (refine Below.setCell ?_ (by simp <;> omega) _)
    exact hb1
  have e0 : ((l.length : Int) == 0) = false := by rw [beq_eq_false_iff_ne]; omega
  rcases hm : memB l with _ | _
  · have HB := Lib.hid (show tabB l = false from by simp [tabB, hm])
    have HT := Lib.hid (tabOf_not HB.out)
    go_enter Try.func50, Try.ntmps50
    go_wp2_with (go_at_call 72; refine (specMemOk _ l _ (h.below hb1) hl).mono ?_; rintro e w1 ⟨rfl, b1⟩; rw [hm]; have R1 := R0.below b1; have c0 := R1.cell 0 _ rfl; have c1 := R1.cell 1 _ rfl; have c2 := R1.cell 2 _ rfl; have cf := R1.frozen; have x1 := hb1.trans (b1.mono hb1.size))
    refine bodyPost_ret (v := .tuple #[.agg #[.slice none 0 0, .string ByteArray.empty, .int .i64 0], .bool false]) (by simp [results, Try.results50, go_sem, c0, c1, c2] <;> rfl) rfl ?_
    rw [HB.out, HT.out]
    refine ⟨_, rfl, ⟨_, rfl, Row.nil _ _ _⟩, ?_⟩
    repeat (refine Below.setCell ?_ (by simp <;> omega) _)
    exact x1
  have HB := Lib.hid (show tabB l = true from by rw [tabB_iff]; exact ⟨by omega, hm⟩)
  have HT := Lib.hid (tabOf_yes HB.out)
  have hml := memB_len hm
  have HSEQ := Lib.hid (fun k hk => mem_seq hm k hk)
  have HTOP := Lib.hid (fun k hk => topTo_bd hm k hk)
  have HES := Lib.hid (show entsB l = true from by have := hm; simp [memB] at this; exact this.2)
  have hpos : 0 < l.length := by omega
  obtain ⟨ao', cp', hv, hlc, hcm, hsh⟩ := h.shape
  obtain ⟨b, off, hb, hbs, hc⟩ := hsh hpos
  subst hb
  simp only [Value.slice.injEq] at hv
  obtain ⟨rfl, _, rfl⟩ := hv
  go_enter Try.func50, Try.ntmps50
  go_upto_region 3 with (go_at_call 72; refine (specMemOk _ l _ (h.below hb1) hl).mono ?_; rintro e w1 ⟨rfl, b1⟩; rw [hm]; have R1 := R0.below b1; have x1 := hb1.trans (b1.mono hb1.size); have z1 : w.heap.size < w1.heap.size := Nat.lt_of_lt_of_le (by simp) b1.size)
  clear hm
  have B2 := Bx.new w1 #[.slice none 0 0, .string ⟨#[]⟩, .int .i64 0] 26
  have R2 := R1.below (hal4 w1 (.cells #[.slice none 0 0, .string ⟨#[]⟩, .int .i64 0] 26))
  have x2 := x1.alloc x1.size (.cells #[.slice none 0 0, .string ⟨#[]⟩, .int .i64 0] 26)
  go_upto_region 4 with fail
  generalize hW : w1.alloc (.cells #[.slice none 0 0, .string ⟨#[]⟩, .int .i64 0] 26) = w2 at *
  have z2 : w2.heap.size = w1.heap.size + 1 := by rw [← hW]; simp
  clear hW R0 R1 b1 hb1
  generalize hBe : w1.heap.size = B at *
  have T3 : TOf l B w.heap.size 0 0 (some ⟨B + 1, 0, none⟩) 0 none 0 0 (w2.alloc (.cells #[] 9)) :=
    ⟨own0 z2 (Nat.le_refl _), World.ownsRow_nil _ _ _ _, fun q h1 h2 => by simp [Value.ownBlock] at h2, B2.below (hal4 _ _), R2.below (hal4 _ _)⟩
  have x3 := x2.alloc x2.size (.cells #[] 9)
  have HN0 := Lib.hid (npt_zero hpos)
  clear B2 R2 x2
  clear hBe hsh
  go_wp2
  go_loopw [5, 6] (fun ks i wr => ∃ (k : Nat) (ao : Option Addr) (cp : Nat) (bo : Option Addr) (dp : Nat), k ≤ l.length ∧ i = .int .i64 k ∧ ks = .slice ao k cp ∧ RowKit.Hid (TOf l B w.heap.size k (npt l k) ao cp bo dp (topTo l k) wr) ∧ Below w.heap.size w wr) (fun _ i _ => l.length - (intOf i).toNat)
  case atStart => exact ⟨0, _, _, none, 0, by omega, rfl, rfl, by rw [HN0.out]; exact Lib.hid T3, x3⟩
  case round =>
    clear T3 x3
    obtain ⟨k, ao, cp, bo, dp, hk, rfl, rfl, HTO, hbl⟩ := hrel
    by_cases hlt : k < l.length
    · have c0 : wr.cell? ⟨b, off + k * 4, none⟩ = some (.string l[k].key) := (hbl.cell (p := ⟨b, off + k * 4, none⟩) hbs).trans (hc k hlt 0 _ rfl)
      have hAB : w.heap.size < B := by omega
      have hsl := HTO.out.keys.lt
      go_upto_region 9 with (at_builtin; refine app_new_at rfl rfl Try.underlying117 info_Str rfl (by decide) HTO.out.keys rfl 1 rfl rfl (by simp [Value.oneCell']) (by omega) hbl (by omega) (by have := HTO.out.box.lt; omega) ?_; intro v3 w3 r3 x3 g3 e3; obtain ⟨ao', cp', rfl, HT3⟩ := HTO.out.key hAB hlt r3 g3 (e3.imp id fun h => ⟨_, h, by omega⟩); clear r3 g3 e3)
      have hnext := HTOP.out k (by omega)
      have hsq := HSEQ.out k hlt
      have HST := Lib.hid (topTo_step hlt)
      clear HTO hbl c0
      have c1 : w3.cell? ⟨b, off + k * 4 + 1, none⟩ = some (.int .i64 l[k].seq) := (x3.cell (p := ⟨b, off + k * 4 + 1, none⟩) hbs).trans (hc k hlt 1 _ rfl)
      have d2 := HT3.box.cell 2 _ rfl
      generalize l[k].seq = sq at *
      generalize topTo l k = tp at *
      go_quiet (fail)
      have HT4 := HT3.below (below_drewN (Below.refl w3.heap.size w3) nq)
      have x4 := below_drewN x3 nq
      have c4 : (w3.drewN nq).cell? ⟨b, off + k * 4 + 1, none⟩ = some (.int .i64 sq) := by simpa [go_sem] using c1
      clear c1 d2 HT3 x3
      generalize w3.drewN nq = w4 at *
      go_upto_if 40 with (fail)
      go_cut [] (fun wx => RowKit.Hid (TOf l B w.heap.size (k + 1) (npt l k) ao' cp' bo dp (topTo l (k + 1)) wx) ∧ Below w.heap.size w wx)
      case first =>
        by_cases hgt : tp < sq
        · have G1 : decide (tp < sq) = true := decide_eq_true hgt
          have HE := Lib.hid (HST.out.trans (if_pos hgt))
          have d4 := HT4.box.cell 2 _ rfl
          have f4 := HT4.box.frozen
          go_wp2
          go_meet
          exact ⟨by rw [HE.out]; exact Lib.hid (HT4.setTop hAB sq), below_set x4 _ _ (by show w.heap.size ≤ B; omega)⟩
        · have G1 : decide (tp < sq) = false := decide_eq_false hgt
          have HE := Lib.hid (HST.out.trans (if_neg hgt))
          go_wp2
          go_meet
          exact ⟨by rw [HE.out]; exact Lib.hid HT4, x4⟩
      case rest =>
        obtain ⟨HT5, x5⟩ := hcut
        clear HT4 HST c4 x4 hnext hsq
        by_cases hh : k % 6 = 5 ∨ k = l.length - 1
        · obtain ⟨hn1, hn2⟩ := npt_hit hlt hh
          obtain ⟨hc1, hc2⟩ := chk_last (l := l) (j := k / 6) (i := k) hlt (by omega) (by omega) (by omega)
          have HP := Lib.hid (show prt l (npt l k) = ⟨l[k].key, str (showBlkL ((l.drop (k / 6 * 6)).take (k + 1 - k / 6 * 6)))⟩ from by rw [hn1]; unfold prt; rw [hc2, hc1, show 6 * (k / 6) = k / 6 * 6 from by omega])
          have HNP := Lib.hid (show npt l (k + 1) = npt l k + 1 from by omega)
          have hm10 : npt l k ≤ 10 := by omega
          have HH := Lib.hid hh
          clear hc1 hc2 hn1 hn2 hh
          go_upto_region 11 with (fail)
          go_cut [56] (fun s wx => s = .bool true ∧ wx = wc)
          case first =>
            have hh := HH.out
            by_cases h5 : k % 6 = 5
            · have g5 : (k : Int) % 6 = 5 := by omega
              clear hh
              go_wp2
              go_meet
              exact ⟨rfl, rfl⟩
            · have g5 : ¬ (k : Int) % 6 = 5 := by omega
              have gl : ((k : Int) == (l.length : Int) - 1) = true := by rw [beq_iff_eq]; omega
              clear hh
              go_wp2
              go_meet
              exact ⟨rfl, rfl⟩
          case rest =>
            obtain ⟨rfl, rfl⟩ := hcut
            have hkk : k < l.length := hlt
            go_upto_region 13 with (fail)
            have hfr : ((k : Int) / 6 * 6) = ((k / 6 * 6 : Nat) : Int) := by omega
            simp only [hfr]
            have hf0 : k / 6 * 6 ≤ k := by omega
            clear hfr HH
            generalize k / 6 * 6 = fr at *
            have hsub := SlT.sub h (lo := fr) (hi := k + 1) (by omega) (by omega)
            have hW1 : IntKind.i64.wrap ((k : Int) + 1) = (k : Int) + 1 := by rw [IntKind.wrap_i64]; omega
            have hW2 : (0 : Int) ≤ (k : Int) + 1 := by omega
            have hW3 : ((k : Int) + 1).toNat = k + 1 := by omega
            have hW4 : (fr : Int) ≤ (k : Int) + 1 := by omega
            have hW5 : (k : Int) + 1 ≤ (cap : Int) := by omega
            have hW6 : (k : Int) < (l.length : Int) := by omega
            have hW7 : ¬ cap = fr := by omega
            have T6 := HT5.out.below (Below.refl wc.heap.size wc).drew
            have x6 := x5.drew
            have hcw : ∀ W : World, RowKit.Below w.heap.size w W → W.cell? ⟨b, off + k * 4, none⟩ = some (.string l[k].key) := fun W hW => (hW.cell (p := ⟨b, off + k * 4, none⟩) hbs).trans (hc k hlt 0 _ rfl)
            have HCW := Lib.hid hcw
            have y0 := hcw _ x6
            have y1 := T6.box.cell 0 _ rfl
            have hlen : (((l.drop fr).take (k + 1 - fr)).length : Int) ≤ 1048576 := by rw [List.length_take, List.length_drop]; omega
            have z6 := T6.box.lt
            clear hcw
            generalize l[k].key = ky at *
            generalize (l.drop fr).take (k + 1 - fr) = sl at *
            generalize npt l k = m at *
            go_region_law (first
              | (go_simp; go_at_call 123; go_loud (refine (specShowBlock _ sl _ (hsub.below x6) hlen).mono ?_; rintro e w7 ⟨rfl, b7⟩; have T7 := T6.below b7; have x7 := x6.trans (b7.mono x6.size); have y2 := HCW.out _ x7; have y3 := T7.box.cell 0 _ rfl; have y4 := T7.box.frozen; have z7 := T7.box.lt))
              | (go_loud (refine step_app_at (o := ⟨some 75, _, _, _, _, _⟩) (v := .slice bo m dp) rfl rfl Try.underlying24 info_Part rfl (by decide) rfl (T7.parts.alloc _) 1 rfl (heap_alloc_new _ _) rfl (by simp [Value.oneCell']) (by omega) (x7.alloc x7.size _) (by omega) (by simp; omega) ?_; intro v' w8 r8 x8 g8 e8; obtain ⟨bo', dp', rfl, T8, t1, tf⟩ := T7.app hAB HP.out r8 g8 e8)))
            all_goals
              clear T7 T6 y0 y1 y2 y3 y4 r8 t1 tf g8 e8 hW1 hW2 hW3 hW4 hW5 hW6
              have x9 := below_set x8 ⟨B, 0, none⟩ (.slice bo' (m + 1) dp') (by show w.heap.size ≤ B; omega)
              generalize World.setCell w8 ⟨B, 0, none⟩ (.slice bo' (m + 1) dp') = W9 at *
              rw [← HNP.out] at T8
              go_wp2
              go_roundw
              case rel => exact ⟨k + 1, _, _, _, _, by omega, by go_num, rfl, Lib.hid T8, x9⟩
              case measure => simp [intOf]; omega
        · have HNM := Lib.hid (npt_miss hlt (by omega) (by omega))
          have g5 : ¬ (k : Int) % 6 = 5 := by omega
          have gl : ((k : Int) == (l.length : Int) - 1) = false := by rw [beq_eq_false_iff_ne]; omega
          go_wp2
          go_roundw
          case rel => exact ⟨k + 1, _, _, _, _, by omega, by go_num, rfl, by rw [HNM.out]; exact HT5, x5⟩
          case measure => simp [intOf]; omega
    · obtain rfl : k = l.length := by omega
      have HNE := Lib.hid (npt_end l)
      have hAB : w.heap.size < B := by omega
      have hks : SlT strCells 1 wr (.slice ao l.length cp) (l.map (·.key)) := by
        have := HTO.out.keys
        rw [List.take_length, keyC_flat] at this
        exact SlT.of_own this (fun _ => rfl) (by decide)
      have hok : ∀ x ∈ l.map (·.key), (x.size : Int) ≤ 1048576 := by
        intro x hx
        obtain ⟨e, he, rfl⟩ := List.mem_map.1 hx
        obtain ⟨i, hi, rfl⟩ := List.getElem_of_mem he
        have := (entsB_sizes HES.out i hi).1
        omega
      have hlk : ((l.map (·.key)).length : Int) ≤ 1048576 := by rw [List.length_map]; omega
      obtain ⟨ks, hkse⟩ : ∃ ks, ks = l.map (·.key) := ⟨_, rfl⟩
      have HKS := Lib.hid hkse.symm
      rw [← hkse] at hks hok hlk
      clear hkse
      go_upto_region 15 with (go_at_call 124; go_loud (refine (specBloomOf _ ks 16 _ hks hok hlk).mono ?_; rintro e w10 ⟨rfl, b10⟩; have T10 := HTO.out.below b10; have x10 := hbl.trans (b10.mono hbl.size); have d1 := T10.box.cell 1 _ rfl; have df := T10.box.frozen))
      have q2 := T10.box.set 1 (.string (str (bloomL ks 16)))
      have r2 := T10.res.far ⟨B, 1, none⟩ (.string (str (bloomL ks 16))) (by show w.heap.size ≠ B; omega)
      have p2 := own_other T10.parts ⟨B, 1, none⟩ (by show B < B + 1; omega) (.string (str (bloomL ks 16)))
      have x11 := below_set x10 ⟨B, 1, none⟩ (.string (str (bloomL ks 16))) (by show w.heap.size ≤ B; omega)
      clear T10 d1 df x10
      generalize World.setCell w10 ⟨B, 1, none⟩ (.string (str (bloomL ks 16))) = W11 at *
      have u0 := q2.cell 0 _ rfl
      have u1 := q2.cell 1 _ rfl
      have u2 := q2.cell 2 _ rfl
      have v0 := r2.cell 0 _ rfl
      have v1 := r2.cell 1 _ rfl
      have v2 := r2.cell 2 _ rfl
      have vf := r2.frozen
      go_wp2
      refine bodyPost_ret (v := .tuple #[.agg #[.slice bo (npt l l.length) dp, .string (str (bloomL ks 16)), .int .i64 (topTo l l.length)], .bool true]) (by simp [results, Try.results50, go_sem, v0, v1, v2]) rfl ?_
      rw [HB.out, HT.out]
      refine ⟨_, rfl, ⟨_, by rw [← HKS.out]; rfl, ?_⟩, ?_⟩
      · refine Row.up (lo' := B + 1) (n := npt l l.length) ?_ ?_ (by omega)
        · repeat (refine own_other ?_ _ (by simp <;> omega) _)
          rw [HNE.out] at p2 ⊢
          exact p2
        · rw [HNE.out]; exact (prts_len _ _).symm
      · repeat (refine Below.setCell ?_ (by simp <;> omega) _)
        exact x11
theorem specTableOf_is (ad : Option Addr) (cap : Nat) (l : List EntR) (w : World) (h : SlT EntR.cells 4 w (.slice ad l.length cap) l) (hl : (l.length : Int) ≤ 1048576) :
    Calls Try.prog 50 #[.slice ad l.length cap] w fun e w' => ∃ v', e = .returned (.tuple #[v', .bool (tabB l)]) ∧ IsTable w' v' (tabOf l) ∧ Below w.heap.size w w' :=
  (specTableOf ad cap l w h hl).mono fun e w' ⟨v', he, hr, hb⟩ => ⟨v', he, hr.is, hb⟩
end Go.Proofs.Ytfbbdnicplbmdaa
/- Walks: TableOf of the program. -/
set_option linter.unusedVariables false
set_option linter.unusedSimpArgs false
namespace Go.Proofs.Ytfbbdnicplbmdaa
open Go.RowKit Sp Go.Sort Go.Shelf
attribute [local go_sem] Oper.semAt_some

set_option maxRecDepth 100000 in
set_option maxHeartbeats 3200000 in
theorem implTableOf_no (ad : Option Addr) (cap : Nat) (l : List EntR) (w : World) (h : SlT EntR.cells 4 w (.slice ad l.length cap) l) (hl : (l.length : Int) ≤ 1048576) (hno : tabB l = false) :
    Calls Try.prog 19 #[.slice ad l.length cap] w fun e w' => ∃ v', e = .returned (.tuple #[v', .bool (tabB l)]) ∧ RowTable w.heap.size w'.heap.size w' v' (tabOf l) ∧ Below w.heap.size w w' := by
  have hb1 := hal4 w (.cells #[.slice none 0 0, .string ⟨#[]⟩, .int .i64 0] 26)
  have R0 := Bx.new w #[.slice none 0 0, .string ⟨#[]⟩, .int .i64 0] 26
  have HB := Lib.hid hno
  have HT := Lib.hid (tabOf_not HB.out)
  by_cases h0 : l.length = 0
  · have e0 : ((l.length : Int) == 0) = true := by simp [h0]
    clear hno
    go_enter Try.func19, Try.ntmps19
    go_wp2
    refine bodyPost_ret (v := .tuple #[.agg #[.slice none 0 0, .string ByteArray.empty, .int .i64 0], .bool false]) (by simp [results, Try.results19, go_sem] <;> rfl) rfl ?_
    rw [HB.out, HT.out]
    refine ⟨_, rfl, ⟨_, rfl, Row.nil _ _ _⟩, ?_⟩
    repeat (refine Below.setCell ?_ (by simp <;> omega) _)
    exact hb1
  have e0 : ((l.length : Int) == 0) = false := by rw [beq_eq_false_iff_ne]; omega
  have hm : memB l = false := by
    rcases hm : memB l with _ | _
    · rfl
    · have := (tabB_iff (l := l)).2 ⟨by omega, hm⟩; rw [hno] at this; cases this
  clear hno
  go_enter Try.func19, Try.ntmps19
  go_wp2_with (go_at_call 84; refine (implMemOk _ l _ (h.below hb1) hl).mono ?_; rintro e w1 ⟨rfl, b1⟩; rw [hm]; have R1 := R0.below b1; have c0 := R1.cell 0 _ rfl; have c1 := R1.cell 1 _ rfl; have c2 := R1.cell 2 _ rfl; have cf := R1.frozen; have x1 := hb1.trans (b1.mono hb1.size))
  refine bodyPost_ret (v := .tuple #[.agg #[.slice none 0 0, .string ByteArray.empty, .int .i64 0], .bool false]) (by simp [results, Try.results19, go_sem, c0, c1, c2] <;> rfl) rfl ?_
  rw [HB.out, HT.out]
  refine ⟨_, rfl, ⟨_, rfl, Row.nil _ _ _⟩, ?_⟩
  repeat (refine Below.setCell ?_ (by simp <;> omega) _)
  exact x1

set_option maxRecDepth 100000 in
set_option maxHeartbeats 6400000 in
theorem implTableOf_yes (ad : Option Addr) (cap : Nat) (l : List EntR) (w : World) (h : SlT EntR.cells 4 w (.slice ad l.length cap) l) (hl : (l.length : Int) ≤ 1048576) (hyes : tabB l = true) :
    Calls Try.prog 19 #[.slice ad l.length cap] w fun e w' => ∃ v', e = .returned (.tuple #[v', .bool (tabB l)]) ∧ RowTable w.heap.size w'.heap.size w' v' (tabOf l) ∧ Below w.heap.size w w' := by
  have hb1 := hal4 w (.cells #[.slice none 0 0, .string ⟨#[]⟩, .int .i64 0] 26)
  have R0 := Bx.new w #[.slice none 0 0, .string ⟨#[]⟩, .int .i64 0] 26
  have HB := Lib.hid hyes
  have HT := Lib.hid (tabOf_yes HB.out)
  obtain ⟨hpos, hm⟩ := tabB_iff.1 hyes
  clear hyes
  have e0 : ((l.length : Int) == 0) = false := by rw [beq_eq_false_iff_ne]; omega
  have hml := memB_len hm
  have HSEQ := Lib.hid (fun k hk => mem_seq hm k hk)
  have HTOP := Lib.hid (fun k hk => topTo_bd hm k hk)
  have HES := Lib.hid (show entsB l = true from by have := hm; simp [memB] at this; exact this.2)
  obtain ⟨ao', cp', hv, hlc, hcm, hsh⟩ := h.shape
  obtain ⟨b, off, hb, hbs, hc⟩ := hsh hpos
  subst hb
  simp only [Value.slice.injEq] at hv
  obtain ⟨rfl, _, rfl⟩ := hv
  clear hsh
  refine callsIn_wide.1 (callsIn_of_wp_marks (F := Fence.wide) (n := 5) Try.func19 rfl trivial (wpIn_wide.2 ?_) rfl)
  simp only [Try.ntmps19, List.size_toArray, List.length_cons, List.length_nil, Nat.reduceAdd, Nat.reduceSub, Array.replicate_succ, Array.replicate_zero, List.push_toArray, List.append_toArray, List.nil_append, List.cons_append]
  generalize hQ : bodyPostM Fence.wide 5 Try.prog Try.f19 _ = QQ
  have HQ := Lib.hid hQ
  clear hQ
  go_upto_region 3 with (go_at_call 84; refine (implMemOk _ l _ (h.below hb1) hl).mono ?_; rintro e w1 ⟨rfl, b1⟩; rw [hm]; have R1 := R0.below b1; have x1 := hb1.trans (b1.mono hb1.size); have z1 : w.heap.size < w1.heap.size := Nat.lt_of_lt_of_le (by simp) b1.size)
  clear hm
  have B2 := Bx.new w1 #[.slice none 0 0, .string ⟨#[]⟩, .int .i64 0] 26
  have R2 := R1.below (hal4 w1 (.cells #[.slice none 0 0, .string ⟨#[]⟩, .int .i64 0] 26))
  have x2 := x1.alloc x1.size (.cells #[.slice none 0 0, .string ⟨#[]⟩, .int .i64 0] 26)
  go_upto_region 4 with fail
  generalize hW : w1.alloc (.cells #[.slice none 0 0, .string ⟨#[]⟩, .int .i64 0] 26) = w2 at *
  have z2 : w2.heap.size = w1.heap.size + 1 := by rw [← hW]; simp
  clear hW R0 R1 b1 hb1
  generalize hBe : w1.heap.size = B at *
  have T3 : TOf l B w.heap.size 0 0 none 0 none 0 0 w2 :=
    ⟨World.ownsRow_nil _ _ _ _, World.ownsRow_nil _ _ _ _, fun q h1 h2 => by simp [Value.ownBlock] at h2, B2, R2⟩
  clear B2 R2 hBe
  go_wp2
  go_loopw [5, 20] (fun ks i wr => ∃ (k : Nat) (ao : Option Addr) (cp : Nat), k ≤ l.length ∧ i = .int .i64 k ∧ ks = .slice ao k cp ∧ RowKit.Hid (TOf l B w.heap.size k 0 ao cp none 0 (topTo l k) wr) ∧ Below w.heap.size w wr) (fun _ i _ => l.length - (intOf i).toNat)
  case atStart => exact ⟨0, _, _, by omega, rfl, rfl, Lib.hid T3, x2⟩
  case round =>
    clear T3 x2
    obtain ⟨k, ao, cp, hk, rfl, rfl, HTO, hbl⟩ := hrel
    have hAB : w.heap.size < B := by omega
    by_cases hlt : k < l.length
    · have hltI : (k : Int) < (l.length : Int) := by omega
      have c0 : wr.cell? ⟨b, off + k * 4, none⟩ = some (.string l[k].key) := (hbl.cell (p := ⟨b, off + k * 4, none⟩) hbs).trans (hc k hlt 0 _ rfl)
      have c1 : wr.cell? ⟨b, off + k * 4 + 1, none⟩ = some (.int .i64 l[k].seq) := (hbl.cell (p := ⟨b, off + k * 4 + 1, none⟩) hbs).trans (hc k hlt 1 _ rfl)
      have c2 : wr.cell? ⟨b, off + k * 4 + 2, none⟩ = some (.bool l[k].del) := (hbl.cell (p := ⟨b, off + k * 4 + 2, none⟩) hbs).trans (hc k hlt 2 _ rfl)
      have c3 : wr.cell? ⟨b, off + k * 4 + 3, none⟩ = some (.string l[k].val) := (hbl.cell (p := ⟨b, off + k * 4 + 3, none⟩) hbs).trans (hc k hlt 3 _ rfl)
      have hnext := HTOP.out k (by omega)
      have hsq := HSEQ.out k hlt
      have HST := Lib.hid (show topTo l (k + 1) = max (topTo l k) l[k].seq from by rw [topTo_step hlt]; split <;> omega)
      go_upto_region 8 with fail
      have BE := Bx.new wr #[.string l[k].key, .int .i64 l[k].seq, .bool l[k].del, .string l[k].val] 30
      have hx := hal4 wr (.cells #[.string l[k].key, .int .i64 l[k].seq, .bool l[k].del, .string l[k].val] 30)
      have TE := HTO.out.below hx
      have xE := hbl.trans (hx.mono hbl.size)
      have hkl := HTO.out.keys.lt
      clear c0 c1 c2 c3 HTO hbl hx
      generalize wr.alloc (.cells #[.string l[k].key, .int .i64 l[k].seq, .bool l[k].del, .string l[k].val] 30) = wE at *
      have e0' := BE.cell 0 _ rfl
      go_upto_region 9 with (at_builtin; refine app_new_at rfl rfl Try.underlying117 info_Str rfl (by decide) TE.keys rfl 1 rfl rfl (by simp [Value.oneCell']) (by omega) xE (by omega) (by have := TE.box.lt; omega) ?_; intro v3 w3 r3 x3 g3 e3; have BE3 := BE.grown g3 (fun e => by have := hkl _ e; omega); obtain ⟨ao', cp', rfl, HT3⟩ := TE.key hAB hlt r3 g3 (e3.imp id fun h => ⟨_, h, by omega⟩); clear r3 g3 e3)
      have d1 := BE3.cell 1 _ rfl
      have d2 := HT3.box.cell 2 _ rfl
      have df := HT3.box.frozen
      clear TE xE BE e0'
      generalize l[k].seq = sq at *
      generalize topTo l k = tp at *
      go_wp2
      go_roundw
      case rel => exact ⟨k + 1, _, _, by omega, by go_num, rfl, by rw [HST.out]; exact Lib.hid (HT3.setTop hAB _), below_set x3 _ _ (by show w.heap.size ≤ B; omega)⟩
      case measure => simp [intOf]; omega
    · obtain rfl : k = l.length := by omega
      go_wp2_with (go_at_call 85; refine (chunk_any _ _ _ _).mono ?_; rintro e w' ⟨rfl, rfl⟩)
      have lr := HTO.out.box.lt
      have hBs := (Bx.new wr #[.slice (some ⟨b, off, none⟩) l.length cap] 33).below (hal4 _ (.cells #[.int .i64 6] 3))
      have hBn := Bx.new (wr.alloc (.cells #[.slice (some ⟨b, off, none⟩) l.length cap] 33)) #[.int .i64 6] 3
      rw [World.size_alloc] at hBn
      have hab := (hal4 wr (.cells #[.slice (some ⟨b, off, none⟩) l.length cap] 33)).alloc (by simp) (.cells #[.int .i64 6] 3)
      have x0 := hbl.trans (hab.mono hbl.size)
      have z0 : ((wr.alloc (.cells #[.slice (some ⟨b, off, none⟩) l.length cap] 33)).alloc (.cells #[.int .i64 6] 3)).heap.size = wr.heap.size + 2 := by simp
      have TG : TOg l [] B w.heap.size (wr.heap.size + 1) ao cp none 0 (topTo l l.length) ((wr.alloc (.cells #[.slice (some ⟨b, off, none⟩) l.length cap] 33)).alloc (.cells #[.int .i64 6] 3)) :=
        ⟨by have := own_below HTO.out.keys hab; rwa [List.take_length] at this, World.ownsRow_nil _ _ _ _, HTO.out.box.below hab, HTO.out.res.below hab, fun q hq => by have := (HTO.out.keys.lt q hq).2; omega⟩
      clear HTO hab hbl
      generalize ((wr.alloc (.cells #[.slice (some ⟨b, off, none⟩) l.length cap] 33)).alloc (.cells #[.int .i64 6] 3)) = W0 at *
      generalize wr.heap.size = Bs at *
      refine range_chunks (cap := cap) (len := l.length) (b := b) (off := off) (Bs := Bs) (Bn := Bs + 1) (d := 8) hml hlc hcm rfl hBs hBn
        (fun pre W => (∃ bo dp, TOg l (pre.map fun x => prt l x.1) B w.heap.size (Bs + 1) ao cp bo dp (topTo l l.length) W) ∧ (Below w.heap.size w W ∧ Bs + 2 ≤ W.heap.size))
        (OwnFrom.and (fun s W W' row hs hg hr => by obtain ⟨bo, dp, hT⟩ := hs; exact ⟨bo, dp, hT.turn hg (fun r e => (hr r e).2)⟩) (OwnFrom.and (ownFrom_below (Nat.le_refl _) x0.size) (fun s W W' row hs hg hr => Nat.le_trans hs hg.size)))
        ⟨⟨none, 0, TG⟩, x0, by omega⟩ ?assign ?body ?done
      case assign =>
        intro l x W K hK
        gi_wp2
        exact hK
      case body =>
        rintro r pre x W ⟨⟨bo, dp, T⟩, hB, hWs⟩ hpre
        have hx6 := nch_lt x.2
        have HX := Lib.hid (show (pre ++ [x]).map (fun x : Fin (nch l.length) => prt l x.1) = (pre.map fun x => prt l x.1) ++ [prt l x.1] from by rw [List.map_append]; rfl)
        obtain ⟨c1, c2, c3⟩ := chk_len hx6
        have hq : (chk l x.1).length = min 6 (l.length - 6 * x.1) := by unfold chk; rw [List.length_take, List.length_drop]
        have hsl := SlT.sub3 (h.below hB) (lo := 6 * x.1) (q := min 6 (l.length - 6 * x.1)) (by omega)
        rw [chk_min] at hsl
        have hky := chk_key (W := W) (b := b) (off := off) hx6 (fun i hi => (hB.cell (p := ⟨b, off + i * 4, none⟩) hbs).trans (hc i hi 0 _ rfl))
        have hll : ((chk l x.1).length : Int) ≤ 1048576 := by omega
        have hprt : prt l x.1 = ⟨lastK (chk l x.1), str (showBlkL (chk l x.1))⟩ := rfl
        have hq1 : 1 ≤ min 6 (l.length - 6 * x.1) := by omega
        have hq6 : min 6 (l.length - 6 * x.1) ≤ 6 := by omega
        rw [hprt] at HX
        simp only [chv]
        clear hprt hq c1 c2 c3 hx6
        generalize min 6 (l.length - 6 * x.1) = q at *
        generalize off + 6 * x.1 * 4 = o6 at *
        generalize chk l x.1 = L at *
        generalize lastK L = ky at *
        generalize hPS : (pre.map fun x : Fin (nch l.length) => prt l x.1) = PS at *
        have hPSl : (PS.length : Int) ≤ 1000 := by rw [← hPS, List.length_map]; have := nch_le hml; omega
        clear hPS
        simp only [List.setIfInBounds_toArray, List.set_cons_zero, List.set_cons_succ]
        have hbW : b < W.heap.size := by have := hB.size; omega
        have hkw : w.cell? ⟨b, o6 + (q - 1) * 4, none⟩ = some (.string ky) := (hB.cell (p := ⟨b, o6 + (q - 1) * 4, none⟩) hbs).symm.trans hky
        have hW1 : IntKind.i64.wrap ((q : Int) - 1) = (q : Int) - 1 := by rw [IntKind.wrap_i64]; omega
        have hW2 : (0 : Int) ≤ (q : Int) - 1 := by omega
        have hW3 : (q : Int) - 1 < (q : Int) := by omega
        have hW5 : ¬ (q : Int) < 1 := by omega
        have hW4 : ((q : Int) - 1).toNat = q - 1 := by omega
        have x6 : RowKit.Below W.heap.size W W.drew := (Below.refl _ _).drew
        have T6 := T.below x6
        have y1 := T6.box.cell 0 _ rfl
        have HS : W.drew.cell? ⟨b, o6 + (q - 1) * 4, none⟩ = some (.string ky) := (x6.cell (p := ⟨b, o6 + (q - 1) * 4, none⟩) hbW).trans hky
        refine wpIn_block (wpIn_region_round_held (S := fun w' => w'.cell? ⟨b, o6 + (q - 1) * 4, none⟩ = some (.string ky)) (by kernel_rfl) (noDefer_of (by kernel_rfl)) (by rintro ⟨a, w', h⟩; exact h) ?_)
        -- REGION13
        refine wpAnyH_take (i := 0) (v := (.pointer (some ⟨B, 0, none⟩))) rfl (by kernel_rfl) (by kernel_rfl) (by kernel_rfl) (fun _ _ _ h => h) (Or.inl ⟨by rfl, fun wv hSw => by (try dsimp only at hSw); go_simp⟩) HS ?_
        try simp only [Act.put, List.setIfInBounds_toArray, List.set_cons_zero, List.set_cons_succ]
        refine wpAnyH_take (i := 2) (v := (.slice (some ⟨b, o6, none⟩) q q)) rfl (by kernel_rfl) (by kernel_rfl) (by kernel_rfl) (fun _ _ _ h => h) (Or.inl ⟨by rfl, fun wv hSw => by (try dsimp only at hSw); go_simp⟩) HS ?_
        try simp only [Act.put, List.setIfInBounds_toArray, List.set_cons_zero, List.set_cons_succ]
        refine wpAnyH_take (i := 3) (v := (.slice (some ⟨b, o6, none⟩) q q)) rfl (by kernel_rfl) (by kernel_rfl) (by kernel_rfl) (fun _ _ _ h => h) (Or.inl ⟨by rfl, fun wv hSw => by (try dsimp only at hSw); go_simp⟩) HS ?_
        try simp only [Act.put, List.setIfInBounds_toArray, List.set_cons_zero, List.set_cons_succ]
        refine wpAnyH_take (i := 4) (v := (.int .i64 (q : Nat))) rfl (by kernel_rfl) (by kernel_rfl) (by kernel_rfl) (fun _ _ _ h => h) (Or.inl ⟨by rfl, fun wv hSw => by (try dsimp only at hSw); go_simp⟩) HS ?_
        try simp only [Act.put, List.setIfInBounds_toArray, List.set_cons_zero, List.set_cons_succ]
        refine wpAnyH_take (i := 5) (v := (.int .i64 ((q : Int) - 1))) rfl (by kernel_rfl) (by kernel_rfl) (by kernel_rfl) (fun _ _ _ h => h) (Or.inl ⟨by rfl, fun wv hSw => by (try dsimp only at hSw); go_simp⟩) HS ?_
        try simp only [Act.put, List.setIfInBounds_toArray, List.set_cons_zero, List.set_cons_succ]
        refine wpAnyH_take (i := 6) (v := (.pointer (some ⟨b, o6 + (q - 1) * 4, none⟩))) rfl (by kernel_rfl) (by kernel_rfl) (by kernel_rfl) (fun _ _ _ h => h) (Or.inl ⟨by rfl, fun wv hSw => by (try dsimp only at hSw); go_simp⟩) HS ?_
        try simp only [Act.put, List.setIfInBounds_toArray, List.set_cons_zero, List.set_cons_succ]
        refine wpAnyH_take (i := 7) (v := (.pointer (some ⟨b, o6 + (q - 1) * 4, none⟩))) rfl (by kernel_rfl) (by kernel_rfl) (by kernel_rfl) (fun _ _ _ h => h) (Or.inl ⟨by rfl, fun wv hSw => by (try dsimp only at hSw); go_simp⟩) HS ?_
        try simp only [Act.put, List.setIfInBounds_toArray, List.set_cons_zero, List.set_cons_succ]
        refine wpAnyH_take (i := 8) (v := (.string ky)) rfl (by kernel_rfl) (by kernel_rfl) (by kernel_rfl) (fun _ _ _ h => h) (Or.inl ⟨by rfl, fun wv hSw => by (try dsimp only at hSw); go_simp⟩) HS ?_
        try simp only [Act.put, List.setIfInBounds_toArray, List.set_cons_zero, List.set_cons_succ]
        refine wpAnyH_take (i := 9) (v := (.slice (some ⟨b, o6, none⟩) q q)) rfl (by kernel_rfl) (by kernel_rfl) (by kernel_rfl) (fun _ _ _ h => h) (Or.inl ⟨by rfl, fun wv hSw => by (try dsimp only at hSw); go_simp⟩) HS ?_
        try simp only [Act.put, List.setIfInBounds_toArray, List.set_cons_zero, List.set_cons_succ]
        refine wpAnyH_ready (rs := [1, 10]) (by kernel_rfl) (by simp) ?_
        refine AllReadyH.cons rfl (fun K hK => ?_) ?_
        · go_simp
          refine hK.out _ _ (HS) (fun HS => ?_)
          clear hK K
          try simp only [Act.put, List.setIfInBounds_toArray, List.set_cons_zero, List.set_cons_succ]
          refine wpAnyH_ready (rs := [10]) (by kernel_rfl) (by simp) ?_
          refine AllReadyH.cons rfl (fun K hK => ?_) ?_
          · go_simp
            go_at_call 86
            refine (implShowBlock _ L _ (hsl.below x6) hll).mono ?_
            rintro e w7 ⟨rfl, b7⟩
            have T7 := T6.below b7
            have x7 := x6.trans b7
            have y3 := T7.box.cell 0 _ rfl
            have y3f := T7.box.frozen
            have z7 := T7.box.lt
            have hb7 : b < w7.heap.size := by have := x7.size; omega
            have q7 := hB.trans (x7.mono hB.size)
            have HSn := (x7.cell (p := ⟨b, o6 + (q - 1) * 4, none⟩) hbW).trans hky
            refine hK.out _ _ (HSn) (fun HS => ?_)
            clear hK K
            try simp only [Act.put, List.setIfInBounds_toArray, List.set_cons_zero, List.set_cons_succ]
            refine wpAnyH_take (i := 11) (v := (.agg #[.string ky, .string (str (showBlkL L))])) rfl (by kernel_rfl) (by kernel_rfl) (by kernel_rfl) (fun _ _ _ h => h) (Or.inl ⟨by rfl, fun wv hSw => by (try dsimp only at hSw); go_simp⟩) HS ?_
            try simp only [Act.put, List.setIfInBounds_toArray, List.set_cons_zero, List.set_cons_succ]
            refine wpAnyH_ready (rs := [12]) (by kernel_rfl) (by simp) ?_
            refine AllReadyH.cons rfl (fun K hK => ?_) ?_
            · go_simp
              refine hK.out _ _ (((hal4 w7 _).cell (p := ⟨b, o6 + (q - 1) * 4, none⟩) hb7).trans HS) (fun HS => ?_)
              clear hK K
              try simp only [Act.put, List.setIfInBounds_toArray, List.set_cons_zero, List.set_cons_succ]
              refine wpAnyH_ready (rs := [13]) (by kernel_rfl) (by simp) ?_
              refine AllReadyH.cons rfl (fun K hK => ?_) ?_
              · refine step_app_at (o := ⟨some 52, _, _, _, _, _⟩) (v := .slice bo PS.length dp) rfl rfl Try.underlying24 info_Part rfl (by decide) rfl (T7.parts.alloc _) 1 rfl (heap_alloc_new _ _) rfl (by simp [Value.oneCell']) (by omega) (q7.alloc q7.size _) (by omega) (by have := x7.size; simp; omega) ?_
                intro v' w8 r8 x8 g8 e8
                obtain ⟨bo', dp', rfl, T8, t1, tf, k8, kp8, z8⟩ := T7.app hAB (by omega) ⟨ky, str (showBlkL L)⟩ r8 g8
                have HSn := (x8.cell (p := ⟨b, o6 + (q - 1) * 4, none⟩) hbs).trans hkw
                refine hK.out _ _ (HSn) (fun HS => ?_)
                clear hK K
                try simp only [Act.put, List.setIfInBounds_toArray, List.set_cons_zero, List.set_cons_succ]
                refine wpAnyH_take (i := 14) (v := (.pointer (some ⟨B, 0, none⟩))) rfl (by kernel_rfl) (by kernel_rfl) (by kernel_rfl) (fun _ _ _ h => h) (Or.inl ⟨by rfl, fun wv hSw => by (try dsimp only at hSw); go_simp⟩) HS ?_
                try simp only [Act.put, List.setIfInBounds_toArray, List.set_cons_zero, List.set_cons_succ]
                refine wpAnyH_ready (rs := [15]) (by kernel_rfl) (by simp) ?_
                refine AllReadyH.cons rfl (fun K hK => ?_) ?_
                · go_simp
                  refine hK.out _ _ (by rw [World.cell?_setCell_other _ _ _ _ (by simp <;> omega)]; exact HS) (fun HS => ?_)
                  clear hK K
                  try simp only [Act.put, List.setIfInBounds_toArray, List.set_cons_zero, List.set_cons_succ]
                  refine wpAnyH_done (by kernel_rfl) ?_ _
                  refine ⟨(keeps_below x7).trans ((KeepsOthers.alloc _ _).trans k8), ⟨(kp8 Bs (by have := x7.size; omega) (by omega) (by omega)).trans (x7.block Bs (by omega)), (kp8 (Bs + 1) (by have := x7.size; omega) (by omega) (Nat.le_refl _)).trans (x7.block (Bs + 1) (by omega))⟩, ⟨bo', dp', by rw [HX.out]; exact T8⟩, below_set x8 ⟨B, 0, none⟩ _ (by show w.heap.size ≤ B; omega), ?_⟩
                  have := x7.size
                  simp only [World.setCell, Array.size_modify]
                  omega
                exact AllReadyH.nil
              exact AllReadyH.nil
            exact AllReadyH.nil
          exact AllReadyH.nil
        refine AllReadyH.cons rfl (fun K hK => ?_) ?_
        · go_simp
          go_at_call 86
          refine (implShowBlock _ L _ (hsl.below x6) hll).mono ?_
          rintro e w7 ⟨rfl, b7⟩
          have T7 := T6.below b7
          have x7 := x6.trans b7
          have y3 := T7.box.cell 0 _ rfl
          have y3f := T7.box.frozen
          have z7 := T7.box.lt
          have hb7 : b < w7.heap.size := by have := x7.size; omega
          have q7 := hB.trans (x7.mono hB.size)
          have HSn := (x7.cell (p := ⟨b, o6 + (q - 1) * 4, none⟩) hbW).trans hky
          refine hK.out _ _ (HSn) (fun HS => ?_)
          clear hK K
          try simp only [Act.put, List.setIfInBounds_toArray, List.set_cons_zero, List.set_cons_succ]
          refine wpAnyH_take (i := 11) (v := (.agg #[.string ky, .string (str (showBlkL L))])) rfl (by kernel_rfl) (by kernel_rfl) (by kernel_rfl) (fun _ _ _ h => h) (Or.inl ⟨by rfl, fun wv hSw => by (try dsimp only at hSw); go_simp⟩) HS ?_
          try simp only [Act.put, List.setIfInBounds_toArray, List.set_cons_zero, List.set_cons_succ]
          refine wpAnyH_ready (rs := [1, 12]) (by kernel_rfl) (by simp) ?_
          refine AllReadyH.cons rfl (fun K hK => ?_) ?_
          · go_simp
            refine hK.out _ _ (HS) (fun HS => ?_)
            clear hK K
            try simp only [Act.put, List.setIfInBounds_toArray, List.set_cons_zero, List.set_cons_succ]
            refine wpAnyH_ready (rs := [12]) (by kernel_rfl) (by simp) ?_
            refine AllReadyH.cons rfl (fun K hK => ?_) ?_
            · go_simp
              refine hK.out _ _ (((hal4 w7 _).cell (p := ⟨b, o6 + (q - 1) * 4, none⟩) hb7).trans HS) (fun HS => ?_)
              clear hK K
              try simp only [Act.put, List.setIfInBounds_toArray, List.set_cons_zero, List.set_cons_succ]
              refine wpAnyH_ready (rs := [13]) (by kernel_rfl) (by simp) ?_
              refine AllReadyH.cons rfl (fun K hK => ?_) ?_
              · refine step_app_at (o := ⟨some 52, _, _, _, _, _⟩) (v := .slice bo PS.length dp) rfl rfl Try.underlying24 info_Part rfl (by decide) rfl (T7.parts.alloc _) 1 rfl (heap_alloc_new _ _) rfl (by simp [Value.oneCell']) (by omega) (q7.alloc q7.size _) (by omega) (by have := x7.size; simp; omega) ?_
                intro v' w8 r8 x8 g8 e8
                obtain ⟨bo', dp', rfl, T8, t1, tf, k8, kp8, z8⟩ := T7.app hAB (by omega) ⟨ky, str (showBlkL L)⟩ r8 g8
                have HSn := (x8.cell (p := ⟨b, o6 + (q - 1) * 4, none⟩) hbs).trans hkw
                refine hK.out _ _ (HSn) (fun HS => ?_)
                clear hK K
                try simp only [Act.put, List.setIfInBounds_toArray, List.set_cons_zero, List.set_cons_succ]
                refine wpAnyH_take (i := 14) (v := (.pointer (some ⟨B, 0, none⟩))) rfl (by kernel_rfl) (by kernel_rfl) (by kernel_rfl) (fun _ _ _ h => h) (Or.inl ⟨by rfl, fun wv hSw => by (try dsimp only at hSw); go_simp⟩) HS ?_
                try simp only [Act.put, List.setIfInBounds_toArray, List.set_cons_zero, List.set_cons_succ]
                refine wpAnyH_ready (rs := [15]) (by kernel_rfl) (by simp) ?_
                refine AllReadyH.cons rfl (fun K hK => ?_) ?_
                · go_simp
                  refine hK.out _ _ (by rw [World.cell?_setCell_other _ _ _ _ (by simp <;> omega)]; exact HS) (fun HS => ?_)
                  clear hK K
                  try simp only [Act.put, List.setIfInBounds_toArray, List.set_cons_zero, List.set_cons_succ]
                  refine wpAnyH_done (by kernel_rfl) ?_ _
                  refine ⟨(keeps_below x7).trans ((KeepsOthers.alloc _ _).trans k8), ⟨(kp8 Bs (by have := x7.size; omega) (by omega) (by omega)).trans (x7.block Bs (by omega)), (kp8 (Bs + 1) (by have := x7.size; omega) (by omega) (Nat.le_refl _)).trans (x7.block (Bs + 1) (by omega))⟩, ⟨bo', dp', by rw [HX.out]; exact T8⟩, below_set x8 ⟨B, 0, none⟩ _ (by show w.heap.size ≤ B; omega), ?_⟩
                  have := x7.size
                  simp only [World.setCell, Array.size_modify]
                  omega
                exact AllReadyH.nil
              exact AllReadyH.nil
            exact AllReadyH.nil
          refine AllReadyH.cons rfl (fun K hK => ?_) ?_
          · go_simp
            refine hK.out _ _ (((hal4 w7 _).cell (p := ⟨b, o6 + (q - 1) * 4, none⟩) hb7).trans HS) (fun HS => ?_)
            clear hK K
            try simp only [Act.put, List.setIfInBounds_toArray, List.set_cons_zero, List.set_cons_succ]
            refine wpAnyH_ready (rs := [1]) (by kernel_rfl) (by simp) ?_
            refine AllReadyH.cons rfl (fun K hK => ?_) ?_
            · go_simp
              refine hK.out _ _ (HS) (fun HS => ?_)
              clear hK K
              try simp only [Act.put, List.setIfInBounds_toArray, List.set_cons_zero, List.set_cons_succ]
              refine wpAnyH_ready (rs := [13]) (by kernel_rfl) (by simp) ?_
              refine AllReadyH.cons rfl (fun K hK => ?_) ?_
              · refine step_app_at (o := ⟨some 52, _, _, _, _, _⟩) (v := .slice bo PS.length dp) rfl rfl Try.underlying24 info_Part rfl (by decide) rfl (T7.parts.alloc _) 1 rfl (heap_alloc_new _ _) rfl (by simp [Value.oneCell']) (by omega) (q7.alloc q7.size _) (by omega) (by have := x7.size; simp; omega) ?_
                intro v' w8 r8 x8 g8 e8
                obtain ⟨bo', dp', rfl, T8, t1, tf, k8, kp8, z8⟩ := T7.app hAB (by omega) ⟨ky, str (showBlkL L)⟩ r8 g8
                have HSn := (x8.cell (p := ⟨b, o6 + (q - 1) * 4, none⟩) hbs).trans hkw
                refine hK.out _ _ (HSn) (fun HS => ?_)
                clear hK K
                try simp only [Act.put, List.setIfInBounds_toArray, List.set_cons_zero, List.set_cons_succ]
                refine wpAnyH_take (i := 14) (v := (.pointer (some ⟨B, 0, none⟩))) rfl (by kernel_rfl) (by kernel_rfl) (by kernel_rfl) (fun _ _ _ h => h) (Or.inl ⟨by rfl, fun wv hSw => by (try dsimp only at hSw); go_simp⟩) HS ?_
                try simp only [Act.put, List.setIfInBounds_toArray, List.set_cons_zero, List.set_cons_succ]
                refine wpAnyH_ready (rs := [15]) (by kernel_rfl) (by simp) ?_
                refine AllReadyH.cons rfl (fun K hK => ?_) ?_
                · go_simp
                  refine hK.out _ _ (by rw [World.cell?_setCell_other _ _ _ _ (by simp <;> omega)]; exact HS) (fun HS => ?_)
                  clear hK K
                  try simp only [Act.put, List.setIfInBounds_toArray, List.set_cons_zero, List.set_cons_succ]
                  refine wpAnyH_done (by kernel_rfl) ?_ _
                  refine ⟨(keeps_below x7).trans ((KeepsOthers.alloc _ _).trans k8), ⟨(kp8 Bs (by have := x7.size; omega) (by omega) (by omega)).trans (x7.block Bs (by omega)), (kp8 (Bs + 1) (by have := x7.size; omega) (by omega) (Nat.le_refl _)).trans (x7.block (Bs + 1) (by omega))⟩, ⟨bo', dp', by rw [HX.out]; exact T8⟩, below_set x8 ⟨B, 0, none⟩ _ (by show w.heap.size ≤ B; omega), ?_⟩
                  have := x7.size
                  simp only [World.setCell, Array.size_modify]
                  omega
                exact AllReadyH.nil
              exact AllReadyH.nil
            exact AllReadyH.nil
          exact AllReadyH.nil
        exact AllReadyH.nil
        -- END13
      case done =>
        rintro D xs W hD hxs ⟨⟨bo, dp, T⟩, hB, hWs⟩ hK
        have hps : (xs.map fun x => prt l x.1) = prts l (nch l.length) := by
          rw [show (fun x : Fin (nch l.length) => prt l x.1) = prt l ∘ Fin.val from rfl, ← List.map_map, hxs]; rfl
        rw [hps] at T
        have hpl := prts_len l (nch l.length)
        clear hps hxs TG hBs hBn
        have hks : SlT strCells 1 W (.slice ao l.length cp) (l.map (·.key)) := by
          have := T.keys
          rw [keyC_flat] at this
          exact SlT.of_own this (fun _ => rfl) (by decide)
        have hok : ∀ x ∈ l.map (·.key), (x.size : Int) ≤ 1048576 := by
          intro x hx
          obtain ⟨e, he, rfl⟩ := List.mem_map.1 hx
          obtain ⟨i, hi, rfl⟩ := List.getElem_of_mem he
          have := (entsB_sizes HES.out i hi).1
          omega
        have hlk : ((l.map (·.key)).length : Int) ≤ 1048576 := by rw [List.length_map]; omega
        obtain ⟨ks, hkse⟩ : ∃ ks, ks = l.map (·.key) := ⟨_, rfl⟩
        have HKS := Lib.hid hkse.symm
        rw [← hkse] at hks hok hlk
        clear hkse
        have hDl := (Array.getElem?_eq_some_iff.1 hK).1
        go_upto_region 15 with (go_at_call 87; go_loud (refine (implBloomOf _ ks 16 _ hks hok hlk).mono ?_; rintro e w10 ⟨rfl, b10⟩; have T10 := T.below b10; have x10 := hB.trans (b10.mono hB.size); have d1 := T10.box.cell 1 _ rfl; have df := T10.box.frozen; have hK10 := (b10.block D hDl).trans hK))
        have q2 := T10.box.set 1 (.string (str (bloomL ks 16)))
        have r2 := T10.res.far ⟨B, 1, none⟩ (.string (str (bloomL ks 16))) (by show w.heap.size ≠ B; omega)
        have p2 := own_other T10.parts ⟨B, 1, none⟩ (by show B < Bs + 1 + 1; omega) (.string (str (bloomL ks 16)))
        have x11 := below_set x10 ⟨B, 1, none⟩ (.string (str (bloomL ks 16))) (by show w.heap.size ≤ B; omega)
        have hK11 := (Below.heap_setCell w10 ⟨B, 1, none⟩ (.string (str (bloomL ks 16))) D (by show D ≠ B; omega)).trans hK10
        clear T10 d1 df x10 hK10 hK
        generalize World.setCell w10 ⟨B, 1, none⟩ (.string (str (bloomL ks 16))) = W11 at *
        have u0 := q2.cell 0 _ rfl
        have u1 := q2.cell 1 _ rfl
        have u2 := q2.cell 2 _ rfl
        have v0 := r2.cell 0 _ rfl
        have v1 := r2.cell 1 _ rfl
        have v2 := r2.cell 2 _ rfl
        have vf := r2.frozen
        go_wp2
        have r3 := ((r2.set 0 (.slice bo (nch l.length) dp)).set 1 (.string (str (bloomL ks 16)))).set 2 (.int .i64 (topTo l l.length))
        have p3 := own_other (own_other (own_other p2 ⟨w.heap.size, 0, none⟩ (by show w.heap.size < _; omega) (.slice bo (nch l.length) dp)) ⟨w.heap.size, 1, none⟩ (by show w.heap.size < _; omega) (.string (str (bloomL ks 16)))) ⟨w.heap.size, 2, none⟩ (by show w.heap.size < _; omega) (.int .i64 (topTo l l.length))
        have x12 := below_set (below_set (below_set x11 ⟨w.heap.size, 0, none⟩ (.slice bo (nch l.length) dp) (Nat.le_refl _)) ⟨w.heap.size, 1, none⟩ (.string (str (bloomL ks 16))) (Nat.le_refl _)) ⟨w.heap.size, 2, none⟩ (.int .i64 (topTo l l.length)) (Nat.le_refl _)
        have hK12 := (Below.heap_setCell _ ⟨w.heap.size, 2, none⟩ (.int .i64 (topTo l l.length)) D (by show D ≠ w.heap.size; omega)).trans ((Below.heap_setCell _ ⟨w.heap.size, 1, none⟩ (.string (str (bloomL ks 16))) D (by show D ≠ w.heap.size; omega)).trans ((Below.heap_setCell W11 ⟨w.heap.size, 0, none⟩ (.slice bo (nch l.length) dp) D (by show D ≠ w.heap.size; omega)).trans hK11))
        generalize World.setCell (World.setCell (World.setCell W11 ⟨w.heap.size, 0, none⟩ (.slice bo (nch l.length) dp)) ⟨w.heap.size, 1, none⟩ (.string (str (bloomL ks 16)))) ⟨w.heap.size, 2, none⟩ (.int .i64 (topTo l l.length)) = WF at *
        rw [← HQ.out]
        refine ⟨by simp, .inl ⟨D, _, rfl, run_takeDeferred hK12, ?_⟩⟩
        have gD := grownBy_putObj' WF D (.deferred none)
        have r4 := r3.grown gD (fun e => by have := Option.some.inj e; omega)
        have p4 := own_turn p3 gD (fun r e => by cases e; exact ⟨_, hK12, rfl⟩)
        have x13 : RowKit.Below w.heap.size w (WF.putObj D (.deferred none)) := x12.grown gD x12.size (fun k e => by have := Option.some.inj e; omega)
        have y0 := r4.cell 0 _ rfl
        have y1 := r4.cell 1 _ rfl
        have y2 := r4.cell 2 _ rfl
        refine ⟨.tuple #[.agg #[.slice bo (nch l.length) dp, .string (str (bloomL ks 16)), .int .i64 (topTo l l.length)], .bool true], (by simp [results, Try.results19, go_sem, y0, y1, y2]), ?_⟩
        rw [HB.out, HT.out]
        refine ⟨_, rfl, ⟨_, by rw [← HKS.out]; rfl, ?_⟩, x13⟩
        rw [hpl] at p4
        exact Row.up p4 hpl.symm (by omega)
theorem implTableOf (ad : Option Addr) (cap : Nat) (l : List EntR) (w : World) (h : SlT EntR.cells 4 w (.slice ad l.length cap) l) (hl : (l.length : Int) ≤ 1048576) :
    Calls Try.prog 19 #[.slice ad l.length cap] w fun e w' => ∃ v', e = .returned (.tuple #[v', .bool (tabB l)]) ∧ RowTable w.heap.size w'.heap.size w' v' (tabOf l) ∧ Below w.heap.size w w' := by
  rcases hb : tabB l with _ | _
  · have := implTableOf_no ad cap l w h hl hb
    rwa [hb] at this
  · have := implTableOf_yes ad cap l w h hl hb
    rwa [hb] at this
end Go.Proofs.Ytfbbdnicplbmdaa
set_option linter.unusedVariables false
set_option linter.unusedSimpArgs false
namespace Go.Proofs.Ytfbbdnicplbmdaa
open Sp
namespace Sp
theorem showBlkL_size (l : List EntR) : (showBlkL l).length ≤ 1000000 := by
  rcases h : blockB l with _ | _
  · rw [showBlkL_not h]; decide
  · rw [showBlkL_yes h]
    unfold blockB at h
    rw [Bool.and_eq_true, inB_iff] at h
    have h1 := blkTo_len h.2 l.length (Nat.le_refl _)
    have h2 := varL_length ((plcTo l l.length).length : Int)
    have h3 := fixedL_length_le ((blkTo l l.length).length : Int) 2
    have h6 := plcTo_len l l.length
    have h7 := plcL_len (plcTo l l.length)
    unfold showKL
    simp only [List.length_append]
    omega
theorem bloomL_16 {l : List EntR} (h : memB l = true) : (bloomL (l.map (·.key)) 16).length = 16 := by
  have h60 := memB_len h
  have : bloomL (l.map (·.key)) ((16 : Nat) : Int) = bloomTo (l.map (·.key)) 16 (l.map (·.key)).length := bloomL_yes ⟨by decide, by simpa using h60⟩
  have e : bloomL (l.map (·.key)) 16 = bloomL (l.map (·.key)) ((16 : Nat) : Int) := rfl
  rw [e, this, bloomTo_length]
theorem tabOf_len (l : List EntR) : ((tabOf l).parts.length : Int) ≤ 1048576 := by
  rcases h : tabB l with _ | _
  · rw [tabOf_not h]; exact (by decide : ((0 : Nat) : Int) ≤ 1048576)
  · rw [tabOf_yes h]
    show ((prts l (nch l.length)).length : Int) ≤ _
    rw [prts_len]
    have := nch_le (memB_len (tabB_iff.1 h).2)
    omega
/-- T is what the string is the text of, if b; else it is the text of none. -/
structure TabC (s : ByteArray) (T : TabR) (b : Bool) : Prop where
  yes : b = true → entsTB T = true ∧ showTab T = s.data.toList
  no : b = false → T = noTab ∧ ∀ t, entsTB t = true → showTab t ≠ s.data.toList
theorem TabC.exists (s : ByteArray) : ∃ T b, TabC s T b := by
  by_cases h : ∃ T, entsTB T = true ∧ showTab T = s.data.toList
  · obtain ⟨T, h⟩ := h
    exact ⟨T, true, ⟨fun _ => h, fun h => by cases h⟩⟩
  · exact ⟨noTab, false, ⟨(fun h => by cases h), fun _ => ⟨rfl, fun l h1 h2 => h ⟨l, h1, h2⟩⟩⟩⟩
/-- What is in a right table. -/
theorem tab_sizes {T : TabR} (h : entsTB T = true) : T.parts.length ≤ 10 ∧ T.bloom.size = 16 ∧ 0 ≤ T.top ∧ T.top ≤ 1000000 ∧ ∀ k (hk : k < T.parts.length), T.parts[k].last.size ≤ 10 ∧ T.parts[k].text.size ≤ 1000000 := by
  obtain ⟨h1, h2, _⟩ := entsTB_of h
  rw [tabB_iff] at h2
  have hp : T.parts = prts (tabEnts T) (nch (tabEnts T).length) := congrArg TabR.parts h1
  have hb : T.bloom = str (bloomL ((tabEnts T).map (·.key)) 16) := congrArg TabR.bloom h1
  have ht : T.top = topTo (tabEnts T) (tabEnts T).length := congrArg TabR.top h1
  have htb := topTo_bd h2.2 (tabEnts T).length (Nat.le_refl _)
  refine ⟨(entsTB_len h).1, by rw [hb, str_size, bloomL_16 h2.2], by rw [ht]; exact htb.1, by rw [ht]; exact htb.2, fun k hk => ?_⟩
  obtain ⟨p1, p2, p3, p4⟩ := part_at h hk
  obtain ⟨c1, c2, c3⟩ := chk_len p1
  have hes : entsB (tabEnts T) = true := by have := h2.2; simp [memB] at this; exact this.2
  refine ⟨?_, ?_⟩
  · rw [p3, lastK_at (by omega)]
    obtain ⟨hb', he'⟩ := chk_at (l := tabEnts T) (k := k) (j := (chk (tabEnts T) k).length - 1) p1 (by omega)
    rw [he']
    exact (entsB_sizes hes _ hb').1
  · have hkn : k < nch (tabEnts T).length := by rw [hp, prts_len] at hk; exact hk
    have : T.parts[k]? = some (prt (tabEnts T) k) := by rw [hp]; simp [prts, hkn]
    rw [List.getElem?_eq_getElem hk] at this
    rw [Option.some.inj this]
    show (str (showBlkL (chk (tabEnts T) k))).size ≤ _
    rw [str_size]; exact showBlkL_size _
theorem TabC.text {s : ByteArray} {T : TabR} {b : Bool} (h : TabC s T b) (hb : b = true) : s.data.toList = varB T.parts.length ++ (pcsL T.parts ++ (T.bloom.data.toList ++ varB T.top.toNat)) ∧ ((T.top.toNat : Nat) : Int) = T.top := by
  obtain ⟨h1, h2⟩ := h.yes hb
  obtain ⟨s1, s2, s3, s4, s5⟩ := tab_sizes h1
  rw [showTab_yes h1] at h2
  have hn : ((T.top.toNat : Nat) : Int) = T.top := by omega
  have e : varL T.top = varB T.top.toNat := by rw [← hn, varL_nat (by omega), Int.toNat_natCast]
  rw [← h2]
  unfold showTL
  rw [varL_nat (by omega), e]
  exact ⟨rfl, hn⟩
theorem TabC.len {s : ByteArray} {T : TabR} {b : Bool} (h : TabC s T b) : T.parts.length ≤ 10 := by
  cases b
  · rw [(h.no rfl).1]; simp [noTab]
  · exact (tab_sizes (h.yes rfl).1).1
/-- Both loops. -/
structure TI (s : ByteArray) (T : TabR) (b : Bool) (n k : Nat) (ps : List PartR) (p : Nat) (bad : Bool) : Prop where
  len : ps.length = k
  le1 : k ≤ p + 1
  le0 : bad = false → k ≤ p
  pb : (p : Int) ≤ s.size
  sz : ∀ x ∈ ps, ((x.last.size : Int) ≤ s.size ∧ (x.text.size : Int) ≤ s.size)
  cmp : b = true → bad = false ∧ n = T.parts.length ∧ ps = T.parts.take k ∧ rem s p = pcsL (T.parts.drop k) ++ (T.bloom.data.toList ++ varB T.top.toNat)
theorem TI.start {s : ByteArray} {T : TabR} {b : Bool} (h : TabC s T b) : TI s T b (rdNum s 0 false).1 0 [] (rdNum s 0 false).2.1 (rdNum s 0 false).2.2 := by
  refine ⟨rfl, by omega, fun _ => by omega, (rdNum_bdI s 0 false (by omega)).1, by simp, fun hb => ?_⟩
  obtain ⟨h1, _⟩ := h.text hb
  have := h.len
  rw [← rem_zero] at h1
  obtain ⟨e1, e2⟩ := takeV_of (by omega) h1
  rw [rdNum_some e1]
  exact ⟨rfl, rfl, by simp, by simpa using e2⟩
def rdPart (s : ByteArray) (p : Nat) (bad : Bool) : PartR × Nat × Bool := (⟨(rdShort s p bad).1, (rdShort s (rdShort s p bad).2.1 (rdShort s p bad).2.2).1⟩, (rdShort s (rdShort s p bad).2.1 (rdShort s p bad).2.2).2)
theorem rdNum_mono (s : ByteArray) (p : Nat) (bad : Bool) : p ≤ (rdNum s p bad).2.1 ∧ ((rdNum s p bad).2.2 = false → p < (rdNum s p bad).2.1) := by
  cases bad
  · rcases hv : takeV s p with _ | ⟨x, q⟩
    · rw [rdNum_none hv]; exact ⟨Nat.le_refl _, fun h => by cases h⟩
    · rw [rdNum_some hv]
      have := (takeV_some hv).2.2.1
      exact ⟨by show p ≤ q; omega, fun _ => this⟩
  · rw [rdNum_bad]; exact ⟨Nat.le_refl _, fun h => by cases h⟩
theorem rdBytes_mono (s : ByteArray) (p : Nat) (bad : Bool) (n : Nat) : p ≤ (rdBytes s p bad n).2.1 ∧ ((rdBytes s p bad n).2.2 = false → bad = false) := by
  unfold rdBytes
  split
  · exact ⟨Nat.le_refl _, fun h => by cases h⟩
  · rename_i h
    exact ⟨by show p ≤ p + n; omega, fun _ => by cases bad; rfl; exact absurd (.inl rfl) h⟩
theorem rdShort_mono (s : ByteArray) (p : Nat) (bad : Bool) : p ≤ (rdShort s p bad).2.1 ∧ ((rdShort s p bad).2.2 = false → p < (rdShort s p bad).2.1 ∧ bad = false) := by
  have h1 := rdNum_mono s p bad
  have h2 := rdBytes_mono s (rdNum s p bad).2.1 (rdNum s p bad).2.2 (rdNum s p bad).1
  have e : (rdShort s p bad).2 = (rdBytes s (rdNum s p bad).2.1 (rdNum s p bad).2.2 (rdNum s p bad).1).2 := rfl
  rw [e]
  refine ⟨by omega, fun h => ?_⟩
  have h3 := h1.2 (h2.2 h)
  refine ⟨by omega, ?_⟩
  cases bad
  · rfl
  · have := h2.2 h; rw [rdNum_bad] at this; cases this
theorem TI.step {s : ByteArray} {T : TabR} {b : Bool} {n k : Nat} {ps : List PartR} {p : Nat} (hC : TabC s T b) (h : TI s T b n k ps p false) (hk : k < n)
    {a : ByteArray} {p1 : Nat} {b1 : Bool} {c : ByteArray} {p2 : Nat} {b2 : Bool} (e1 : rdShort s p false = (a, p1, b1)) (e2 : rdShort s p1 b1 = (c, p2, b2)) :
    TI s T b n (k + 1) (ps ++ [⟨a, c⟩]) p2 b2 := by
  have m1 := rdShort_mono s p false
  have m2 := rdShort_mono s p1 b1
  have d1 := rdShort_bd s p false h.pb
  rw [e1] at m1 d1
  have d2 := rdShort_bd s p1 b1 d1.1
  rw [e2] at m2 d2
  have l0 := h.le0 rfl
  refine ⟨by simp [h.len], by have := m1.1; have := m2.1; simp only at *; omega, fun hb2 => ?_, d2.1, fun x hx => ?_, fun hb => ?_⟩
  · have := m2.2 hb2; have := m1.1; simp only at *; omega
  · rcases List.mem_append.1 hx with hx | hx
    · exact h.sz x hx
    · rw [List.mem_singleton] at hx
      subst hx
      exact ⟨d1.2, d2.2⟩
  · obtain ⟨_, h2, h3, h4⟩ := h.cmp hb
    have hkl : k < T.parts.length := by omega
    obtain ⟨s1, s2, s3, s4, s5⟩ := tab_sizes (hC.yes hb).1
    obtain ⟨z1, z2⟩ := s5 k hkl
    rw [pcsL_drop hkl] at h4
    unfold pcL at h4
    rw [List.append_assoc, List.append_assoc] at h4
    obtain ⟨t1, t2⟩ := takeP_of (by omega) h4
    obtain ⟨u1, u2⟩ := takeP_of (by omega) t2
    rw [rdShort_some t1] at e1
    simp only [Prod.mk.injEq] at e1
    obtain ⟨rfl, rfl, rfl⟩ := e1
    rw [rdShort_some u1] at e2
    simp only [Prod.mk.injEq] at e2
    obtain ⟨rfl, rfl, rfl⟩ := e2
    refine ⟨rfl, h2, ?_, u2⟩
    rw [List.take_succ_eq_append_getElem hkl, h3]
theorem TI.all {s : ByteArray} {T : TabR} {b : Bool} {n k : Nat} {ps : List PartR} {p : Nat} {bad : Bool} (hC : TabC s T b) (h : TI s T b n k ps p bad) (hd : bad = true ∨ ¬ k < n) (hb : b = true) :
    bad = false ∧ ps = T.parts ∧ ¬ s.size - p < 16 ∧ (rem s p).take 16 = T.bloom.data.toList ∧ takeV s (p + 16) = some (T.top.toNat, s.size) ∧ ((T.top.toNat : Nat) : Int) = T.top := by
  obtain ⟨h1, h2, h3, h4⟩ := h.cmp hb
  obtain ⟨s1, s2, s3, s4, s5⟩ := tab_sizes (hC.yes hb).1
  have hk : T.parts.length ≤ k := by rcases hd with h | h <;> first | (rw [h1] at h; cases h) | omega
  rw [List.drop_of_length_le hk, pcsL_nil, List.nil_append] at h4
  have hbl : T.bloom.data.toList.length = 16 := by simpa using s2
  have hl := congrArg List.length h4
  rw [rem_length, List.length_append, hbl] at hl
  have hv : rem s (p + 16) = varB T.top.toNat ++ [] := by rw [← rem_drop, h4, List.append_nil]; rw [List.drop_append_of_le_length (by omega), List.drop_of_length_le (by omega), List.nil_append]
  obtain ⟨v1, v2⟩ := takeV_of (by omega) hv
  have hps := h.pb
  have hvp := varB_pos T.top.toNat
  refine ⟨h1, by rw [h3, List.take_of_length_le hk], by omega, ?_, ?_, by omega⟩
  · rw [h4, List.take_append_of_le_length (by omega), List.take_of_length_le (by omega)]
  · rw [v1]; congr 2; omega
theorem TI.fin {s : ByteArray} {T : TabR} {b : Bool} {n k : Nat} {ps : List PartR} {p : Nat} {bad : Bool} (hC : TabC s T b) (h : TI s T b n k ps p bad) (hd : bad = true ∨ ¬ k < n)
    {x : List UInt8} {p1 : Nat} {b1 : Bool} {m p2 : Nat} {b2 : Bool} (e1 : rdBytes s p bad 16 = (x, p1, b1)) (e2 : rdNum s p1 b1 = (m, p2, b2)) :
    b = ((!b2 && p2 == s.size) && showTab ⟨ps, str x, (m : Int)⟩ == s.data.toList) ∧ (b = true → T = ⟨ps, str x, (m : Int)⟩) := by
  cases b
  · refine ⟨?_, fun h => by cases h⟩
    rcases hx : ((!b2 && p2 == s.size) && showTab ⟨ps, str x, (m : Int)⟩ == s.data.toList) with _ | _
    · rfl
    · exfalso
      simp only [Bool.and_eq_true, Bool.not_eq_true', beq_iff_eq] at hx
      obtain ⟨⟨g1, g2⟩, g3⟩ := hx
      have hm := rdNum_mono s p1 b1
      rw [e2] at hm
      have := hm.2 g1
      simp only at this
      rcases ht : entsTB ⟨ps, str x, (m : Int)⟩ with _ | _
      · rw [showTab_not ht] at g3
        have := congrArg List.length g3
        have hsz : s.data.toList.length = s.size := by simp
        rw [hsz] at this
        simp at this
        omega
      · exact (hC.no rfl).2 _ ht g3
  · obtain ⟨a1, a2, a3, a4, a5, a6⟩ := h.all hC hd rfl
    rw [a1, rdBytes_ok a3, a4] at e1
    simp only [Prod.mk.injEq] at e1
    obtain ⟨rfl, rfl, rfl⟩ := e1
    rw [rdNum_some a5] at e2
    simp only [Prod.mk.injEq] at e2
    obtain ⟨rfl, rfl, rfl⟩ := e2
    have hT : T = ⟨ps, str T.bloom.data.toList, ((T.top.toNat : Nat) : Int)⟩ := by rw [a2, a6, str_of]
    refine ⟨?_, fun _ => hT⟩
    rw [← hT, (hC.yes rfl).2]
    simp
theorem TI.none0 {s : ByteArray} {T : TabR} {b : Bool} (hC : TabC s T b) (hv : takeV s 0 = none) : b = false := by
  cases b
  · rfl
  · have := (TI.start hC).cmp rfl
    rw [rdNum_none hv] at this
    cases this.1
theorem TI.big {s : ByteArray} {T : TabR} {b : Bool} {n p : Nat} (hC : TabC s T b) (hv : takeV s 0 = some (n, p)) (hn : 60 < n) : b = false := by
  cases b
  · rfl
  · have := ((TI.start hC).cmp rfl).2.1
    rw [rdNum_some hv] at this
    have := hC.len
    omega
theorem TI.first {s : ByteArray} {T : TabR} {b : Bool} {n p : Nat} (hC : TabC s T b) (hv : takeV s 0 = some (n, p)) : TI s T b n 0 [] p false := by
  have := TI.start hC
  rw [rdNum_some hv] at this
  exact this
theorem TI.sfail1 {s : ByteArray} {T : TabR} {b : Bool} {n k : Nat} {ps : List PartR} {p : Nat} (hC : TabC s T b) (h : TI s T b n k ps p false) (hk : k < n) (hv : takeP s p = none) : b = false := by
  cases b
  · rfl
  · have h1 := (rdShort_none hv).2
    have := (h.step hC hk rfl rfl).cmp rfl
    have h2 := this.1
    have h3 := (rdShort_mono s (rdShort s p false).2.1 (rdShort s p false).2.2).2 h2
    rw [h1] at h3
    cases h3.2
theorem TI.sfail2 {s : ByteArray} {T : TabR} {b : Bool} {n k : Nat} {ps : List PartR} {p q : Nat} {a : ByteArray} (hC : TabC s T b) (h : TI s T b n k ps p false) (hk : k < n) (hv : takeP s p = some (a, q)) (hw : takeP s q = none) : b = false := by
  cases b
  · rfl
  · have h1 := (rdShort_none hw).2
    have := ((h.step hC hk (rdShort_some hv) rfl).cmp rfl).1
    exact absurd (h1.symm.trans this) (by decide)
theorem TI.sstep {s : ByteArray} {T : TabR} {b : Bool} {n k : Nat} {ps : List PartR} {p q r : Nat} {a c : ByteArray} (hC : TabC s T b) (h : TI s T b n k ps p false) (hk : k < n) (hv : takeP s p = some (a, q)) (hw : takeP s q = some (c, r)) : TI s T b n (k + 1) (ps ++ [⟨a, c⟩]) r false :=
  h.step hC hk (rdShort_some hv) (rdShort_some hw)
theorem TI.sshort {s : ByteArray} {T : TabR} {b : Bool} {n k : Nat} {ps : List PartR} {p : Nat} (hC : TabC s T b) (h : TI s T b n k ps p false) (hk : ¬ k < n) (hs : s.size - p < 16) : b = false := by
  cases b
  · rfl
  · exact absurd hs (h.all hC (.inr hk) rfl).2.2.1
theorem TI.snone {s : ByteArray} {T : TabR} {b : Bool} {n k : Nat} {ps : List PartR} {p : Nat} (hC : TabC s T b) (h : TI s T b n k ps p false) (hk : ¬ k < n) (hv : takeV s (p + 16) = none) : b = false := by
  cases b
  · rfl
  · have := (h.all hC (.inr hk) rfl).2.2.2.2.1
    rw [hv] at this; cases this
theorem TI.sfin {s : ByteArray} {T : TabR} {b : Bool} {n k : Nat} {ps : List PartR} {p : Nat} (hC : TabC s T b) (h : TI s T b n k ps p false) (hk : ¬ k < n) (hs : ¬ s.size - p < 16) {m q : Nat} (hv : takeV s (p + 16) = some (m, q)) :
    b = (showTab ⟨ps, s.extract p (p + 16), (m : Int)⟩ == s.data.toList) ∧ (b = true → T = ⟨ps, s.extract p (p + 16), (m : Int)⟩) := by
  have hex : s.extract p (p + 16) = str ((rem s p).take 16) := by
    have : (s.extract p (p + 16)).data.toList = (rem s p).take 16 := by
      unfold rem
      simp [ByteArray.data_extract, Array.toList_extract, List.extract_eq_take_drop]
    rw [← this, str_of]
  cases b
  · refine ⟨?_, fun h => by cases h⟩
    rcases hx : (showTab ⟨ps, s.extract p (p + 16), (m : Int)⟩ == s.data.toList) with _ | _
    · rfl
    · exfalso
      rw [beq_iff_eq] at hx
      rcases ht : entsTB ⟨ps, s.extract p (p + 16), (m : Int)⟩ with _ | _
      · rw [showTab_not ht] at hx
        have := congrArg List.length hx
        have hsz : s.data.toList.length = s.size := by simp
        rw [hsz] at this
        simp at this
        omega
      · exact (hC.no rfl).2 _ ht hx
  · obtain ⟨a1, a2, a3, a4, a5, a6⟩ := h.all hC (.inr hk) rfl
    rw [hv] at a5
    simp only [Option.some.injEq, Prod.mk.injEq] at a5
    obtain ⟨rfl, rfl⟩ := a5
    have hT : T = ⟨ps, s.extract p (p + 16), ((T.top.toNat : Nat) : Int)⟩ := by rw [a2, a6, hex, a4, str_of]
    refine ⟨?_, fun _ => hT⟩
    rw [← hT, (hC.yes rfl).2]
    simp
end Sp
end Go.Proofs.Ytfbbdnicplbmdaa

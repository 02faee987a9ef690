
/- Walks: MemGet of both sides; the law. -/
import Derived.Test.YtfbbdnicplbmdaaMemW
import Derived.Test.YtfbbdnicplbmdaaKEntA
set_option linter.unusedVariables false
set_option linter.unusedSimpArgs false
namespace Go.Proofs.Ytfbbdnicplbmdaa
open Go.RowKit Sp Go.Sort
namespace Sp
def zE : EntR := ⟨ByteArray.empty, 0, false, ByteArray.empty⟩
def getE (key : ByteArray) (seq : Int) : List EntR → EntR × Bool
  | [] => (zE, false)
  | x :: t => if (x.key.toList == key.toList && decide (x.seq ≤ seq)) then (x, true) else getE key seq t
theorem getE_hit {key : ByteArray} {seq : Int} {l : List EntR} {k : Nat} (h : k < l.length) (h1 : (l[k].key.toList == key.toList) = true) (h2 : l[k].seq ≤ seq) : getE key seq (l.drop k) = (l[k], true) := by
  rw [List.drop_eq_getElem_cons h]; simp only [getE, h1, Bool.true_and, decide_eq_true h2, if_true]
theorem getE_miss {key : ByteArray} {seq : Int} {l : List EntR} {k : Nat} (h : k < l.length) (h1 : (l[k].key.toList == key.toList) = false ∨ ¬ l[k].seq ≤ seq) : getE key seq (l.drop k) = getE key seq (l.drop (k + 1)) := by
  rw [List.drop_eq_getElem_cons h]
  have hc : (l[k].key.toList == key.toList && decide (l[k].seq ≤ seq)) = false := by
    rcases h1 with h1 | h1
    · rw [h1, Bool.false_and]
    · rw [decide_eq_false h1, Bool.and_false]
  rw [getE, hc]
  simp
theorem getE_end (key : ByteArray) (seq : Int) (l : List EntR) : getE key seq (l.drop l.length) = (zE, false) := by simp [getE]
def memGetE (l : List EntR) (key : ByteArray) (seq : Int) : EntR × Bool := if memB l then getE key seq l else (zE, false)
end Sp

set_option maxRecDepth 100000 in
set_option maxHeartbeats 1600000 in
theorem specGet_any (v : Value) (l : List EntR) (key : ByteArray) (seq : Int) (w : World) (h : SlT EntR.cells 4 w v l) (hl : (l.length : Int) ≤ 1048576) :
    Calls Try.prog 73 #[v, .string key, .int .i64 seq] w fun e w' => e = .returned (.tuple #[.agg #[.string (getE key seq l).1.key, .int .i64 (getE key seq l).1.seq, .bool (getE key seq l).1.del, .string (getE key seq l).1.val], .bool (getE key seq l).2]) ∧ Below w.heap.size w w' := by
  obtain ⟨ao, cap, rfl, hlc, hcm, hsh⟩ := h.shape
  have hbox : ∀ o : Obj, RowKit.Below w.heap.size w (w.alloc o) := fun o => (Below.refl _ _).alloc (Nat.le_refl _) _
  go_enter Try.func73, Try.ntmps73
  go_wp2
  go_loop [8] (fun i => ∃ k : Nat, (k : Int) ≤ l.length ∧ i = .int .i64 k ∧ getE key seq l = getE key seq (l.drop k)) (fun i => l.length - (intOf i).toNat)
  case atStart => exact ⟨0, by omega, rfl, rfl⟩
  case round =>
    obtain ⟨k, hk, rfl, hg⟩ := hrel
    by_cases hlt : (k : Int) < l.length
    · have hltn : k < l.length := by omega
      obtain ⟨b, off, rfl, hb, hc⟩ := hsh (by omega)
      have hc0 : w.cell? ⟨b, off + k * 4, none⟩ = some (.string l[k].key) := hc k hltn 0 _ rfl
      have hc1 : w.cell? ⟨b, off + k * 4 + 1, none⟩ = some (.int .i64 l[k].seq) := hc k hltn 1 _ rfl
      have hc2 : w.cell? ⟨b, off + k * 4 + 2, none⟩ = some (.bool l[k].del) := hc k hltn 2 _ rfl
      have hc3 : w.cell? ⟨b, off + k * 4 + 3, none⟩ = some (.string l[k].val) := hc k hltn 3 _ rfl
      clear hsh h hc
      rcases he : (l[k].key.toList == key.toList) with _ | _
      · have hg2 := hg.trans (getE_miss hltn (.inl he))
        clear hg
        have HG := Lib.hid hg2
        clear hg2
        go_wp2
        go_round
        case rel => exact ⟨k + 1, by omega, by go_num, HG.out⟩
        case measure => simp [intOf]; omega
      · by_cases hs : l[k].seq ≤ seq
        · have hg2 := hg.trans (getE_hit hltn he hs)
          have HG := Lib.hid hg2
          clear hg hg2
          go_wp2
          refine bodyPost_ret (v := .tuple #[.agg #[.string l[k].key, .int .i64 l[k].seq, .bool l[k].del, .string l[k].val], .bool true]) (by simp [results, Try.results73, go_sem]) rfl ⟨?_, ?_⟩
          · rw [HG.out]
          · exact hbox _
        · have hg2 := hg.trans (getE_miss hltn (.inr hs))
          clear hg
          have HG := Lib.hid hg2
          clear hg2
          go_wp2
          go_round
          case rel => exact ⟨k + 1, by omega, by go_num, HG.out⟩
          case measure => simp [intOf]; omega
    · obtain rfl : k = l.length := by omega
      have hg2 := hg.trans (getE_end key seq l)
      have HG := Lib.hid hg2
      clear hg hg2 hsh h
      go_wp2
      refine bodyPost_ret (v := .tuple #[.agg #[.string (ByteArray.mk #[]), .int .i64 0, .bool false, .string (ByteArray.mk #[])], .bool false]) (by simp [results, Try.results73, go_sem]) rfl ⟨?_, ?_⟩
      · rw [HG.out]; rfl
      · exact hbox _

set_option maxRecDepth 100000 in
set_option maxHeartbeats 1600000 in
theorem implGet_any (v : Value) (l : List EntR) (key : ByteArray) (seq : Int) (w : World) (h : SlT EntR.cells 4 w v l) (hl : (l.length : Int) ≤ 1048576) :
    Calls Try.prog 68 #[v, .string key, .int .i64 seq] w fun e w' => e = .returned (.tuple #[.agg #[.string (getE key seq l).1.key, .int .i64 (getE key seq l).1.seq, .bool (getE key seq l).1.del, .string (getE key seq l).1.val], .bool (getE key seq l).2]) ∧ Below w.heap.size w w' := by
  obtain ⟨ao, cap, rfl, hlc, hcm, hsh⟩ := h.shape
  have hbox : ∀ o : Obj, RowKit.Below w.heap.size w (w.alloc o) := fun o => (Below.refl _ _).alloc (Nat.le_refl _) _
  have r0 : (w.alloc (.cells #[.string (ByteArray.mk #[]), .int .i64 0, .bool false, .string (ByteArray.mk #[])] 30)).ownsRow w.heap.size 30 4 (.slice (some ⟨w.heap.size, 0, none⟩) 1 1) 1 [.string ByteArray.empty, .int .i64 0, .bool false, .string ByteArray.empty] := World.ownsRow_lit w #[.string ByteArray.empty, .int .i64 0, .bool false, .string ByteArray.empty] 1 (Nat.le_refl _) (by simp [maxLen]) rfl
  go_enter Try.func68, Try.ntmps68
  go_wp2
  go_loopw [12] (fun i wr => ∃ k : Nat, (k : Int) ≤ l.length ∧ i = .int .i64 k ∧ getE key seq l = getE key seq (l.drop k) ∧ wr.ownsRow w.heap.size 30 4 (.slice (some ⟨w.heap.size, 0, none⟩) 1 1) 1 [.string ByteArray.empty, .int .i64 0, .bool false, .string ByteArray.empty] ∧ Below w.heap.size w wr) (fun i _ => l.length - (intOf i).toNat)
  case atStart => exact ⟨0, by omega, rfl, rfl, r0, hbox _⟩
  case round =>
    obtain ⟨k, hk, rfl, hg, hr, hbl⟩ := hrel
    clear r0
    have hzb : w.heap.size < wr.heap.size := (hr.lt _ rfl).2
    by_cases hlt : (k : Int) < l.length
    · have hltn : k < l.length := by omega
      obtain ⟨b, off, rfl, hb, hc⟩ := hsh (by omega)
      have hc0 : wr.cell? ⟨b, off + k * 4, none⟩ = some (.string l[k].key) := (hbl.cell (by exact hb)).trans (hc k hltn 0 _ rfl)
      have hc1 : wr.cell? ⟨b, off + k * 4 + 1, none⟩ = some (.int .i64 l[k].seq) := (hbl.cell (by exact hb)).trans (hc k hltn 1 _ rfl)
      have hc2 : wr.cell? ⟨b, off + k * 4 + 2, none⟩ = some (.bool l[k].del) := (hbl.cell (by exact hb)).trans (hc k hltn 2 _ rfl)
      have hc3 : wr.cell? ⟨b, off + k * 4 + 3, none⟩ = some (.string l[k].val) := (hbl.cell (by exact hb)).trans (hc k hltn 3 _ rfl)
      have hra := hr.alloc (.cells #[.string l[k].key, .int .i64 l[k].seq, .bool l[k].del, .string l[k].val] 30)
      have xa := hbl.alloc hbl.size (.cells #[.string l[k].key, .int .i64 l[k].seq, .bool l[k].del, .string l[k].val] 30)
      clear hsh h hc
      rcases he : (l[k].key.toList == key.toList) with _ | _
      · have hg2 := hg.trans (getE_miss hltn (.inl he))
        clear hg
        have HG := Lib.hid hg2
        clear hg2 hr
        go_wp2
        go_roundw
        case rel => exact ⟨k + 1, by omega, by go_num, HG.out, hra, xa⟩
        case measure => simp [intOf]; omega
      · by_cases hs : l[k].seq ≤ seq
        · have hg2 := hg.trans (getE_hit hltn he hs)
          have HG := Lib.hid hg2
          have d0 : wr.cell? ⟨w.heap.size, 0, none⟩ = some (.string ByteArray.empty) := by have := hr.cells (g := w.heap.size) rfl 0 _ rfl; rw [add_none] at this; exact this
          have d1 : wr.cell? ⟨w.heap.size, 1, none⟩ = some (.int .i64 0) := by have := hr.cells (g := w.heap.size) rfl 1 _ rfl; rw [add_none] at this; exact this
          have d2 : wr.cell? ⟨w.heap.size, 2, none⟩ = some (.bool false) := by have := hr.cells (g := w.heap.size) rfl 2 _ rfl; rw [add_none] at this; exact this
          have d3 : wr.cell? ⟨w.heap.size, 3, none⟩ = some (.string ByteArray.empty) := by have := hr.cells (g := w.heap.size) rfl 3 _ rfl; rw [add_none] at this; exact this
          have z := hr.frozenAt
          clear hg hg2 hr
          go_wp2
          refine bodyPost_ret (v := .tuple #[.agg #[.string l[k].key, .int .i64 l[k].seq, .bool l[k].del, .string l[k].val], .bool true]) (by simp [results, Try.results68, go_sem, d0, d1, d2, d3, hzb, Nat.ne_of_lt hzb, Nat.ne_of_gt hzb]) rfl ⟨?_, ?_⟩
          · rw [HG.out]
          · have hsb := Below.setCell (Below.setCell (Below.setCell (Below.setCell (hbl) (p := ⟨w.heap.size, 0, none⟩) (Nat.le_refl _) (.string l[k].key)) (p := ⟨w.heap.size, 1, none⟩) (Nat.le_refl _) (.int .i64 l[k].seq)) (p := ⟨w.heap.size, 2, none⟩) (Nat.le_refl _) (.bool l[k].del)) (p := ⟨w.heap.size, 3, none⟩) (Nat.le_refl _) (.string l[k].val)
            exact hsb.alloc hsb.size _
        · have hg2 := hg.trans (getE_miss hltn (.inr hs))
          clear hg
          have HG := Lib.hid hg2
          clear hg2 hr
          go_wp2
          go_roundw
          case rel => exact ⟨k + 1, by omega, by go_num, HG.out, hra, xa⟩
          case measure => simp [intOf]; omega
    · obtain rfl : k = l.length := by omega
      have hg2 := hg.trans (getE_end key seq l)
      have HG := Lib.hid hg2
      have d0 : wr.cell? ⟨w.heap.size, 0, none⟩ = some (.string ByteArray.empty) := by have := hr.cells (g := w.heap.size) rfl 0 _ rfl; rw [add_none] at this; exact this
      have d1 : wr.cell? ⟨w.heap.size, 1, none⟩ = some (.int .i64 0) := by have := hr.cells (g := w.heap.size) rfl 1 _ rfl; rw [add_none] at this; exact this
      have d2 : wr.cell? ⟨w.heap.size, 2, none⟩ = some (.bool false) := by have := hr.cells (g := w.heap.size) rfl 2 _ rfl; rw [add_none] at this; exact this
      have d3 : wr.cell? ⟨w.heap.size, 3, none⟩ = some (.string ByteArray.empty) := by have := hr.cells (g := w.heap.size) rfl 3 _ rfl; rw [add_none] at this; exact this
      have z := hr.frozenAt
      clear hg hg2 hsh h hr
      go_wp2
      refine bodyPost_ret (v := .tuple #[.agg #[.string (ByteArray.mk #[]), .int .i64 0, .bool false, .string (ByteArray.mk #[])], .bool false]) (by simp [results, Try.results68, go_sem, d0, d1, d2, d3]) rfl ⟨?_, ?_⟩
      · rw [HG.out]; rfl
      · exact ((((hbl).setCell (p := ⟨w.heap.size, 0, none⟩) (Nat.le_refl _) _).setCell (p := ⟨w.heap.size, 1, none⟩) (Nat.le_refl _) _).setCell (p := ⟨w.heap.size, 2, none⟩) (Nat.le_refl _) _).setCell (p := ⟨w.heap.size, 3, none⟩) (Nat.le_refl _) _

set_option maxRecDepth 100000 in
set_option maxHeartbeats 1600000 in
theorem specMemGet (v : Value) (l : List EntR) (key : ByteArray) (seq : Int) (w : World) (h : SlT EntR.cells 4 w v l) (hl : (l.length : Int) ≤ 1048576) :
    Calls Try.prog 15 #[v, .string key, .int .i64 seq] w fun e w' => e = .returned (.tuple #[.agg #[.string (memGetE l key seq).1.key, .int .i64 (memGetE l key seq).1.seq, .bool (memGetE l key seq).1.del, .string (memGetE l key seq).1.val], .bool (memGetE l key seq).2]) ∧ Below w.heap.size w w' := by
  have hh := h
  obtain ⟨ao, cap, rfl, hlc, hcm, hsh⟩ := h.shape
  have hbox : ∀ o : Obj, RowKit.Below w.heap.size w (w.alloc o) := fun o => (Below.refl _ _).alloc (Nat.le_refl _) _
  clear hsh
  rcases hm : memB l with _ | _
  · have HG := Lib.hid (show memGetE l key seq = (zE, false) by unfold memGetE; rw [hm]; rfl)
    go_enter Try.func15, Try.ntmps15
    go_wp2_with fail
    refine (specMemOk _ l _ (hh.below (hbox _)) hl).mono ?_
    rintro e w1 ⟨rfl, b1⟩
    rw [hm]
    have x1 := (hbox _).trans (b1.mono (hbox _).size)
    have ca := fun o => (bcell b1).1 w.heap.size o (by simp <;> omega)
    have cf := fun o => (bcell b1).2 w.heap.size o (by simp <;> omega)
    go_wp2
    refine bodyPost_ret (v := .tuple #[.agg #[.string (ByteArray.mk #[]), .int .i64 0, .bool false, .string (ByteArray.mk #[])], .bool false]) (by simp [results, Try.results15, go_sem, ca]) rfl ⟨by rw [HG.out]; rfl, ?_⟩
    exact ((((x1).setCell (p := ⟨w.heap.size, 0, none⟩) (Nat.le_refl _) _).setCell (p := ⟨w.heap.size, 1, none⟩) (Nat.le_refl _) _).setCell (p := ⟨w.heap.size, 2, none⟩) (Nat.le_refl _) _).setCell (p := ⟨w.heap.size, 3, none⟩) (Nat.le_refl _) _
  · have HG := Lib.hid (show memGetE l key seq = getE key seq l by unfold memGetE; rw [hm]; rfl)
    go_enter Try.func15, Try.ntmps15
    go_wp2_with fail
    refine (specMemOk _ l _ (hh.below (hbox _)) hl).mono ?_
    rintro e w1 ⟨rfl, b1⟩
    rw [hm]
    have x1 := (hbox _).trans (b1.mono (hbox _).size)
    have ca := fun o => (bcell b1).1 w.heap.size o (by simp <;> omega)
    have cf := fun o => (bcell b1).2 w.heap.size o (by simp <;> omega)
    have hz1 : w.heap.size < w1.heap.size := Nat.lt_of_lt_of_le (by simp <;> omega) b1.size
    go_wp2_with fail
    refine (specGet_any _ l _ _ _ (hh.below x1) hl).mono ?_
    rintro e w2 ⟨rfl, b2⟩
    have x2 := x1.trans (b2.mono x1.size)
    have cb := fun o => ((bcell b2).1 w.heap.size o hz1).trans (ca o)
    have cg := fun o => ((bcell b2).2 w.heap.size o hz1).trans (cf o)
    have hz2 : w.heap.size < w2.heap.size := Nat.lt_of_lt_of_le hz1 b2.size
    generalize getE key seq l = r at *
    obtain ⟨x, f⟩ := r
    go_wp2
    refine bodyPost_ret (v := .tuple #[.agg #[.string x.key, .int .i64 x.seq, .bool x.del, .string x.val], .bool f]) (by simp [results, Try.results15, go_sem, cb, hz2, Nat.ne_of_lt hz2, Nat.ne_of_gt hz2]) rfl ⟨by rw [HG.out], ?_⟩
    have hsb := Below.setCell (Below.setCell (Below.setCell (Below.setCell (x2) (p := ⟨w.heap.size, 0, none⟩) (Nat.le_refl _) (.string x.key)) (p := ⟨w.heap.size, 1, none⟩) (Nat.le_refl _) (.int .i64 x.seq)) (p := ⟨w.heap.size, 2, none⟩) (Nat.le_refl _) (.bool x.del)) (p := ⟨w.heap.size, 3, none⟩) (Nat.le_refl _) (.string x.val)
    exact hsb.alloc hsb.size _

end Go.Proofs.Ytfbbdnicplbmdaa

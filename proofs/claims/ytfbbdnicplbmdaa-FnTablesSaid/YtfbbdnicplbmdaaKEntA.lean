
/- Walks: the laws' helpers for Ent: its size, its copy, its comparison. -/
import Derived.Test.YtfbbdnicplbmdaaTypes
import Derived.Test.YtfbbdnicplbmdaaLaws
import Derived.Test.YtfbbdnicplbmdaaRep
import Derived.Test.YtfbbdnicplbmdaaSlices
import Derived.WalkKit
import Derived.WalkSpells
import Derived.WalkLawsBesides
import Derived.BigQuiet
import Derived.Lib.QuietBelow
import Derived.Lib.Hide
set_option linter.unusedVariables false
set_option linter.unusedSimpArgs false
namespace Go.Proofs.Ytfbbdnicplbmdaa
open Go.RowKit Sp Go.Sort

theorem info_Ent : (Try.prog.info? 30).map (fun i => (i.zero, i.size, i.bytes)) = some (some (.agg #[.string ByteArray.empty, .int .i64 0, .bool false, .string ByteArray.empty]), 4, 48) := by kernel_rfl

theorem EntR.len (x : EntR) : x.cells.length = 4 := rfl

set_option maxRecDepth 100000 in
set_option maxHeartbeats 400000 in
theorem szEnt_any (x : EntR) (hx : x.ok) (left : Int) (w : World) (h0 : 0 ≤ left) (h1 : left ≤ 1048576) :
    Calls Try.prog 122 #[.agg #[.string x.key, .int .i64 x.seq, .bool x.del, .string x.val], .int .i64 left] w fun e w' => e = .returned (.int .i64 (dec left x.sz)) ∧ Below w.heap.size w w' := by
  obtain ⟨key, seq, del, val⟩ := x
  obtain ⟨hx0, hx1, hx2, hx3⟩ := hx
  simp only [szOk, inI64] at hx0 hx1 hx3
  by_cases c0 : left - (key.size : Int) < 0
  · go_enter Try.func122, Try.ntmps122
    go_wp2
    go_ret
    exact ⟨by rw [dec_neg (by simp only [EntR.sz]; omega)]; rfl, (Below.refl _ _).alloc (Nat.le_refl _) _⟩
  by_cases c1 : left - (key.size : Int) - (val.size : Int) < 0
  · go_enter Try.func122, Try.ntmps122
    go_wp2
    go_ret
    exact ⟨by rw [dec_neg (by simp only [EntR.sz]; omega)]; rfl, (Below.refl _ _).alloc (Nat.le_refl _) _⟩
  go_enter Try.func122, Try.ntmps122
  go_wp2
  go_ret
  exact ⟨by rw [dec_pos (by simp only [EntR.sz]; omega)] <;> exact ret_int (by simp only [EntR.sz] <;> omega), (Below.refl _ _).alloc (Nat.le_refl _) _⟩

set_option maxRecDepth 100000 in
set_option maxHeartbeats 800000 in
theorem szEntS_any (v : Value) (l : List EntR) (hok : ∀ x ∈ l, x.ok) (left : Int) (w : World) (h : SlT EntR.cells 4 w v l) (h0 : 0 ≤ left) (h1 : left ≤ 1048576) :
    Calls Try.prog 49 #[v, .int .i64 left] w fun e w' => e = .returned (.int .i64 (dec left (l.length + sumSz EntR.sz l))) ∧ Below w.heap.size w w' := by
  obtain ⟨ao, cap, rfl, hlc, hcm, hsh⟩ := h.shape
  have hnn := sumSz_nonneg EntR.sz_nonneg l
  by_cases hn : left - (l.length : Int) < 0
  · clear hsh h
    go_enter Try.func49, Try.ntmps49
    go_wp2
    go_ret
    exact ⟨by rw [dec_neg (by omega)]; rfl, Below.refl _ _⟩
  have hn' : decide (left - (l.length : Int) < 0) = false := decide_eq_false hn
  go_enter Try.func49, Try.ntmps49
  go_wp2
  go_loopw [1, 5] (fun a i wr => ∃ k : Nat, (k : Int) ≤ l.length ∧ i = .int .i64 k ∧ a = .int .i64 (left - l.length - sumSz EntR.sz (l.take k)) ∧ 0 ≤ left - l.length - sumSz EntR.sz (l.take k) ∧ Below w.heap.size w wr) (fun _ i _ => l.length - (intOf i).toNat)
  case atStart => exact ⟨0, by omega, rfl, by simp [sumSz], by simp [sumSz]; omega, Below.refl _ _⟩
  case round =>
    obtain ⟨k, hk, rfl, rfl, hge, hbl⟩ := hrel
    have hnk := sumSz_nonneg EntR.sz_nonneg (l.take k)
    by_cases hlt : (k : Int) < l.length
    · have hltn : k < l.length := by omega
      obtain ⟨b, off, rfl, hbc, hcc⟩ := hsh (by omega)
      have c0 : wr.cell? ⟨b, off + k * 4, none⟩ = some (.string l[k].key) := (hbl.cell (by exact hbc)).trans (hcc k hltn 0 _ rfl)
      have c1 : wr.cell? ⟨b, off + k * 4 + 1, none⟩ = some (.int .i64 l[k].seq) := (hbl.cell (by exact hbc)).trans (hcc k hltn 1 _ rfl)
      have c2 : wr.cell? ⟨b, off + k * 4 + 2, none⟩ = some (.bool l[k].del) := (hbl.cell (by exact hbc)).trans (hcc k hltn 2 _ rfl)
      have c3 : wr.cell? ⟨b, off + k * 4 + 3, none⟩ = some (.string l[k].val) := (hbl.cell (by exact hbc)).trans (hcc k hltn 3 _ rfl)
      have hst := sumSz_step EntR.sz l k hltn
      have hmo := sumSz_take_le EntR.sz_nonneg l (k + 1)
      have hxo := hok l[k] (by simp)
      have hzz := EntR.sz_nonneg l[k]
      have HST := Lib.hid hst
      have HC := Lib.hid hcc
      have HS := Lib.hid hsh
      have HX := Lib.hid hxo
      have HO := Lib.hid hok
      clear hst hcc hsh h hxo hok
      generalize sumSz EntR.sz (l.take k) = q at *
      by_cases hd : left - l.length - q - EntR.sz l[k] < 0
      · have hdd := dec_neg hd
        go_wp2_with (go_at_call 122; refine (szEnt_any l[k] HX.out _ _ (by omega) (by omega)).mono ?_; rintro e w1 ⟨rfl, hb1⟩; have hb2 := hbl.trans (hb1.mono hbl.size))
        go_ret
        exact ⟨by rw [dec_neg (by have := HST.out; omega)]; rfl, hb2⟩
      · have hdd := dec_pos hd
        have hd' : 0 ≤ left - l.length - q - EntR.sz l[k] := by omega
        have hd'' : decide (left - l.length - q - EntR.sz l[k] < 0) = false := decide_eq_false hd
        go_wp2_with (go_at_call 122; refine (szEnt_any l[k] HX.out _ _ (by omega) (by omega)).mono ?_; rintro e w1 ⟨rfl, hb1⟩; have hb2 := hbl.trans (hb1.mono hbl.size))
        go_roundw
        case rel => exact ⟨k + 1, by omega, by go_num, by rw [HST.out]; exact congrArg (Value.int .i64) (by omega), by rw [HST.out]; omega, hb2⟩
        case measure => simp [intOf]; omega
    · obtain rfl : k = l.length := by omega
      rw [List.take_length] at *
      clear hsh h hok
      go_wp2
      go_ret
      exact ⟨by rw [dec_pos (by omega)]; exact ret_int (by omega), hbl⟩

set_option maxRecDepth 100000 in
set_option maxHeartbeats 400000 in
theorem toEnt_any (key : ByteArray) (seq : Int) (del : Bool) (val : ByteArray) (w : World) :
    Calls Try.prog 125 #[.agg #[.string key, .int .i64 seq, .bool del, .string val]] w fun e w' => e = .returned (.agg #[.string key, .int .i64 seq, .bool del, .string val]) ∧ Below w.heap.size w w' := by
  go_enter Try.func125, Try.ntmps125
  go_wp2
  refine bodyPost_ret (v := .agg #[.string key, .int .i64 seq, .bool del, .string val]) (by simp [results, Try.results125, go_sem]) rfl ⟨rfl, ?_⟩
  repeat (first | exact Below.refl _ _ | refine Below.setCell ?_ (by simp <;> omega) _ | refine Below.alloc ?_ (by simp <;> omega) _)

theorem zeros_Ent (n : Nat) : (madeCells (Value.agg #[.string ByteArray.empty, .int .i64 0, .bool false, .string ByteArray.empty]).cells (n * 4)).toList = (List.replicate n [.string ByteArray.empty, .int .i64 0, .bool false, .string ByteArray.empty]).flatten := madeCells_rows #[.string ByteArray.empty, .int .i64 0, .bool false, .string ByteArray.empty] n
set_option maxRecDepth 100000 in
set_option maxHeartbeats 800000 in
theorem toEntS_any (v : Value) (l : List EntR) (w : World) (h : SlT EntR.cells 4 w v l) (hl : (l.length : Int) ≤ 1048576) :
    Calls Try.prog 51 #[v] w fun e w' => ∃ g, e = .returned (.slice (some ⟨g, 0, none⟩) l.length l.length) ∧ w'.ownsRow w.heap.size 30 4 (.slice (some ⟨g, 0, none⟩) l.length l.length) l.length (l.map EntR.cells).flatten ∧ Below w.heap.size w w' := by
  obtain ⟨ao, cap, rfl, hlc, hcm, hsh⟩ := h.shape
  go_enter Try.func51, Try.ntmps51
  go_wp2_with (at_make; refine mk_full rfl rfl Try.underlying33 info_Ent l.length rfl rfl rfl (by omega) w.heap.size (Below.refl _ _) (Nat.le_refl _) (Nat.le_refl _) ?_; intro w1 hown hb1 hg1)
  rw [zeros_Ent] at hown
  clear hg1
  go_loopw [4] (fun i wr => ∃ k : Nat, (k : Int) ≤ l.length ∧ i = .int .i64 k ∧ wr.ownsRow w.heap.size 30 4 (.slice (some ⟨w.heap.size, 0, none⟩) l.length l.length) l.length (copied (l.map EntR.cells) [.string ByteArray.empty, .int .i64 0, .bool false, .string ByteArray.empty] k).flatten ∧ Below w.heap.size w wr) (fun i _ => l.length - (intOf i).toNat)
  case atStart => exact ⟨0, by omega, rfl, by rw [copied_zero, List.length_map]; exact hown, hb1⟩
  case round =>
    obtain ⟨k, hk, rfl, hr, hbl⟩ := hrel
    by_cases hlt : (k : Int) < l.length
    · have hltn : k < l.length := by omega
      obtain ⟨b, off, rfl, hbc, hcc⟩ := hsh (by omega)
      have c0 : wr.cell? ⟨b, off + k * 4, none⟩ = some (.string l[k].key) := (hbl.cell (by exact hbc)).trans (hcc k hltn 0 _ rfl)
      have c1 : wr.cell? ⟨b, off + k * 4 + 1, none⟩ = some (.int .i64 l[k].seq) := (hbl.cell (by exact hbc)).trans (hcc k hltn 1 _ rfl)
      have c2 : wr.cell? ⟨b, off + k * 4 + 2, none⟩ = some (.bool l[k].del) := (hbl.cell (by exact hbc)).trans (hcc k hltn 2 _ rfl)
      have c3 : wr.cell? ⟨b, off + k * 4 + 3, none⟩ = some (.string l[k].val) := (hbl.cell (by exact hbc)).trans (hcc k hltn 3 _ rfl)
      have hst := copied_step (l.map EntR.cells) [.string ByteArray.empty, .int .i64 0, .bool false, .string ByteArray.empty] k (by simpa using hltn)
      rw [List.getElem_map] at hst
      have HST := Lib.hid hst
      have HR := Lib.hid hr
      have HC := Lib.hid hcc
      have HS := Lib.hid hsh
      clear hst hcc hsh h hr hown
      go_wp2_with (go_at_call 125; refine (toEnt_any _ _ _ _ _).mono ?_; rintro e w2 ⟨rfl, hb2⟩; have hr2 := own_below HR.out hb2; have hb3 := hbl.trans (hb2.mono hbl.size); obtain ⟨u0, q0⟩ := cell_owns hr2 (k * 4) (by omega); have fz0 := hr2.frozenAt; have hs0 := (hr2.stored (k * 4) (.string l[k].key)).1; obtain ⟨u1, q1⟩ := cell_owns hs0 (k * 4 + 1) (by omega); have fz1 := hs0.frozenAt; have hs1 := (hs0.stored (k * 4 + 1) (.int .i64 l[k].seq)).1; obtain ⟨u2, q2⟩ := cell_owns hs1 (k * 4 + 2) (by omega); have fz2 := hs1.frozenAt; have hs2 := (hs1.stored (k * 4 + 2) (.bool l[k].del)).1; obtain ⟨u3, q3⟩ := cell_owns hs2 (k * 4 + 3) (by omega); have fz3 := hs2.frozenAt; have hsz2 : w.heap.size < w2.heap.size := (hr2.lt _ rfl).2)
      have hs := own_row4 hr2 (copied_size (size := 4) (ll := l.map EntR.cells) (z := [.string ByteArray.empty, .int .i64 0, .bool false, .string ByteArray.empty]) (k := k) (fun c hc => by obtain ⟨x, _, rfl⟩ := List.mem_map.1 hc; rfl) rfl) k (by rw [copied_length (by simp; omega)]; simpa using hltn) (.string l[k].key) (.int .i64 l[k].seq) (.bool l[k].del) (.string l[k].val)
      go_roundw
      case rel => exact ⟨k + 1, by omega, by go_num, by rw [HST.out]; exact hs, (Below.setCell (Below.setCell (Below.setCell (Below.setCell hb3 (Nat.le_refl _) _) (Nat.le_refl _) _) (Nat.le_refl _) _) (Nat.le_refl _) _)⟩
      case measure => simp [intOf]; omega
    · obtain rfl : k = l.length := by omega
      clear hsh h hown
      go_wp2
      go_ret
      exact ⟨_, rfl, by rw [copied_full (by simp)] at hr; exact hr, hbl⟩

set_option maxRecDepth 100000 in
set_option maxHeartbeats 400000 in
theorem eqEnt_any (key : ByteArray) (seq : Int) (del : Bool) (val : ByteArray) (w : World) :
    Calls Try.prog 62 #[.agg #[.string key, .int .i64 seq, .bool del, .string val], .agg #[.string key, .int .i64 seq, .bool del, .string val]] w fun e w' => e = .returned (.bool true) ∧ Below w.heap.size w w' := by
  go_enter Try.func62, Try.ntmps62
  go_wp2
  go_ret
  exact ⟨rfl, ((Below.refl _ _).alloc (Nat.le_refl _) _).alloc (by simp <;> omega) _⟩

set_option maxRecDepth 100000 in
set_option maxHeartbeats 800000 in
theorem eqEntS_any (v v' : Value) (l : List EntR) (w : World) (h : SlT EntR.cells 4 w v l) (h' : SlT EntR.cells 4 w v' l) (hl : (l.length : Int) ≤ 1048576) :
    Calls Try.prog 53 #[v, v'] w fun e w' => e = .returned (.bool true) ∧ Below w.heap.size w w' := by
  obtain ⟨ao, cap, rfl, hlc, hcm, hsh⟩ := h.shape
  obtain ⟨ao', cap', rfl, hlc', hcm', hsh'⟩ := h'.shape
  go_enter Try.func53, Try.ntmps53
  go_wp2
  go_loopw [5] (fun i wr => ∃ k : Nat, (k : Int) ≤ l.length ∧ i = .int .i64 k ∧ Below w.heap.size w wr) (fun i _ => l.length - (intOf i).toNat)
  case atStart => exact ⟨0, by omega, rfl, Below.refl _ _⟩
  case round =>
    obtain ⟨k, hk, rfl, hbl⟩ := hrel
    by_cases hlt : (k : Int) < l.length
    · have hltn : k < l.length := by omega
      obtain ⟨b, off, rfl, hbc, hcc⟩ := hsh (by omega)
      obtain ⟨b', off', rfl, hbd, hcd⟩ := hsh' (by omega)
      have c0 : wr.cell? ⟨b, off + k * 4, none⟩ = some (.string l[k].key) := (hbl.cell (by exact hbc)).trans (hcc k hltn 0 _ rfl)
      have c1 : wr.cell? ⟨b, off + k * 4 + 1, none⟩ = some (.int .i64 l[k].seq) := (hbl.cell (by exact hbc)).trans (hcc k hltn 1 _ rfl)
      have c2 : wr.cell? ⟨b, off + k * 4 + 2, none⟩ = some (.bool l[k].del) := (hbl.cell (by exact hbc)).trans (hcc k hltn 2 _ rfl)
      have c3 : wr.cell? ⟨b, off + k * 4 + 3, none⟩ = some (.string l[k].val) := (hbl.cell (by exact hbc)).trans (hcc k hltn 3 _ rfl)
      have d0 : wr.cell? ⟨b', off' + k * 4, none⟩ = some (.string l[k].key) := (hbl.cell (by exact hbd)).trans (hcd k hltn 0 _ rfl)
      have d1 : wr.cell? ⟨b', off' + k * 4 + 1, none⟩ = some (.int .i64 l[k].seq) := (hbl.cell (by exact hbd)).trans (hcd k hltn 1 _ rfl)
      have d2 : wr.cell? ⟨b', off' + k * 4 + 2, none⟩ = some (.bool l[k].del) := (hbl.cell (by exact hbd)).trans (hcd k hltn 2 _ rfl)
      have d3 : wr.cell? ⟨b', off' + k * 4 + 3, none⟩ = some (.string l[k].val) := (hbl.cell (by exact hbd)).trans (hcd k hltn 3 _ rfl)
      clear hsh h hsh' h' hcc hcd
      have kc0 := cell_regrown c0
      have kc1 := cell_regrown c1
      have kc2 := cell_regrown c2
      have kc3 := cell_regrown c3
      have kd0 := cell_regrown d0
      have kd1 := cell_regrown d1
      have kd2 := cell_regrown d2
      have kd3 := cell_regrown d3
      have cV : ∀ d os, Calls Try.prog 62 #[.agg #[.string l[k].key, .int .i64 l[k].seq, .bool l[k].del, .string l[k].val], .agg #[.string l[k].key, .int .i64 l[k].seq, .bool l[k].del, .string l[k].val]] (grow (redrawn wr d) os) fun e w'' => e = .returned (.bool true) ∧ ∃ p : Regrown, w'' = grow (redrawn wr p.d) p.os := fun d os => Calls.regrown_of (eqEnt_any _ _ _ _ _)
      go_wp2
      refine wp_region_quiet_below (by kernel_rfl) (by kernel_rfl) ?_
      repeat (first | go_big_quiet_step (exact cV _ _) | go_big_quiet_step (fail))
      refine wpQuiet_nil ?_
      intro w2 hw'
      have hb2 : RowKit.Below w.heap.size w w2 := by obtain ⟨p, rfl⟩ := hw'; exact hbl.trans ((below_regrown _ _ _).mono hbl.size)
      clear hw' cV
      go_wp2
      go_roundw
      case rel => exact ⟨k + 1, by omega, by go_num, hb2⟩
      case measure => simp [intOf]; omega
    · obtain rfl : k = l.length := by omega
      clear hsh h hsh' h'
      go_wp2
      go_ret
      exact ⟨rfl, hbl⟩

end Go.Proofs.Ytfbbdnicplbmdaa

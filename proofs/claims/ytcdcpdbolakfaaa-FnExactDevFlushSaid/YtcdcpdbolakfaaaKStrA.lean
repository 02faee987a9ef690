/- Walks: the laws' helpers for slices of strings. -/
import Derived.Test.YtcdcpdbolakfaaaTypes
import Derived.Test.YtcdcpdbolakfaaaLaws
import Derived.Test.YtcdcpdbolakfaaaRep
import Derived.Test.YtcdcpdbolakfaaaSlices
import Derived.WalkKit
import Derived.WalkSpells
import Derived.WalkLawsBesides
import Derived.BigQuiet
import Derived.Lib.QuietBelow
import Derived.Lib.Hide
set_option linter.unusedVariables false
set_option linter.unusedSimpArgs false
namespace Go.Proofs.Ytcdcpdbolakfaaa
open Go.RowKit Sp Go.Sort
theorem info_Str : (Try.prog.info? 9).map (fun i => (i.zero, i.size, i.bytes)) = some (some (.string ByteArray.empty), 1, 16) := by kernel_rfl
namespace Sp
def strSz (x : ByteArray) : Int := x.size
theorem strSz_nonneg (x : ByteArray) : 0 ≤ strSz x := by unfold strSz; omega
end Sp
theorem str_cell {w : World} {b off : Nat} {l : List ByteArray} (h : ∀ i (hi : i < l.length) j u, (strCells l[i])[j]? = some u → w.cell? ⟨b, off + i * 1 + j, none⟩ = some u) (k : Nat) (hk : k < l.length) : w.cell? ⟨b, off + k, none⟩ = some (.string l[k]) := by
  have := h k hk 0 _ rfl
  rw [Nat.mul_one] at this
  exact this

set_option maxRecDepth 100000 in
set_option maxHeartbeats 800000 in
theorem szStrS_any (v : Value) (l : List ByteArray) (hok : ∀ x ∈ l, x.size ≤ maxLen) (left : Int) (w : World) (h : SlT strCells 1 w v l) (h0 : 0 ≤ left) (h1 : left ≤ 1048576) :
    Calls Try.prog 72 #[v, .int .i64 left] w fun e w' => e = .returned (.int .i64 (dec left (l.length + sumSz strSz l))) ∧ Below w.heap.size w w' := by
  obtain ⟨ao, cap, rfl, hlc, hcm, hsh⟩ := h.shape
  have hnn := sumSz_nonneg strSz_nonneg l
  by_cases hn : left - (l.length : Int) < 0
  · clear hsh h
    go_enter Try.func72, Try.ntmps72
    go_wp2
    go_ret
    exact ⟨by rw [dec_neg (by omega)]; rfl, Below.refl _ _⟩
  have hn' : decide (left - (l.length : Int) < 0) = false := decide_eq_false hn
  go_enter Try.func72, Try.ntmps72
  go_wp2
  go_loopw [1, 5] (fun a i wr => ∃ k : Nat, (k : Int) ≤ l.length ∧ i = .int .i64 k ∧ a = .int .i64 (left - l.length - sumSz strSz (l.take k)) ∧ 0 ≤ left - l.length - sumSz strSz (l.take k) ∧ Below w.heap.size w wr) (fun _ i _ => l.length - (intOf i).toNat)
  case atStart => exact ⟨0, by omega, rfl, by simp [sumSz], by simp [sumSz]; omega, Below.refl _ _⟩
  case round =>
    obtain ⟨k, hk, rfl, rfl, hge, hbl⟩ := hrel
    have hnk := sumSz_nonneg strSz_nonneg (l.take k)
    by_cases hlt : (k : Int) < l.length
    · have hltn : k < l.length := by omega
      obtain ⟨b, off, rfl, hbc, hcc⟩ := hsh (by omega)
      have c0 : wr.cell? ⟨b, off + k, none⟩ = some (.string l[k]) := (hbl.cell (by exact hbc)).trans (str_cell hcc k hltn)
      have hst := sumSz_step strSz l k hltn
      have hmo := sumSz_take_le strSz_nonneg l (k + 1)
      have hzz : strSz l[k] = l[k].size := rfl
      have hxo : (l[k].size : Int) ≤ 9223372036854775807 := by have := hok l[k] (by simp); simp only [maxLen] at this; omega
      have HST := Lib.hid hst
      have HZZ := Lib.hid hzz
      clear hsh h hok hcc hzz hst
      generalize sumSz strSz (l.take k) = q at *
      by_cases hd : left - l.length - q - l[k].size < 0
      · go_wp2
        go_ret
        exact ⟨by rw [dec_neg (by have := HST.out; have := HZZ.out; omega)]; rfl, hbl⟩
      · have hd' : decide (left - l.length - q - l[k].size < 0) = false := decide_eq_false hd
        go_wp2
        go_roundw
        case rel => exact ⟨k + 1, by omega, by go_num, by rw [HST.out]; exact congrArg (Value.int .i64) (by have := HZZ.out; omega), by rw [HST.out]; have := HZZ.out; omega, hbl⟩
        case measure => simp [intOf]; omega
    · obtain rfl : k = l.length := by omega
      rw [List.take_length] at *
      clear hsh h hok
      go_wp2
      go_ret
      exact ⟨by rw [dec_pos (by omega)] <;> exact ret_int (by omega), hbl⟩

theorem zeros_Str (n : Nat) : (madeCells (Value.string ByteArray.empty).cells (n * 1)).toList = (List.replicate n [Value.string ByteArray.empty]).flatten := madeCells_rows #[.string ByteArray.empty] n
set_option maxRecDepth 100000 in
set_option maxHeartbeats 800000 in
theorem toStrS_any (v : Value) (l : List ByteArray) (w : World) (h : SlT strCells 1 w v l) (hl : (l.length : Int) ≤ 1048576) :
    Calls Try.prog 74 #[v] w fun e w' => ∃ g, e = .returned (.slice (some ⟨g, 0, none⟩) l.length l.length) ∧ w'.ownsRow w.heap.size 9 1 (.slice (some ⟨g, 0, none⟩) l.length l.length) l.length (l.map strCells).flatten ∧ Below w.heap.size w w' := by
  obtain ⟨ao, cap, rfl, hlc, hcm, hsh⟩ := h.shape
  go_enter Try.func74, Try.ntmps74
  go_wp2_with (at_make; refine mk_full rfl rfl Try.underlying51 info_Str l.length rfl rfl rfl (by omega) w.heap.size (Below.refl _ _) (Nat.le_refl _) (Nat.le_refl _) ?_; intro w1 hown hb1 hg1)
  rw [zeros_Str] at hown
  clear hg1
  go_loopw [4] (fun i wr => ∃ k : Nat, (k : Int) ≤ l.length ∧ i = .int .i64 k ∧ wr.ownsRow w.heap.size 9 1 (.slice (some ⟨w.heap.size, 0, none⟩) l.length l.length) l.length (copied (l.map strCells) [.string ByteArray.empty] k).flatten ∧ Below w.heap.size w wr) (fun i _ => l.length - (intOf i).toNat)
  case atStart => exact ⟨0, by omega, rfl, by rw [copied_zero, List.length_map]; exact hown, hb1⟩
  case round =>
    obtain ⟨k, hk, rfl, hr, hbl⟩ := hrel
    by_cases hlt : (k : Int) < l.length
    · have hltn : k < l.length := by omega
      obtain ⟨b, off, rfl, hbc, hcc⟩ := hsh (by omega)
      have c0 : wr.cell? ⟨b, off + k, none⟩ = some (.string l[k]) := (hbl.cell (by exact hbc)).trans (str_cell hcc k hltn)
      have hst := copied_step (l.map strCells) [.string ByteArray.empty] k (by simpa using hltn)
      rw [List.getElem_map] at hst
      obtain ⟨u0, q0⟩ := cell_owns hr k (by omega)
      have fz := hr.frozenAt
      have hs := own_row1 hr (copied_size (size := 1) (ll := l.map strCells) (z := [.string ByteArray.empty]) (k := k) (fun c hc => by obtain ⟨x, _, rfl⟩ := List.mem_map.1 hc; rfl) rfl) k (by rw [copied_length (by simp; omega)]; simpa using hltn) (.string l[k])
      rw [Nat.mul_one] at hs
      have HST := Lib.hid hst
      have HS2 := Lib.hid hs
      have hsz : w.heap.size < wr.heap.size := (hr.lt _ rfl).2
      have HR := Lib.hid hr
      clear hst hcc hsh h hown hs hr
      go_wp2
      go_roundw
      case rel => exact ⟨k + 1, by omega, by go_num, by rw [HST.out]; exact HS2.out, Below.setCell hbl (Nat.le_refl _) _⟩
      case measure => simp [intOf]; omega
    · obtain rfl : k = l.length := by omega
      clear hsh h hown
      go_wp2
      go_ret
      exact ⟨_, rfl, by rw [copied_full (by simp)] at hr; exact hr, hbl⟩

set_option maxRecDepth 100000 in
set_option maxHeartbeats 800000 in
theorem eqStrS_any (v v' : Value) (l : List ByteArray) (w : World) (h : SlT strCells 1 w v l) (h' : SlT strCells 1 w v' l) (hl : (l.length : Int) ≤ 1048576) :
    Calls Try.prog 76 #[v, v'] w fun e w' => e = .returned (.bool true) ∧ Below w.heap.size w w' := by
  obtain ⟨ao, cap, rfl, hlc, hcm, hsh⟩ := h.shape
  obtain ⟨ao', cap', rfl, hlc', hcm', hsh'⟩ := h'.shape
  go_enter Try.func76, Try.ntmps76
  go_wp2
  go_loopw [5] (fun i wr => ∃ k : Nat, (k : Int) ≤ l.length ∧ i = .int .i64 k ∧ Below w.heap.size w wr) (fun i _ => l.length - (intOf i).toNat)
  case atStart => exact ⟨0, by omega, rfl, Below.refl _ _⟩
  case round =>
    obtain ⟨k, hk, rfl, hbl⟩ := hrel
    by_cases hlt : (k : Int) < l.length
    · have hltn : k < l.length := by omega
      obtain ⟨b, off, rfl, hbc, hcc⟩ := hsh (by omega)
      obtain ⟨b', off', rfl, hbd, hcd⟩ := hsh' (by omega)
      have c0 : wr.cell? ⟨b, off + k, none⟩ = some (.string l[k]) := (hbl.cell (by exact hbc)).trans (str_cell hcc k hltn)
      have d0 : wr.cell? ⟨b', off' + k, none⟩ = some (.string l[k]) := (hbl.cell (by exact hbd)).trans (str_cell hcd k hltn)
      clear hsh h hsh' h' hcc hcd
      go_wp2
      go_quiet (fail)
      go_wp2
      go_roundw
      case rel => exact ⟨k + 1, by omega, by go_num, below_drewN hbl _⟩
      case measure => simp [intOf]; omega
    · obtain rfl : k = l.length := by omega
      clear hsh h hsh' h'
      go_wp2
      go_ret
      exact ⟨rfl, hbl⟩
end Go.Proofs.Ytcdcpdbolakfaaa

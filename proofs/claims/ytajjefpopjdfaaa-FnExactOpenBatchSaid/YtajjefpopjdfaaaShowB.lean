/- Walks: ShowBatch of both sides. -/
import Derived.Test.YtajjefpopjdfaaaBldW
import Derived.Test.YtajjefpopjdfaaaPieW
import Derived.Test.YtajjefpopjdfaaaBatchW
import Derived.Test.YtajjefpopjdfaaaShelf
import Derived.Lib.QuietBelow
import Derived.BigQuiet
set_option linter.unusedVariables false
set_option linter.unusedSimpArgs false
namespace Go.Proofs.Ytajjefpopjdfaaa
open Go.RowKit Sp Go.Sort
attribute [local go_sem] str_size str_append
namespace Sp
def opL (x : OpR) : List UInt8 := if x.del then 1 :: pieL x.key.data.toList else 0 :: (pieL x.key.data.toList ++ pieL x.val.data.toList)
def opsL (l : List OpR) : List UInt8 := l.flatMap opL
def showBL (l : List OpR) : List UInt8 := if batchB l then varL l.length ++ opsL l else []
theorem opsL_snoc (l : List OpR) (k : Nat) (h : k < l.length) : opsL (l.take (k + 1)) = opsL (l.take k) ++ opL l[k] := by
  rw [show l.take (k + 1) = l.take k ++ [l[k]] from by rw [List.take_add_one, List.getElem?_eq_getElem h]; rfl]
  unfold opsL
  rw [List.flatMap_append, List.flatMap_singleton]
theorem pieL_len (s : ByteArray) : (pieL s.data.toList).length ≤ 7 + s.size := by
  have h4 := varL_length (s.data.toList.length : Int)
  simp [pieL] at *
  omega
theorem opL_len (x : OpR) (h : opR x = true) : (opL x).length ≤ 41 := by
  have h1 := pieL_len x.key
  have h2 := pieL_len x.val
  simp only [opR, opB, keyB, valB, Bool.and_eq_true, inB_iff, decide_eq_true_eq] at h
  unfold opL
  split <;> simp <;> omega
theorem batch_ops {l : List OpR} (h : batchB l = true) : (l.length : Int) ≤ 6 ∧ ∀ k (hk : k < l.length), opR l[k] = true := by
  unfold batchB at h
  rw [Bool.and_eq_true] at h
  refine ⟨(inB_iff.1 h.1).2, fun k hk => ?_⟩
  have := allIx_spec h.2 k hk
  rwa [opAt_in hk] at this
theorem opsL_len {l : List OpR} (h : batchB l = true) (k : Nat) (hk : k ≤ l.length) : (opsL (l.take k)).length ≤ 41 * k := by
  induction k with
  | zero => simp [opsL]
  | succ k ih =>
    rw [opsL_snoc l k (by omega), List.length_append]
    have := opL_len l[k] ((batch_ops h).2 k (by omega))
    have := ih (by omega)
    omega
theorem showBL_not {l : List OpR} (h : batchB l = false) : showBL l = [] := by simp [showBL, h]
theorem showBL_yes {l : List OpR} (h : batchB l = true) : showBL l = varL l.length ++ opsL l := by simp [showBL, h]
end Sp
theorem str_zero (a : List UInt8) : str a ++ (ByteArray.mk #[0]) = str (a ++ [0]) := str_append a [0]
theorem str_one (a : List UInt8) : str a ++ (ByteArray.mk #[1]) = str (a ++ [1]) := str_append a [1]
attribute [local go_sem] str_zero str_one
set_option maxRecDepth 100000 in
theorem flag_no (w : World) : Calls Try.prog 51 #[.bool false] w fun e w' => e = .returned (.string (str [0])) ∧ w = w' := by
  go_enter Try.func51, Try.ntmps51
  go_wp2
  go_ret
  exact ⟨rfl, rfl⟩
set_option maxRecDepth 100000 in
theorem flag_yes (w : World) : Calls Try.prog 51 #[.bool true] w fun e w' => e = .returned (.string (str [1])) ∧ w = w' := by
  go_enter Try.func51, Try.ntmps51
  go_wp2
  go_ret
  exact ⟨rfl, rfl⟩

set_option maxRecDepth 100000 in
set_option maxHeartbeats 1600000 in
theorem specShowBatch (v : Value) (l : List OpR) (w : World) (h : SlT OpR.cells 3 w v l) (hl : (l.length : Int) ≤ 1048576) :
    Calls Try.prog 20 #[v] w fun e w' => e = .returned (.string (str (showBL l))) ∧ Below w.heap.size w w' := by
  have hh := h
  obtain ⟨ao, cap, rfl, hlc, hcm, hsh⟩ := h.shape
  rcases hb : batchB l with _ | _
  · have HR := Lib.hid (showBL_not hb)
    clear hsh
    go_enter Try.func20, Try.ntmps20
    go_wp2_with fail
    refine (specBatchOk _ l _ hh hl).mono ?_
    rintro e w1 ⟨rfl, b1⟩
    rw [hb]
    go_wp2
    go_ret
    exact ⟨by rw [HR.out]; rfl, b1⟩
  · have HR := Lib.hid (showBL_yes hb)
    have hops := batch_ops hb
    have hlen := fun k hk => opsL_len hb k hk
    have HL := Lib.hid hlen
    have HO := Lib.hid hops.2
    have h6 := hops.1
    have vl := varL_length (l.length : Int)
    clear hops hlen
    go_enter Try.func20, Try.ntmps20
    go_wp2_with fail
    refine (specBatchOk _ l _ hh hl).mono ?_
    rintro e w1 ⟨rfl, b1⟩
    rw [hb]
    clear hb
    go_wp2_with fail
    refine (specVar _ _).mono ?_
    rintro e w2 ⟨rfl, b2⟩
    have x2 := b1.trans (b2.mono b1.size)
    go_wp2
    go_loopw [3, 4] (fun s i wr => ∃ k : Nat, (k : Int) ≤ l.length ∧ i = .int .i64 k ∧ s = .string (str (varL l.length ++ opsL (l.take k))) ∧ Below w.heap.size w wr) (fun _ i _ => l.length - (intOf i).toNat)
    case atStart => exact ⟨0, by omega, rfl, by simp [opsL], x2⟩
    case round =>
      obtain ⟨k, hk, rfl, rfl, hbl⟩ := hrel
      by_cases hlt : (k : Int) < l.length
      · have hltn : k < l.length := by omega
        obtain ⟨b, off, rfl, hb, hc⟩ := hsh (by omega)
        have hc0 : wr.cell? ⟨b, off + k * 3, none⟩ = some (.string l[k].key) := (hbl.cell (by exact hb)).trans (hc k hltn 0 _ rfl)
        have hc1 : wr.cell? ⟨b, off + k * 3 + 1, none⟩ = some (.bool l[k].del) := (hbl.cell (by exact hb)).trans (hc k hltn 1 _ rfl)
        have hc2 : wr.cell? ⟨b, off + k * 3 + 2, none⟩ = some (.string l[k].val) := (hbl.cell (by exact hb)).trans (hc k hltn 2 _ rfl)
        have hopk := HO.out k hltn
        have hsz : (l[k].key.size : Int) ≤ 10 ∧ (l[k].val.size : Int) ≤ 16 := by
          simp only [opR, opB, keyB, valB, Bool.and_eq_true, inB_iff, decide_eq_true_eq] at hopk
          omega
        have hl1 := HL.out k (by omega)
        have p1 := pieL_len l[k].key
        have p2 := pieL_len l[k].val
        have hsn := opsL_snoc l k hltn
        have hpl : opL l[k] = if l[k].del then 1 :: pieL l[k].key.data.toList else 0 :: (pieL l[k].key.data.toList ++ pieL l[k].val.data.toList) := rfl
        have HS := Lib.hid hsn
        clear hsn hopk hsh h hc
        rcases hd : l[k].del with _ | _
        · rw [hd] at hc1 hpl
          have HP := Lib.hid hpl
          clear hpl
          have kc0 := cell_regrown hc0
          have kc2 := cell_regrown hc2
          have cK : ∀ d os, Calls Try.prog 48 #[.string l[k].key] (grow (redrawn wr d) os) fun e w'' => e = .returned (.string (str (pieL l[k].key.data.toList))) ∧ ∃ p : Regrown, w'' = grow (redrawn wr p.d) p.os := fun d os => Calls.regrown_of (l6Piece_any _ _ (by omega))
          have cV : ∀ d os, Calls Try.prog 48 #[.string l[k].val] (grow (redrawn wr d) os) fun e w'' => e = .returned (.string (str (pieL l[k].val.data.toList))) ∧ ∃ p : Regrown, w'' = grow (redrawn wr p.d) p.os := fun d os => Calls.regrown_of (l6Piece_any _ _ (by omega))
          go_wp2
          refine wp_region_quiet_below (by kernel_rfl) (by kernel_rfl) ?_
          iterate 7 (go_big_quiet_step (fail))
          go_big_quiet_step (exact cK _ _)
          iterate 6 (go_big_quiet_step (fail))
          go_big_quiet_step (exact cV _ _)
          repeat (go_big_quiet_step (fail))
          refine wpQuiet_nil ?_
          intro w4 hw'
          have x4 : RowKit.Below w.heap.size w w4 := by obtain ⟨p, rfl⟩ := hw'; exact hbl.trans ((below_regrown _ _ _).mono hbl.size)
          clear hw' cK cV kc0 kc2
          go_wp2
          go_roundw
          case rel => exact ⟨k + 1, by omega, by go_num, by rw [HS.out, HP.out]; simp, x4⟩
          case measure => simp [intOf]; omega
        · rw [hd] at hc1 hpl
          have HP := Lib.hid hpl
          clear hpl
          go_wp2_with fail
          refine (l6Piece_any _ _ (by omega)).mono ?_
          rintro e w4 ⟨rfl, b4⟩
          have x4 := hbl.trans (b4.mono hbl.size)
          go_wp2
          go_roundw
          case rel => exact ⟨k + 1, by omega, by go_num, by rw [HS.out, HP.out]; simp, x4⟩
          case measure => simp [intOf]; omega
      · obtain rfl : k = l.length := by omega
        clear hsh h
        go_wp2
        go_ret
        exact ⟨by rw [HR.out]; rfl, hbl⟩

set_option maxRecDepth 100000 in
set_option maxHeartbeats 1600000 in
theorem implShowBatch (v : Value) (l : List OpR) (w : World) (h : SlT OpR.cells 3 w v l) (hl : (l.length : Int) ≤ 1048576) :
    Calls Try.prog 21 #[v] w fun e w' => e = .returned (.string (str (showBL l))) ∧ Below w.heap.size w w' := by
  have hh := h
  obtain ⟨ao, cap, rfl, hlc, hcm, hsh⟩ := h.shape
  rcases hb : batchB l with _ | _
  · have HR := Lib.hid (showBL_not hb)
    clear hsh
    go_enter Try.func21, Try.ntmps21
    go_wp2_with fail
    refine (implBatchOk _ l _ hh hl).mono ?_
    rintro e w1 ⟨rfl, b1⟩
    rw [hb]
    go_wp2
    go_ret
    exact ⟨by rw [HR.out]; rfl, b1⟩
  · have HR := Lib.hid (showBL_yes hb)
    have hops := batch_ops hb
    have hlen := fun k hk => opsL_len hb k hk
    have HL := Lib.hid hlen
    have HO := Lib.hid hops.2
    have h6 := hops.1
    have vl := varL_length (l.length : Int)
    clear hops hlen
    go_enter Try.func21, Try.ntmps21
    go_wp2_with fail
    refine (implBatchOk _ l _ hh hl).mono ?_
    rintro e w1 ⟨rfl, b1⟩
    rw [hb]
    clear hb
    have hbld := Lib.fresh_isBuilder 72 5 w1
    have xb : RowKit.Below w1.heap.size w1 (w1.alloc (.cells #[.pointer none, .slice none 0 0] 72)) := (Below.refl _ _).alloc (Nat.le_refl _) _
    go_wp2_with fail
    refine (implVar _ _).mono ?_
    rintro e w2 ⟨rfl, b2⟩
    have hb2 := bld_below hbld b2
    have x2 : RowKit.Below w.heap.size w w2 := (b1.trans (xb.mono b1.size)).trans (b2.mono (Nat.le_trans b1.size xb.size))
    have hz2 : w1.heap.size < w2.heap.size := Nat.lt_of_lt_of_le (by simp) b2.size
    go_wp2_with fail
    refine (writeStr_any w1.heap.size w1.heap.size [] (str (varL l.length)) _ hb2 (by rw [str_size]; simp; omega) (Nat.le_of_lt hz2)).mono ?_
    rintro e w3 ⟨rfl, hb3, b3, _⟩
    have hb3' : Lib.IsBuilder 72 5 w1.heap.size w1.heap.size (Lib.byteCells (varL l.length ++ opsL (l.take 0))) w3 := by simpa [str_data, opsL] using hb3
    have x3 := x2.trans (b3.mono b1.size)
    have hz3 : w1.heap.size < w3.heap.size := Nat.lt_of_lt_of_le hz2 b3.size
    clear hb3 hb2 hbld xb b2
    go_wp2
    go_loopw [15] (fun i wr => ∃ k : Nat, (k : Int) ≤ l.length ∧ i = .int .i64 k ∧ Lib.IsBuilder 72 5 w1.heap.size w1.heap.size (Lib.byteCells (varL l.length ++ opsL (l.take k))) wr ∧ Below w.heap.size w wr ∧ w1.heap.size < wr.heap.size) (fun i _ => l.length - (intOf i).toNat)
    case atStart => exact ⟨0, by omega, rfl, hb3', x3, hz3⟩
    case round =>
      obtain ⟨k, hk, rfl, hbd, hbl, hzr⟩ := hrel
      clear hb3' x3
      by_cases hlt : (k : Int) < l.length
      · have hltn : k < l.length := by omega
        obtain ⟨b, off, rfl, hb, hc⟩ := hsh (by omega)
        have hc0 : wr.cell? ⟨b, off + k * 3, none⟩ = some (.string l[k].key) := (hbl.cell (by exact hb)).trans (hc k hltn 0 _ rfl)
        have hc1 : wr.cell? ⟨b, off + k * 3 + 1, none⟩ = some (.bool l[k].del) := (hbl.cell (by exact hb)).trans (hc k hltn 1 _ rfl)
        have hc2 : wr.cell? ⟨b, off + k * 3 + 2, none⟩ = some (.string l[k].val) := (hbl.cell (by exact hb)).trans (hc k hltn 2 _ rfl)
        have hopk := HO.out k hltn
        have hsz : (l[k].key.size : Int) ≤ 10 ∧ (l[k].val.size : Int) ≤ 16 := by
          simp only [opR, opB, keyB, valB, Bool.and_eq_true, inB_iff, decide_eq_true_eq] at hopk
          omega
        have hl1 := HL.out k (by omega)
        have p1 := pieL_len l[k].key
        have p2 := pieL_len l[k].val
        have hsn := opsL_snoc l k hltn
        have hpl : opL l[k] = if l[k].del then 1 :: pieL l[k].key.data.toList else 0 :: (pieL l[k].key.data.toList ++ pieL l[k].val.data.toList) := rfl
        have HS := Lib.hid hsn
        have xo : RowKit.Below wr.heap.size wr (wr.alloc (.cells #[.string l[k].key, .bool l[k].del, .string l[k].val] 58)) := (Below.refl _ _).alloc (Nat.le_refl _) _
        have hbA := bld_below hbd xo
        have xA := hbl.trans (xo.mono hbl.size)
        have hoA : (wr.alloc (.cells #[.string l[k].key, .bool l[k].del, .string l[k].val] 58)).heap[wr.heap.size]? = some (.cells #[.string l[k].key, .bool l[k].del, .string l[k].val] 58 (0, 0)) := heap_alloc_new wr _
        have hzA : wr.heap.size < (wr.alloc (.cells #[.string l[k].key, .bool l[k].del, .string l[k].val] 58)).heap.size := by simp
        have HBA := Lib.hid hbA
        have HOA := Lib.hid hoA
        clear hsn hopk hsh h hc hbd hbA hoA
        generalize l[k].key = ky at *
        generalize l[k].val = vl' at *
        generalize l[k].del = dl at *
        generalize hT : opsL (l.take k) = T at *
        go_wp2
        have d0 : (wr.alloc (.cells #[.string ky, .bool dl, .string vl'] 58)).cell? ⟨wr.heap.size, 0, none⟩ = some (.string ky) := by rw [Lib.cell_of_heap HOA.out]; rfl
        have d1 : (wr.alloc (.cells #[.string ky, .bool dl, .string vl'] 58)).cell? ⟨wr.heap.size, 1, none⟩ = some (.bool dl) := by rw [Lib.cell_of_heap HOA.out]; rfl
        generalize wr.alloc (.cells #[.string ky, .bool dl, .string vl'] 58) = wA at *
        have e0 : wA.drew.cell? ⟨wr.heap.size, 0, none⟩ = some (.string ky) := d0
        have e1 : wA.drew.cell? ⟨wr.heap.size, 1, none⟩ = some (.bool dl) := d1
        have hkl : (ky.size : Int) ≤ 1048576 := by omega
        clear hc0 hc1 hc2
        have HBD := Lib.hid (show Lib.IsBuilder 72 5 w1.heap.size w1.heap.size (Lib.byteCells (varL l.length ++ T)) wA.drew from HBA.out)
        have HOD := Lib.hid (show wA.drew.heap[wr.heap.size]? = some (.cells #[.string ky, .bool dl, .string vl'] 58 (0, 0)) from HOA.out)
        have xAd : RowKit.Below w.heap.size w wA.drew := below_drewN xA 1
        have hzA2 : w1.heap.size ≤ wA.drew.heap.size := Nat.le_of_lt (Nat.lt_trans hzr hzA)
        have hvl : (vl'.size : Int) ≤ 1048576 := by omega
        cases dl
        · have HP := Lib.hid (show opL l[k] = 0 :: (pieL ky.data.toList ++ pieL vl'.data.toList) by rw [hpl]; rfl)
          clear hpl
          have hcat : ¬ 9223372036854775807 < 1 + (pieL ky.data.toList).length := by omega
          have hlenA : (((varL l.length ++ T).length : Nat) : Int) + (str (0 :: pieL ky.data.toList)).size ≤ 140737488355328 := by rw [str_size]; simp; omega
          go_region_law (first
            | (go_simp; go_at_call 51; refine (flag_no _).mono ?_; rintro e w' ⟨rfl, rfl⟩)
            | (go_simp; go_at_call 52; refine (short_any ky _ hkl).mono ?_; rintro e w5 ⟨rfl, b5⟩)
            | (go_simp; go_at_call 49; refine (writeStr_any w1.heap.size w1.heap.size (varL l.length ++ T) (str (0 :: pieL ky.data.toList)) _ (bld_below HBD.out b5) hlenA (Nat.le_trans hzA2 b5.size)).mono ?_; rintro e w6 ⟨rfl, hb6, b6, k6⟩)
            | (go_simp; go_at_call 49; trace_state; fail))
          all_goals
            have x5 := xAd.trans (b5.mono xAd.size)
            have x6 := x5.trans (b6.mono b1.size)
            have o5 := (b5.block wr.heap.size hzA).trans HOD.out
            have o6 := k6 _ _ _ _ o5 (by decide) (by omega)
            have f0 : w6.cell? ⟨wr.heap.size, 0, none⟩ = some (.string ky) := by rw [Lib.cell_of_heap o6]; rfl
            have f1 : w6.cell? ⟨wr.heap.size, 1, none⟩ = some (.bool false) := by rw [Lib.cell_of_heap o6]; rfl
            have f2 : w6.cell? ⟨wr.heap.size, 2, none⟩ = some (.string vl') := by rw [Lib.cell_of_heap o6]; rfl
            rw [str_data] at hb6
            have z6 : w1.heap.size < w6.heap.size := Nat.lt_of_lt_of_le hzr (Nat.le_trans (Nat.le_of_lt hzA) (Nat.le_trans b5.size b6.size))
            clear o5 o6 k6 b6 b5 x5 d0 d1 e0 e1
            go_wp2_with fail
            refine (short_any vl' _ hvl).mono ?_
            rintro e w7 ⟨rfl, b7⟩
            have x7 := x6.trans (b7.mono x6.size)
            have hb7 := bld_below hb6 b7
            have z7 := Nat.lt_of_lt_of_le z6 b7.size
            go_wp2_with fail
            refine (writeStr_any w1.heap.size w1.heap.size _ (str (pieL vl'.data.toList)) _ hb7 (by rw [str_size]; simp; omega) (Nat.le_of_lt z7)).mono ?_
            rintro e w8 ⟨rfl, hb8, b8, _⟩
            have x8 := x7.trans (b8.mono b1.size)
            have z8 := Nat.lt_of_lt_of_le z7 b8.size
            rw [str_data] at hb8
            go_wp2
            go_roundw
            case rel => exact ⟨k + 1, by omega, by go_num, by rw [HS.out, HP.out]; simpa using hb8, x8, z8⟩
            case measure => simp [intOf]; omega
        · have HP := Lib.hid (show opL l[k] = 1 :: pieL ky.data.toList by rw [hpl]; rfl)
          clear hpl
          have hcat : ¬ 9223372036854775807 < 1 + (pieL ky.data.toList).length := by omega
          have hlenA : (((varL l.length ++ T).length : Nat) : Int) + (str (1 :: pieL ky.data.toList)).size ≤ 140737488355328 := by rw [str_size]; simp; omega
          go_region_law (first
            | (go_simp; go_at_call 51; refine (flag_yes _).mono ?_; rintro e w' ⟨rfl, rfl⟩)
            | (go_simp; go_at_call 52; refine (short_any ky _ hkl).mono ?_; rintro e w5 ⟨rfl, b5⟩)
            | (go_simp; go_at_call 49; refine (writeStr_any w1.heap.size w1.heap.size (varL l.length ++ T) (str (1 :: pieL ky.data.toList)) _ (bld_below HBD.out b5) hlenA (Nat.le_trans hzA2 b5.size)).mono ?_; rintro e w6 ⟨rfl, hb6, b6, k6⟩)
            | (go_simp; go_at_call 49; trace_state; fail))
          all_goals
            have x5 := xAd.trans (b5.mono xAd.size)
            have x6 := x5.trans (b6.mono b1.size)
            have o5 := (b5.block wr.heap.size hzA).trans HOD.out
            have o6 := k6 _ _ _ _ o5 (by decide) (by omega)
            have f0 : w6.cell? ⟨wr.heap.size, 0, none⟩ = some (.string ky) := by rw [Lib.cell_of_heap o6]; rfl
            have f1 : w6.cell? ⟨wr.heap.size, 1, none⟩ = some (.bool true) := by rw [Lib.cell_of_heap o6]; rfl
            have f2 : w6.cell? ⟨wr.heap.size, 2, none⟩ = some (.string vl') := by rw [Lib.cell_of_heap o6]; rfl
            rw [str_data] at hb6
            have z6 : w1.heap.size < w6.heap.size := Nat.lt_of_lt_of_le hzr (Nat.le_trans (Nat.le_of_lt hzA) (Nat.le_trans b5.size b6.size))
            clear o5 o6 k6 b6 b5 x5 d0 d1 e0 e1
            go_wp2
            go_roundw
            case rel => exact ⟨k + 1, by omega, by go_num, by rw [HS.out, HP.out]; simpa using hb6, x6, z6⟩
            case measure => simp [intOf]; omega
      · obtain rfl : k = l.length := by omega
        have hbd' : Lib.IsBuilder 72 5 w1.heap.size w1.heap.size (Lib.byteCells (varL l.length ++ opsL l)) wr := by simpa using hbd
        clear hsh h hbd
        go_wp2_with fail
        refine (Try.Builder_String_any _ _ _ _ hbd' (Nat.le_of_lt hzr)).mono ?_
        rintro e w5 ⟨rfl, b5⟩
        go_wp2
        go_ret
        exact ⟨by rw [HR.out]; rfl, hbl.trans (b5.mono b1.size)⟩
end Go.Proofs.Ytajjefpopjdfaaa

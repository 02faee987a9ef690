
/- Walks: ShowBlock of the program. -/
import Derived.Test.YtmbmflhcimkjpaaBlkC
import Derived.Test.YtmbmflhcimkjpaaMemW
import Derived.Test.YtmbmflhcimkjpaaBldR
import Derived.Test.YtmbmflhcimkjpaaFixedI
import Derived.Test.YtmbmflhcimkjpaaShelf
import Derived.Lib.QuietBelow
import Derived.Deep.DeepCutAuto
import Derived.Deep.RegionHeld3
import Derived.BigQuiet
set_option linter.unusedVariables false
set_option linter.unusedSimpArgs false
namespace Go.Proofs.Ytmbmflhcimkjpaa
open Go.RowKit Sp Go.Sort
attribute [local go_sem] str_size str_append
namespace Sp
def flgL (b : Bool) : List UInt8 := if b then [1] else [0]
theorem flgL_len (b : Bool) : (flgL b).length = 1 := by cases b <;> rfl
end Sp
theorem halI (W : World) (o : Obj) : RowKit.Below W.heap.size W (W.alloc o) := (Below.refl _ _).alloc (Nat.le_refl _) _
set_option maxRecDepth 100000 in
theorem flagB_any (b : Bool) (w : World) : Calls Try.prog 128 #[.bool b] w fun e w' => e = .returned (.string (str (if b then [1] else [0]))) ∧ w = w' := by
  cases b
  all_goals
    go_enter Try.func128, Try.ntmps128
    go_wp2
    go_ret
    exact ⟨rfl, rfl⟩
theorem info_I : (Try.prog.info? 3).map (fun i => (i.zero, i.size, i.bytes)) = some (some (.int .i64 0), 1, 8) := by kernel_rfl
namespace Sp
def intCells (x : Int) : List Value := [.int .i64 x]
theorem intCells_flat (l : List Int) : (l.map intCells).flatten = l.map (fun x => .int .i64 x) := by
  induction l with
  | nil => rfl
  | cons a l ih => simp [intCells, ih]
end Sp

set_option maxRecDepth 100000 in
set_option maxHeartbeats 1600000 in
theorem implShowBlock (v : Value) (l : List EntR) (w : World) (h : SlT EntR.cells 4 w v l) (hl : (l.length : Int) ≤ 1048576) :
    Calls Try.prog 48 #[v] w fun e w' => e = .returned (.string (str (showBlkL l))) ∧ Below w.heap.size w w' := by
  have hh := h
  obtain ⟨ao, cap, rfl, hlc, hcm, hsh⟩ := hh.shape
  rcases hn : inB l.length 1 16 with _ | _
  · have HR := Lib.hid (showBlkL_not (l := l) (by simp [blockB, hn]))
    clear hsh hh
    go_enter Try.func48, Try.ntmps48
    go_wp2_with (go_at_call 105; refine (inRange_any _ _ _ _).mono ?_; rintro e w' ⟨rfl, rfl⟩; rw [hn])
    go_ret
    exact ⟨by rw [HR.out]; rfl, Below.refl _ _⟩
  rcases he : entsB l with _ | _
  · have HR := Lib.hid (showBlkL_not (l := l) (by simp [blockB, he]))
    clear hsh hh
    go_enter Try.func48, Try.ntmps48
    go_wp2_with (first | (go_at_call 105; refine (inRange_any _ _ _ _).mono ?_; rintro e w' ⟨rfl, rfl⟩; rw [hn]) | (go_at_call 125; refine (implEnts_any _ l _ h hl).mono ?_; rintro e w1 ⟨rfl, b1⟩; rw [he]))
    go_ret
    exact ⟨by rw [HR.out]; rfl, b1⟩
  have HR := Lib.hid (showBlkL_yes (l := l) (by simp [blockB, hn, he]))
  have h16 : l.length ≤ 16 := by simp [inB] at hn; omega
  have HSZ := Lib.hid (fun k hk => entsB_sizes he k hk)
  have HLN := Lib.hid (fun k hk => blkTo_len he k hk)
  go_enter Try.func48, Try.ntmps48
  go_upto_region 3 with (first | (go_at_call 105; refine (inRange_any _ _ _ _).mono ?_; rintro e w' ⟨rfl, rfl⟩; rw [hn]) | (go_at_call 125; refine (implEnts_any _ l _ h hl).mono ?_; rintro e w1 ⟨rfl, b1⟩; rw [he]))
  clear hn he
  have hbld := Lib.fresh_isBuilder 122 5 w1
  have xb := b1.alloc b1.size (.cells #[.pointer none, .slice none 0 0] 122)
  have hzb : w1.heap.size < (w1.alloc (.cells #[.pointer none, .slice none 0 0] 122)).heap.size := by simp
  go_wp2
  go_loopw [4, 22] (fun o i wr => ∃ k : Nat, k ≤ l.length ∧ i = .int .i64 k ∧ wr.ownsRow w.heap.size 3 1 o (plcTo l k).length ((plcTo l k).map intCells).flatten ∧ Lib.IsBuilder 122 5 w1.heap.size w1.heap.size (Lib.byteCells (blkTo l k)) wr ∧ Below w.heap.size w wr ∧ w1.heap.size < wr.heap.size) (fun _ i _ => l.length - (intOf i).toNat)
  case atStart => exact ⟨0, by omega, rfl, by simpa [plcTo] using World.ownsRow_nil _ w.heap.size 3 1, hbld, xb, hzb⟩
  case round =>
    obtain ⟨k, hk, rfl, hr, hbd, hbl, hzr⟩ := hrel
    obtain ⟨oo, co, rfl⟩ := (Row.of_own hr rfl).form
    have hbk := HLN.out k hk
    have hpk := plcTo_len l k
    by_cases hlt : k < l.length
    · obtain ⟨b, off, hb, hbs, hc⟩ := hsh (by omega)
      subst hb
      have hc0 : wr.cell? ⟨b, off + k * 4, none⟩ = some (.string l[k].key) := (hbl.cell (p := ⟨b, off + k * 4, none⟩) hbs).trans (hc k hlt 0 _ rfl)
      have hc1 : wr.cell? ⟨b, off + k * 4 + 1, none⟩ = some (.int .i64 l[k].seq) := (hbl.cell (p := ⟨b, off + k * 4 + 1, none⟩) hbs).trans (hc k hlt 1 _ rfl)
      have hc2 : wr.cell? ⟨b, off + k * 4 + 2, none⟩ = some (.bool l[k].del) := (hbl.cell (p := ⟨b, off + k * 4 + 2, none⟩) hbs).trans (hc k hlt 2 _ rfl)
      have hc3 : wr.cell? ⟨b, off + k * 4 + 3, none⟩ = some (.string l[k].val) := (hbl.cell (p := ⟨b, off + k * 4 + 3, none⟩) hbs).trans (hc k hlt 3 _ rfl)
      have hsz := HSZ.out k hlt
      have HS := Lib.hid (blkTo_step hlt)
      have HL : ∀ n, entL n l[k] = varL n ++ (pieL (l[k].key.data.toList.drop n) ++ (varL l[k].seq ++ (flgL l[k].del ++ pieL l[k].val.data.toList))) := fun n => rfl
      have hshl := shr_le hlt
      have HN : ¬ k % 4 = 0 → ∃ p : ByteArray, wr.cell? ⟨b, off + (k - 1) * 4, none⟩ = some (.string p) ∧ p.size ≤ 10 ∧ shr l k = comm l[k].key.data.toList p.data.toList := fun h4 => by
        have hp : k - 1 < l.length := by omega
        exact ⟨l[k - 1].key, (hbl.cell (p := ⟨b, off + (k - 1) * 4, none⟩) hbs).trans (hc (k - 1) hp 0 _ rfl), (HSZ.out (k - 1) hp).1, shr_next h4 hlt hp⟩
      have HNN := Lib.hid HN
      clear hc hsh h hh HN
      generalize l[k].key = ky at *
      generalize l[k].seq = sq at *
      generalize l[k].val = vl at *
      generalize hd : l[k].del = dl at *
      generalize hT : blkTo l k = T at *
      generalize hU : plcTo l k = U at *
      generalize hS4 : shr l k = sn at *
      have HP := Lib.hid HL
      clear HL
      by_cases h4 : k % 4 = 0
      · have h4i : ((k : Int) % 4) = 0 := by omega
        have HB := Lib.hid (show plcTo l (k + 1) = U ++ [(T.length : Int)] from by have h := plcTo_hit l h4; rwa [hU, hT] at h)
        have HZ := Lib.hid (show sn = 0 from by rw [← hS4]; exact shr_zero h4)
        have d0 : (wr.alloc (.cells #[.string ky, .int .i64 sq, .bool dl, .string vl] 30)).cell? ⟨wr.heap.size, 0, none⟩ = some (.string ky) := by simp [go_sem]
        have dh : (wr.alloc (.cells #[.string ky, .int .i64 sq, .bool dl, .string vl] 30)).heap[wr.heap.size]? = some (.cells #[.string ky, .int .i64 sq, .bool dl, .string vl] 30 (0, 0)) := heap_alloc_new wr _
        have hzA : wr.heap.size < (wr.alloc (.cells #[.string ky, .int .i64 sq, .bool dl, .string vl] 30)).heap.size := by simp
        have xA := hbl.alloc hbl.size (.cells #[.string ky, .int .i64 sq, .bool dl, .string vl] 30)
        have rA := hr.alloc (.cells #[.string ky, .int .i64 sq, .bool dl, .string vl] 30)
        have bA := bld_below hbd (halI wr (.cells #[.string ky, .int .i64 sq, .bool dl, .string vl] 30))
        go_upto_region 10 with fail
        generalize (wr.alloc (.cells #[.string ky, .int .i64 sq, .bool dl, .string vl] 30)) = wA at d0 dh xA rA bA hzA ⊢
        clear hc0 hc1 hc2 hc3
        go_upto_region 12 with (first | (go_at_call 126; refine (Try.Builder_Len _ _ _ _ bA).mono ?_; rintro e w' ⟨rfl, rfl⟩; rw [Lib.byteCells_length]) | (at_builtin; refine app_new rfl rfl Try.underlying139 info_I rfl (by decide) rA rfl 1 rfl rfl (by simp [Value.oneCell']) (by omega) xA (Nat.le_refl _) xA.size ?_; intro o2 W r2 xW g2))
        have fh := (g2.block wr.heap.size hzA (fun e => by have := (hr.lt _ e.symm).2; omega)).trans dh
        have bW := bld_grown bA rA (by decide) (by decide) g2
        have rW : W.ownsRow w.heap.size 3 1 o2 (plcTo l (k + 1)).length ((plcTo l (k + 1)).map intCells).flatten := by rw [HB.out]; simpa [intCells] using r2
        have hzW : wr.heap.size < W.heap.size := Nat.lt_of_lt_of_le hzA g2.size
        have z1W : w1.heap.size < W.heap.size := Nat.lt_trans hzr hzW
        clear g2 r2 bA rA xA dh d0 hr hbd
        cases dl with
        | false =>
          have hv1 := varL_length (0 : Int)
          have hv2 := varL_length sq
          have hp1 := pie_len ky.data.toList
          have hp2 := pie_len vl.data.toList
          have hky : ky.data.toList.length = ky.size := by simp
          have hvs : vl.data.toList.length = vl.size := by simp
          skip
          have hfl := flgL_len false
          have hc1 : ¬ 9223372036854775807 < (varL 0).length + (pieL ky.data.toList).length := by omega
          have hc2 : ¬ 9223372036854775807 < (varL 0).length + ((pieL ky.data.toList).length + (varL sq).length) := by omega
          have hc2' : ¬ 9223372036854775807 < (varL 0).length + (pieL ky.data.toList).length + (varL sq).length := by omega
          have hc3 : ¬ 9223372036854775807 < (varL 0).length + ((pieL ky.data.toList).length + ((varL sq).length + 1)) := by omega
          have hc3' : ¬ 9223372036854775807 < (varL 0).length + (pieL ky.data.toList).length + (varL sq).length + 1 := by omega
          have hc4 : ¬ 9223372036854775807 < (varL 0).length + ((pieL ky.data.toList).length + ((varL sq).length + (1 + (pieL vl.data.toList).length))) := by omega
          have hc4' : ¬ 9223372036854775807 < (varL 0).length + (pieL ky.data.toList).length + (varL sq).length + 1 + (pieL vl.data.toList).length := by omega
          have hc6 : ¬ 9223372036854775807 < (varL 0).length + ((pieL ky.data.toList).length + (varL sq).length) + 1 := by omega
          have hc7 : ¬ 9223372036854775807 < (varL 0).length + ((pieL ky.data.toList).length + ((varL sq).length + 1)) + (pieL vl.data.toList).length := by omega
          have hc5 : ¬ 9223372036854775807 < (varL 0).length + ((pieL ky.data.toList).length + ((varL sq).length + ((pieL vl.data.toList).length + 1))) := by omega
          have g0 : W.drew.cell? ⟨wr.heap.size, 0, none⟩ = some (.string ky) := by rw [Lib.cell_of_heap (w := W.drew) fh]; rfl
          have g1 : W.drew.cell? ⟨wr.heap.size, 1, none⟩ = some (.int .i64 sq) := by rw [Lib.cell_of_heap (w := W.drew) fh]; rfl
          have g2 : W.drew.cell? ⟨wr.heap.size, 2, none⟩ = some (.bool false) := by rw [Lib.cell_of_heap (w := W.drew) fh]; rfl
          have g3 : W.drew.cell? ⟨wr.heap.size, 3, none⟩ = some (.string vl) := by rw [Lib.cell_of_heap (w := W.drew) fh]; rfl
          have hzD : wr.heap.size < W.drew.heap.size := hzW
          have xD : RowKit.Below w.heap.size w W.drew := xW.drew
          have HBD := Lib.hid (show Lib.IsBuilder 122 5 w1.heap.size w1.heap.size (Lib.byteCells T) W.drew from bW)
          have HFD := Lib.hid (show W.drew.heap[wr.heap.size]? = some (.cells #[.string ky, .int .i64 sq, .bool false, .string vl] 30 (0, 0)) from fh)
          have HRD := Lib.hid (show W.drew.ownsRow w.heap.size 3 1 o2 (plcTo l (k + 1)).length ((plcTo l (k + 1)).map intCells).flatten from rW)
          have hz1D : w1.heap.size ≤ W.drew.heap.size := Nat.le_of_lt z1W
          clear fh rW bW xW
          go_region_held3 (fun w' => w'.cell? ⟨wr.heap.size, 0, none⟩ = some (.string ky) ∧ w'.cell? ⟨wr.heap.size, 1, none⟩ = some (.int .i64 sq) ∧ w'.cell? ⟨wr.heap.size, 2, none⟩ = some (.bool false) ∧ w'.cell? ⟨wr.heap.size, 3, none⟩ = some (.string vl))
            (refine ⟨?_, ?_, ?_, ?_⟩ <;> assumption)
            (first
              | (go_at_call 88; have gg := D5; clear gg; refine (writeStr_any w1.heap.size w1.heap.size T _ _ (bld_below HBD.out D5) (by rw [str_size]; simp; omega) (Nat.le_trans hz1D D5.size)).mono ?_; rintro e a6 ⟨rfl, hb6, b6, k6⟩; have o6 := k6 _ _ _ _ ((D5.block wr.heap.size hzD).trans HFD.out) (by decide) (by omega); have m0 : a6.cell? ⟨wr.heap.size, 0, none⟩ = some (.string ky) := (by rw [Lib.cell_of_heap o6]; rfl); have m1 : a6.cell? ⟨wr.heap.size, 1, none⟩ = some (.int .i64 sq) := (by rw [Lib.cell_of_heap o6]; rfl); have m2 : a6.cell? ⟨wr.heap.size, 2, none⟩ = some (.bool false) := (by rw [Lib.cell_of_heap o6]; rfl); have m3 : a6.cell? ⟨wr.heap.size, 3, none⟩ = some (.string vl) := (by rw [Lib.cell_of_heap o6]; rfl))
              | (go_at_call 90; have gg := D3; clear gg; refine (short_any vl _ (by omega)).mono ?_; rintro e a5 ⟨rfl, c5⟩; have D5 := D3.trans (c5.mono D3.size); have p0 := (bcell D5).1 wr.heap.size 0 hzD; have p1 := (bcell D5).1 wr.heap.size 1 hzD; have p2 := (bcell D5).1 wr.heap.size 2 hzD; have p3 := (bcell D5).1 wr.heap.size 3 hzD; rw [g0] at p0; rw [g1] at p1; rw [g2] at p2; rw [g3] at p3)
              | (go_at_call 128; refine (flagB_any false _).mono ?_; rintro e w' ⟨rfl, rfl⟩)
              | (go_at_call 89; have gg := D2; clear gg; refine (implVar sq _).mono ?_; rintro e a3 ⟨rfl, c3⟩; have D3 := D2.trans (c3.mono D2.size); have r0 := (bcell D3).1 wr.heap.size 0 hzD; have r1 := (bcell D3).1 wr.heap.size 1 hzD; have r2 := (bcell D3).1 wr.heap.size 2 hzD; have r3 := (bcell D3).1 wr.heap.size 3 hzD; rw [g0] at r0; rw [g1] at r1; rw [g2] at r2; rw [g3] at r3)
              | (go_at_call 90; refine (short_any ky _ (by omega)).mono ?_; rintro e a2 ⟨rfl, c2⟩; have D2 := D1.trans (c2.mono D1.size); have s0 := (bcell D2).1 wr.heap.size 0 hzD; have s1 := (bcell D2).1 wr.heap.size 1 hzD; have s2 := (bcell D2).1 wr.heap.size 2 hzD; have s3 := (bcell D2).1 wr.heap.size 3 hzD; rw [g0] at s0; rw [g1] at s1; rw [g2] at s2; rw [g3] at s3)
              | (go_at_call 89; refine (implVar 0 _).mono ?_; rintro e a1 ⟨rfl, c1⟩; have D1 := c1; have t0 := (bcell D1).1 wr.heap.size 0 hzD; have t1 := (bcell D1).1 wr.heap.size 1 hzD; have t2 := (bcell D1).1 wr.heap.size 2 hzD; have t3 := (bcell D1).1 wr.heap.size 3 hzD; rw [g0] at t0; rw [g1] at t1; rw [g2] at t2; rw [g3] at t3))
          all_goals
            rw [str_data] at hb6
            have x6 : RowKit.Below w.heap.size w a6 := (xD.trans (D5.mono xD.size)).trans (b6.mono b1.size)
            have q5 := bld_below HBD.out D5
            have r6 := own_kept (own_below HRD.out D5) (fun j cs fr hj => k6 j cs _ fr hj (by decide) (bld_ne q5 hj (by decide)))
            have z6 : w1.heap.size < a6.heap.size := Nat.lt_of_lt_of_le z1W (Nat.le_trans D5.size b6.size)
            clear q5 k6 b6 D5 D3 D2 D1
            go_wp2
            go_roundw
            case rel => exact ⟨k + 1, by omega, by go_num, r6, by rw [HS.out, HP.out, HZ.out]; simpa [flgL] using hb6, x6, z6⟩
            case measure => simp [intOf]; omega
        | true =>
          have hv1 := varL_length (0 : Int)
          have hv2 := varL_length sq
          have hp1 := pie_len ky.data.toList
          have hp2 := pie_len vl.data.toList
          have hky : ky.data.toList.length = ky.size := by simp
          have hvs : vl.data.toList.length = vl.size := by simp
          skip
          have hfl := flgL_len true
          have hc1 : ¬ 9223372036854775807 < (varL 0).length + (pieL ky.data.toList).length := by omega
          have hc2 : ¬ 9223372036854775807 < (varL 0).length + ((pieL ky.data.toList).length + (varL sq).length) := by omega
          have hc2' : ¬ 9223372036854775807 < (varL 0).length + (pieL ky.data.toList).length + (varL sq).length := by omega
          have hc3 : ¬ 9223372036854775807 < (varL 0).length + ((pieL ky.data.toList).length + ((varL sq).length + 1)) := by omega
          have hc3' : ¬ 9223372036854775807 < (varL 0).length + (pieL ky.data.toList).length + (varL sq).length + 1 := by omega
          have hc4 : ¬ 9223372036854775807 < (varL 0).length + ((pieL ky.data.toList).length + ((varL sq).length + (1 + (pieL vl.data.toList).length))) := by omega
          have hc4' : ¬ 9223372036854775807 < (varL 0).length + (pieL ky.data.toList).length + (varL sq).length + 1 + (pieL vl.data.toList).length := by omega
          have hc6 : ¬ 9223372036854775807 < (varL 0).length + ((pieL ky.data.toList).length + (varL sq).length) + 1 := by omega
          have hc7 : ¬ 9223372036854775807 < (varL 0).length + ((pieL ky.data.toList).length + ((varL sq).length + 1)) + (pieL vl.data.toList).length := by omega
          have hc5 : ¬ 9223372036854775807 < (varL 0).length + ((pieL ky.data.toList).length + ((varL sq).length + ((pieL vl.data.toList).length + 1))) := by omega
          have g0 : W.drew.cell? ⟨wr.heap.size, 0, none⟩ = some (.string ky) := by rw [Lib.cell_of_heap (w := W.drew) fh]; rfl
          have g1 : W.drew.cell? ⟨wr.heap.size, 1, none⟩ = some (.int .i64 sq) := by rw [Lib.cell_of_heap (w := W.drew) fh]; rfl
          have g2 : W.drew.cell? ⟨wr.heap.size, 2, none⟩ = some (.bool true) := by rw [Lib.cell_of_heap (w := W.drew) fh]; rfl
          have g3 : W.drew.cell? ⟨wr.heap.size, 3, none⟩ = some (.string vl) := by rw [Lib.cell_of_heap (w := W.drew) fh]; rfl
          have hzD : wr.heap.size < W.drew.heap.size := hzW
          have xD : RowKit.Below w.heap.size w W.drew := xW.drew
          have HBD := Lib.hid (show Lib.IsBuilder 122 5 w1.heap.size w1.heap.size (Lib.byteCells T) W.drew from bW)
          have HFD := Lib.hid (show W.drew.heap[wr.heap.size]? = some (.cells #[.string ky, .int .i64 sq, .bool true, .string vl] 30 (0, 0)) from fh)
          have HRD := Lib.hid (show W.drew.ownsRow w.heap.size 3 1 o2 (plcTo l (k + 1)).length ((plcTo l (k + 1)).map intCells).flatten from rW)
          have hz1D : w1.heap.size ≤ W.drew.heap.size := Nat.le_of_lt z1W
          clear fh rW bW xW
          go_region_held3 (fun w' => w'.cell? ⟨wr.heap.size, 0, none⟩ = some (.string ky) ∧ w'.cell? ⟨wr.heap.size, 1, none⟩ = some (.int .i64 sq) ∧ w'.cell? ⟨wr.heap.size, 2, none⟩ = some (.bool true) ∧ w'.cell? ⟨wr.heap.size, 3, none⟩ = some (.string vl))
            (refine ⟨?_, ?_, ?_, ?_⟩ <;> assumption)
            (first
              | (go_at_call 88; have gg := D5; clear gg; refine (writeStr_any w1.heap.size w1.heap.size T _ _ (bld_below HBD.out D5) (by rw [str_size]; simp; omega) (Nat.le_trans hz1D D5.size)).mono ?_; rintro e a6 ⟨rfl, hb6, b6, k6⟩; have o6 := k6 _ _ _ _ ((D5.block wr.heap.size hzD).trans HFD.out) (by decide) (by omega); have m0 : a6.cell? ⟨wr.heap.size, 0, none⟩ = some (.string ky) := (by rw [Lib.cell_of_heap o6]; rfl); have m1 : a6.cell? ⟨wr.heap.size, 1, none⟩ = some (.int .i64 sq) := (by rw [Lib.cell_of_heap o6]; rfl); have m2 : a6.cell? ⟨wr.heap.size, 2, none⟩ = some (.bool true) := (by rw [Lib.cell_of_heap o6]; rfl); have m3 : a6.cell? ⟨wr.heap.size, 3, none⟩ = some (.string vl) := (by rw [Lib.cell_of_heap o6]; rfl))
              | (go_at_call 90; have gg := D3; clear gg; refine (short_any vl _ (by omega)).mono ?_; rintro e a5 ⟨rfl, c5⟩; have D5 := D3.trans (c5.mono D3.size); have p0 := (bcell D5).1 wr.heap.size 0 hzD; have p1 := (bcell D5).1 wr.heap.size 1 hzD; have p2 := (bcell D5).1 wr.heap.size 2 hzD; have p3 := (bcell D5).1 wr.heap.size 3 hzD; rw [g0] at p0; rw [g1] at p1; rw [g2] at p2; rw [g3] at p3)
              | (go_at_call 128; refine (flagB_any true _).mono ?_; rintro e w' ⟨rfl, rfl⟩)
              | (go_at_call 89; have gg := D2; clear gg; refine (implVar sq _).mono ?_; rintro e a3 ⟨rfl, c3⟩; have D3 := D2.trans (c3.mono D2.size); have r0 := (bcell D3).1 wr.heap.size 0 hzD; have r1 := (bcell D3).1 wr.heap.size 1 hzD; have r2 := (bcell D3).1 wr.heap.size 2 hzD; have r3 := (bcell D3).1 wr.heap.size 3 hzD; rw [g0] at r0; rw [g1] at r1; rw [g2] at r2; rw [g3] at r3)
              | (go_at_call 90; refine (short_any ky _ (by omega)).mono ?_; rintro e a2 ⟨rfl, c2⟩; have D2 := D1.trans (c2.mono D1.size); have s0 := (bcell D2).1 wr.heap.size 0 hzD; have s1 := (bcell D2).1 wr.heap.size 1 hzD; have s2 := (bcell D2).1 wr.heap.size 2 hzD; have s3 := (bcell D2).1 wr.heap.size 3 hzD; rw [g0] at s0; rw [g1] at s1; rw [g2] at s2; rw [g3] at s3)
              | (go_at_call 89; refine (implVar 0 _).mono ?_; rintro e a1 ⟨rfl, c1⟩; have D1 := c1; have t0 := (bcell D1).1 wr.heap.size 0 hzD; have t1 := (bcell D1).1 wr.heap.size 1 hzD; have t2 := (bcell D1).1 wr.heap.size 2 hzD; have t3 := (bcell D1).1 wr.heap.size 3 hzD; rw [g0] at t0; rw [g1] at t1; rw [g2] at t2; rw [g3] at t3))
          all_goals
            rw [str_data] at hb6
            have x6 : RowKit.Below w.heap.size w a6 := (xD.trans (D5.mono xD.size)).trans (b6.mono b1.size)
            have q5 := bld_below HBD.out D5
            have r6 := own_kept (own_below HRD.out D5) (fun j cs fr hj => k6 j cs _ fr hj (by decide) (bld_ne q5 hj (by decide)))
            have z6 : w1.heap.size < a6.heap.size := Nat.lt_of_lt_of_le z1W (Nat.le_trans D5.size b6.size)
            clear q5 k6 b6 D5 D3 D2 D1
            go_wp2
            go_roundw
            case rel => exact ⟨k + 1, by omega, by go_num, r6, by rw [HS.out, HP.out, HZ.out]; simpa [flgL] using hb6, x6, z6⟩
            case measure => simp [intOf]; omega
      · obtain ⟨p, hpc, hps, hpe⟩ := HNN.out h4
        have hp0 : (0 : Int) ≤ (k : Int) - 1 := by omega
        have hp1' : ((k : Int) - 1).toNat = k - 1 := by omega
        have hp2' : (k : Int) - 1 < l.length := by omega
        have hp3 : IntKind.i64.wrap ((k : Int) - 1) = (k : Int) - 1 := by rw [IntKind.wrap_i64]; omega
        have h4i : ¬ ((k : Int) % 4) = 0 := by omega
        have HB := Lib.hid (show plcTo l (k + 1) = U from by rw [plcTo_miss l h4, hU])
        have HZ := Lib.hid (show sn = sn from rfl)
        have EXD : (ky.extract sn ky.size).data.toList = ky.data.toList.drop sn := by simp [ByteArray.data_extract, List.take_of_length_le]
        have EXS : (ky.extract sn ky.size).size = ky.size - sn := by simp
        have hsk : (sn : Int) ≤ ky.size := by omega
        have d0 : (wr.alloc (.cells #[.string ky, .int .i64 sq, .bool dl, .string vl] 30)).cell? ⟨wr.heap.size, 0, none⟩ = some (.string ky) := by simp [go_sem]
        have dh : (wr.alloc (.cells #[.string ky, .int .i64 sq, .bool dl, .string vl] 30)).heap[wr.heap.size]? = some (.cells #[.string ky, .int .i64 sq, .bool dl, .string vl] 30 (0, 0)) := heap_alloc_new wr _
        have hzA : wr.heap.size < (wr.alloc (.cells #[.string ky, .int .i64 sq, .bool dl, .string vl] 30)).heap.size := by simp
        have xA := hbl.alloc hbl.size (.cells #[.string ky, .int .i64 sq, .bool dl, .string vl] 30)
        have rA := hr.alloc (.cells #[.string ky, .int .i64 sq, .bool dl, .string vl] 30)
        have bA := bld_below hbd (halI wr (.cells #[.string ky, .int .i64 sq, .bool dl, .string vl] 30))
        have d5 : (wr.alloc (.cells #[.string ky, .int .i64 sq, .bool dl, .string vl] 30)).cell? ⟨b, off + (k - 1) * 4, none⟩ = some (.string p) := by rw [World.cell?_alloc_past _ _ _ (Nat.lt_of_lt_of_le hbs hbl.size)]; exact hpc
        go_upto_region 11 with fail
        generalize (wr.alloc (.cells #[.string ky, .int .i64 sq, .bool dl, .string vl] 30)) = wA at d0 d5 dh xA rA bA hzA ⊢
        clear hc0 hc1 hc2 hc3 hpc
        have j0 := cell_regrown d0
        have j5 := cell_regrown d5
        have cS : ∀ d os, Calls Try.prog 127 #[.string ky, .string p] (grow (redrawn wA d) os) fun e w'' => e = .returned (.int .i64 (sn : Int)) ∧ ∃ p : Regrown, w'' = grow (redrawn wA p.d) p.os := fun d os => Calls.regrown_of (by rw [hpe]; exact commonPrefix_any _ _ _ (by omega) (by omega))
        have HPE := Lib.hid hpe
        clear hpe
        refine wp_region_quiet_below (by kernel_rfl) (by kernel_rfl) ?_
        repeat (first | go_big_quiet_step (exact cS _ _) | go_big_quiet_step (fail))
        refine wpQuiet_nil ?_
        intro W hw'
        have b2 : RowKit.Below wA.heap.size wA W := by obtain ⟨p, rfl⟩ := hw'; exact below_regrown _ _ _
        have xW := xA.trans (b2.mono xA.size)
        have fh := (b2.block wr.heap.size hzA).trans dh
        have bW := bld_below bA b2
        have rW : W.ownsRow w.heap.size 3 1 (.slice oo U.length co) (plcTo l (k + 1)).length ((plcTo l (k + 1)).map intCells).flatten := by rw [HB.out]; exact own_below rA b2
        have hzW : wr.heap.size < W.heap.size := Nat.lt_of_lt_of_le hzA b2.size
        have z1W : w1.heap.size < W.heap.size := Nat.lt_trans hzr hzW
        clear hw' cS j0 j5 d0 d5 b2 bA rA xA dh hr hbd
        go_upto_region 12 with fail
        cases dl with
        | false =>
          have hv1 := varL_length ((sn : Int) : Int)
          have hv2 := varL_length sq
          have hp1 := pie_len (ky.data.toList.drop sn)
          have hp2 := pie_len vl.data.toList
          have hky : ky.data.toList.length = ky.size := by simp
          have hvs : vl.data.toList.length = vl.size := by simp
          rw [List.length_drop] at hp1
          have hfl := flgL_len false
          have hc1 : ¬ 9223372036854775807 < (varL (sn : Int)).length + (pieL (ky.data.toList.drop sn)).length := by omega
          have hc2 : ¬ 9223372036854775807 < (varL (sn : Int)).length + ((pieL (ky.data.toList.drop sn)).length + (varL sq).length) := by omega
          have hc2' : ¬ 9223372036854775807 < (varL (sn : Int)).length + (pieL (ky.data.toList.drop sn)).length + (varL sq).length := by omega
          have hc3 : ¬ 9223372036854775807 < (varL (sn : Int)).length + ((pieL (ky.data.toList.drop sn)).length + ((varL sq).length + 1)) := by omega
          have hc3' : ¬ 9223372036854775807 < (varL (sn : Int)).length + (pieL (ky.data.toList.drop sn)).length + (varL sq).length + 1 := by omega
          have hc4 : ¬ 9223372036854775807 < (varL (sn : Int)).length + ((pieL (ky.data.toList.drop sn)).length + ((varL sq).length + (1 + (pieL vl.data.toList).length))) := by omega
          have hc4' : ¬ 9223372036854775807 < (varL (sn : Int)).length + (pieL (ky.data.toList.drop sn)).length + (varL sq).length + 1 + (pieL vl.data.toList).length := by omega
          have hc6 : ¬ 9223372036854775807 < (varL (sn : Int)).length + ((pieL (ky.data.toList.drop sn)).length + (varL sq).length) + 1 := by omega
          have hc7 : ¬ 9223372036854775807 < (varL (sn : Int)).length + ((pieL (ky.data.toList.drop sn)).length + ((varL sq).length + 1)) + (pieL vl.data.toList).length := by omega
          have hc5 : ¬ 9223372036854775807 < (varL (sn : Int)).length + ((pieL (ky.data.toList.drop sn)).length + ((varL sq).length + ((pieL vl.data.toList).length + 1))) := by omega
          have g0 : W.drew.cell? ⟨wr.heap.size, 0, none⟩ = some (.string ky) := by rw [Lib.cell_of_heap (w := W.drew) fh]; rfl
          have g1 : W.drew.cell? ⟨wr.heap.size, 1, none⟩ = some (.int .i64 sq) := by rw [Lib.cell_of_heap (w := W.drew) fh]; rfl
          have g2 : W.drew.cell? ⟨wr.heap.size, 2, none⟩ = some (.bool false) := by rw [Lib.cell_of_heap (w := W.drew) fh]; rfl
          have g3 : W.drew.cell? ⟨wr.heap.size, 3, none⟩ = some (.string vl) := by rw [Lib.cell_of_heap (w := W.drew) fh]; rfl
          have hzD : wr.heap.size < W.drew.heap.size := hzW
          have xD : RowKit.Below w.heap.size w W.drew := xW.drew
          have HBD := Lib.hid (show Lib.IsBuilder 122 5 w1.heap.size w1.heap.size (Lib.byteCells T) W.drew from bW)
          have HFD := Lib.hid (show W.drew.heap[wr.heap.size]? = some (.cells #[.string ky, .int .i64 sq, .bool false, .string vl] 30 (0, 0)) from fh)
          have HRD := Lib.hid (show W.drew.ownsRow w.heap.size 3 1 (.slice oo U.length co) (plcTo l (k + 1)).length ((plcTo l (k + 1)).map intCells).flatten from rW)
          have hz1D : w1.heap.size ≤ W.drew.heap.size := Nat.le_of_lt z1W
          clear fh rW bW xW
          go_region_held3 (fun w' => w'.cell? ⟨wr.heap.size, 0, none⟩ = some (.string ky) ∧ w'.cell? ⟨wr.heap.size, 1, none⟩ = some (.int .i64 sq) ∧ w'.cell? ⟨wr.heap.size, 2, none⟩ = some (.bool false) ∧ w'.cell? ⟨wr.heap.size, 3, none⟩ = some (.string vl))
            (refine ⟨?_, ?_, ?_, ?_⟩ <;> assumption)
            (first
              | (go_at_call 88; have gg := D5; clear gg; refine (writeStr_any w1.heap.size w1.heap.size T _ _ (bld_below HBD.out D5) (by rw [str_size]; simp; omega) (Nat.le_trans hz1D D5.size)).mono ?_; rintro e a6 ⟨rfl, hb6, b6, k6⟩; have o6 := k6 _ _ _ _ ((D5.block wr.heap.size hzD).trans HFD.out) (by decide) (by omega); have m0 : a6.cell? ⟨wr.heap.size, 0, none⟩ = some (.string ky) := (by rw [Lib.cell_of_heap o6]; rfl); have m1 : a6.cell? ⟨wr.heap.size, 1, none⟩ = some (.int .i64 sq) := (by rw [Lib.cell_of_heap o6]; rfl); have m2 : a6.cell? ⟨wr.heap.size, 2, none⟩ = some (.bool false) := (by rw [Lib.cell_of_heap o6]; rfl); have m3 : a6.cell? ⟨wr.heap.size, 3, none⟩ = some (.string vl) := (by rw [Lib.cell_of_heap o6]; rfl))
              | (go_at_call 90; have gg := D3; clear gg; refine (short_any vl _ (by omega)).mono ?_; rintro e a5 ⟨rfl, c5⟩; have D5 := D3.trans (c5.mono D3.size); have p0 := (bcell D5).1 wr.heap.size 0 hzD; have p1 := (bcell D5).1 wr.heap.size 1 hzD; have p2 := (bcell D5).1 wr.heap.size 2 hzD; have p3 := (bcell D5).1 wr.heap.size 3 hzD; rw [g0] at p0; rw [g1] at p1; rw [g2] at p2; rw [g3] at p3)
              | (go_at_call 128; refine (flagB_any false _).mono ?_; rintro e w' ⟨rfl, rfl⟩)
              | (go_at_call 89; have gg := D2; clear gg; refine (implVar sq _).mono ?_; rintro e a3 ⟨rfl, c3⟩; have D3 := D2.trans (c3.mono D2.size); have r0 := (bcell D3).1 wr.heap.size 0 hzD; have r1 := (bcell D3).1 wr.heap.size 1 hzD; have r2 := (bcell D3).1 wr.heap.size 2 hzD; have r3 := (bcell D3).1 wr.heap.size 3 hzD; rw [g0] at r0; rw [g1] at r1; rw [g2] at r2; rw [g3] at r3)
              | (go_at_call 90; refine (short_any (ky.extract sn ky.size) _ (by rw [EXS]; omega)).mono ?_; rintro e a2 ⟨rfl, c2⟩; rw [EXD]; have D2 := D1.trans (c2.mono D1.size); have s0 := (bcell D2).1 wr.heap.size 0 hzD; have s1 := (bcell D2).1 wr.heap.size 1 hzD; have s2 := (bcell D2).1 wr.heap.size 2 hzD; have s3 := (bcell D2).1 wr.heap.size 3 hzD; rw [g0] at s0; rw [g1] at s1; rw [g2] at s2; rw [g3] at s3)
              | (go_at_call 89; refine (implVar (sn : Int) _).mono ?_; rintro e a1 ⟨rfl, c1⟩; have D1 := c1; have t0 := (bcell D1).1 wr.heap.size 0 hzD; have t1 := (bcell D1).1 wr.heap.size 1 hzD; have t2 := (bcell D1).1 wr.heap.size 2 hzD; have t3 := (bcell D1).1 wr.heap.size 3 hzD; rw [g0] at t0; rw [g1] at t1; rw [g2] at t2; rw [g3] at t3))
          all_goals
            rw [str_data] at hb6
            have x6 : RowKit.Below w.heap.size w a6 := (xD.trans (D5.mono xD.size)).trans (b6.mono b1.size)
            have q5 := bld_below HBD.out D5
            have r6 := own_kept (own_below HRD.out D5) (fun j cs fr hj => k6 j cs _ fr hj (by decide) (bld_ne q5 hj (by decide)))
            have z6 : w1.heap.size < a6.heap.size := Nat.lt_of_lt_of_le z1W (Nat.le_trans D5.size b6.size)
            clear q5 k6 b6 D5 D3 D2 D1
            go_wp2
            go_roundw
            case rel => exact ⟨k + 1, by omega, by go_num, r6, by rw [HS.out, HP.out]; simpa [flgL] using hb6, x6, z6⟩
            case measure => simp [intOf]; omega
        | true =>
          have hv1 := varL_length ((sn : Int) : Int)
          have hv2 := varL_length sq
          have hp1 := pie_len (ky.data.toList.drop sn)
          have hp2 := pie_len vl.data.toList
          have hky : ky.data.toList.length = ky.size := by simp
          have hvs : vl.data.toList.length = vl.size := by simp
          rw [List.length_drop] at hp1
          have hfl := flgL_len true
          have hc1 : ¬ 9223372036854775807 < (varL (sn : Int)).length + (pieL (ky.data.toList.drop sn)).length := by omega
          have hc2 : ¬ 9223372036854775807 < (varL (sn : Int)).length + ((pieL (ky.data.toList.drop sn)).length + (varL sq).length) := by omega
          have hc2' : ¬ 9223372036854775807 < (varL (sn : Int)).length + (pieL (ky.data.toList.drop sn)).length + (varL sq).length := by omega
          have hc3 : ¬ 9223372036854775807 < (varL (sn : Int)).length + ((pieL (ky.data.toList.drop sn)).length + ((varL sq).length + 1)) := by omega
          have hc3' : ¬ 9223372036854775807 < (varL (sn : Int)).length + (pieL (ky.data.toList.drop sn)).length + (varL sq).length + 1 := by omega
          have hc4 : ¬ 9223372036854775807 < (varL (sn : Int)).length + ((pieL (ky.data.toList.drop sn)).length + ((varL sq).length + (1 + (pieL vl.data.toList).length))) := by omega
          have hc4' : ¬ 9223372036854775807 < (varL (sn : Int)).length + (pieL (ky.data.toList.drop sn)).length + (varL sq).length + 1 + (pieL vl.data.toList).length := by omega
          have hc6 : ¬ 9223372036854775807 < (varL (sn : Int)).length + ((pieL (ky.data.toList.drop sn)).length + (varL sq).length) + 1 := by omega
          have hc7 : ¬ 9223372036854775807 < (varL (sn : Int)).length + ((pieL (ky.data.toList.drop sn)).length + ((varL sq).length + 1)) + (pieL vl.data.toList).length := by omega
          have hc5 : ¬ 9223372036854775807 < (varL (sn : Int)).length + ((pieL (ky.data.toList.drop sn)).length + ((varL sq).length + ((pieL vl.data.toList).length + 1))) := by omega
          have g0 : W.drew.cell? ⟨wr.heap.size, 0, none⟩ = some (.string ky) := by rw [Lib.cell_of_heap (w := W.drew) fh]; rfl
          have g1 : W.drew.cell? ⟨wr.heap.size, 1, none⟩ = some (.int .i64 sq) := by rw [Lib.cell_of_heap (w := W.drew) fh]; rfl
          have g2 : W.drew.cell? ⟨wr.heap.size, 2, none⟩ = some (.bool true) := by rw [Lib.cell_of_heap (w := W.drew) fh]; rfl
          have g3 : W.drew.cell? ⟨wr.heap.size, 3, none⟩ = some (.string vl) := by rw [Lib.cell_of_heap (w := W.drew) fh]; rfl
          have hzD : wr.heap.size < W.drew.heap.size := hzW
          have xD : RowKit.Below w.heap.size w W.drew := xW.drew
          have HBD := Lib.hid (show Lib.IsBuilder 122 5 w1.heap.size w1.heap.size (Lib.byteCells T) W.drew from bW)
          have HFD := Lib.hid (show W.drew.heap[wr.heap.size]? = some (.cells #[.string ky, .int .i64 sq, .bool true, .string vl] 30 (0, 0)) from fh)
          have HRD := Lib.hid (show W.drew.ownsRow w.heap.size 3 1 (.slice oo U.length co) (plcTo l (k + 1)).length ((plcTo l (k + 1)).map intCells).flatten from rW)
          have hz1D : w1.heap.size ≤ W.drew.heap.size := Nat.le_of_lt z1W
          clear fh rW bW xW
          go_region_held3 (fun w' => w'.cell? ⟨wr.heap.size, 0, none⟩ = some (.string ky) ∧ w'.cell? ⟨wr.heap.size, 1, none⟩ = some (.int .i64 sq) ∧ w'.cell? ⟨wr.heap.size, 2, none⟩ = some (.bool true) ∧ w'.cell? ⟨wr.heap.size, 3, none⟩ = some (.string vl))
            (refine ⟨?_, ?_, ?_, ?_⟩ <;> assumption)
            (first
              | (go_at_call 88; have gg := D5; clear gg; refine (writeStr_any w1.heap.size w1.heap.size T _ _ (bld_below HBD.out D5) (by rw [str_size]; simp; omega) (Nat.le_trans hz1D D5.size)).mono ?_; rintro e a6 ⟨rfl, hb6, b6, k6⟩; have o6 := k6 _ _ _ _ ((D5.block wr.heap.size hzD).trans HFD.out) (by decide) (by omega); have m0 : a6.cell? ⟨wr.heap.size, 0, none⟩ = some (.string ky) := (by rw [Lib.cell_of_heap o6]; rfl); have m1 : a6.cell? ⟨wr.heap.size, 1, none⟩ = some (.int .i64 sq) := (by rw [Lib.cell_of_heap o6]; rfl); have m2 : a6.cell? ⟨wr.heap.size, 2, none⟩ = some (.bool true) := (by rw [Lib.cell_of_heap o6]; rfl); have m3 : a6.cell? ⟨wr.heap.size, 3, none⟩ = some (.string vl) := (by rw [Lib.cell_of_heap o6]; rfl))
              | (go_at_call 90; have gg := D3; clear gg; refine (short_any vl _ (by omega)).mono ?_; rintro e a5 ⟨rfl, c5⟩; have D5 := D3.trans (c5.mono D3.size); have p0 := (bcell D5).1 wr.heap.size 0 hzD; have p1 := (bcell D5).1 wr.heap.size 1 hzD; have p2 := (bcell D5).1 wr.heap.size 2 hzD; have p3 := (bcell D5).1 wr.heap.size 3 hzD; rw [g0] at p0; rw [g1] at p1; rw [g2] at p2; rw [g3] at p3)
              | (go_at_call 128; refine (flagB_any true _).mono ?_; rintro e w' ⟨rfl, rfl⟩)
              | (go_at_call 89; have gg := D2; clear gg; refine (implVar sq _).mono ?_; rintro e a3 ⟨rfl, c3⟩; have D3 := D2.trans (c3.mono D2.size); have r0 := (bcell D3).1 wr.heap.size 0 hzD; have r1 := (bcell D3).1 wr.heap.size 1 hzD; have r2 := (bcell D3).1 wr.heap.size 2 hzD; have r3 := (bcell D3).1 wr.heap.size 3 hzD; rw [g0] at r0; rw [g1] at r1; rw [g2] at r2; rw [g3] at r3)
              | (go_at_call 90; refine (short_any (ky.extract sn ky.size) _ (by rw [EXS]; omega)).mono ?_; rintro e a2 ⟨rfl, c2⟩; rw [EXD]; have D2 := D1.trans (c2.mono D1.size); have s0 := (bcell D2).1 wr.heap.size 0 hzD; have s1 := (bcell D2).1 wr.heap.size 1 hzD; have s2 := (bcell D2).1 wr.heap.size 2 hzD; have s3 := (bcell D2).1 wr.heap.size 3 hzD; rw [g0] at s0; rw [g1] at s1; rw [g2] at s2; rw [g3] at s3)
              | (go_at_call 89; refine (implVar (sn : Int) _).mono ?_; rintro e a1 ⟨rfl, c1⟩; have D1 := c1; have t0 := (bcell D1).1 wr.heap.size 0 hzD; have t1 := (bcell D1).1 wr.heap.size 1 hzD; have t2 := (bcell D1).1 wr.heap.size 2 hzD; have t3 := (bcell D1).1 wr.heap.size 3 hzD; rw [g0] at t0; rw [g1] at t1; rw [g2] at t2; rw [g3] at t3))
          all_goals
            rw [str_data] at hb6
            have x6 : RowKit.Below w.heap.size w a6 := (xD.trans (D5.mono xD.size)).trans (b6.mono b1.size)
            have q5 := bld_below HBD.out D5
            have r6 := own_kept (own_below HRD.out D5) (fun j cs fr hj => k6 j cs _ fr hj (by decide) (bld_ne q5 hj (by decide)))
            have z6 : w1.heap.size < a6.heap.size := Nat.lt_of_lt_of_le z1W (Nat.le_trans D5.size b6.size)
            clear q5 k6 b6 D5 D3 D2 D1
            go_wp2
            go_roundw
            case rel => exact ⟨k + 1, by omega, by go_num, r6, by rw [HS.out, HP.out]; simpa [flgL] using hb6, x6, z6⟩
            case measure => simp [intOf]; omega
    · obtain rfl : k = l.length := by omega
      have hplen := plcL_len (plcTo l l.length)
      have hvn := varL_length ((plcTo l l.length).length : Int)
      have hfx := fixedL_length_le ((blkTo l l.length).length : Int) 2
      clear hsh h hh
      unfold showKL at HR
      generalize blkTo l l.length = T at *
      generalize plcTo l l.length = U at *
      go_upto_region 16 with (first | (go_at_call 126; refine (Try.Builder_Len _ _ _ _ hbd).mono ?_; rintro e w' ⟨rfl, rfl⟩; rw [Lib.byteCells_length]) | (go_at_call 89; refine (implVar _ _).mono ?_; rintro e w2 ⟨rfl, b2⟩; have hb2 := bld_below hbd b2; have r2 := own_below hr b2; have x2 := hbl.trans (b2.mono hbl.size); have z2 := Nat.lt_of_lt_of_le hzr b2.size) | (go_at_call 88; refine (writeStr_any w1.heap.size w1.heap.size T (str (varL U.length)) _ hb2 (by rw [str_size]; omega) (Nat.le_of_lt z2)).mono ?_; rintro e w3 ⟨rfl, hb3, b3, k3⟩; rw [str_data] at hb3; have r3 := own_kept r2 (fun j cs fr hj => k3 j cs _ fr hj (by decide) (bld_ne hb2 hj (by decide))); have x3 := x2.trans (b3.mono b1.size); have z3 := Nat.lt_of_lt_of_le z2 b3.size))
      clear hbd hb2 hr r2 k3 b2 b3
      go_wp2
      go_loopw [72] (fun i wr2 => ∃ j : Nat, j ≤ U.length ∧ i = .int .i64 j ∧ wr2.ownsRow w.heap.size 3 1 (.slice oo U.length co) (U).length ((U).map intCells).flatten ∧ Lib.IsBuilder 122 5 w1.heap.size w1.heap.size (Lib.byteCells (T ++ varL U.length ++ plcL (U.take j))) wr2 ∧ Below w.heap.size w wr2 ∧ w1.heap.size < wr2.heap.size) (fun i _ => U.length - (intOf i).toNat)
      case atStart => exact ⟨0, by omega, rfl, r3, by simpa [plcL] using hb3, x3, z3⟩
      case round =>
        obtain ⟨j, hj, rfl, hr, hbd, hbl2, hz2⟩ := hrel
        have hpj := plcL_len (U.take j)
        rw [List.length_take] at hpj
        by_cases hlt : j < U.length
        · obtain ⟨g, rfl⟩ : ∃ g, oo = some ⟨g, 0, none⟩ := by
            rcases (Row.of_own hr rfl).shape with ⟨hv, hn⟩ | ⟨g, c, hv, _⟩
            · rw [hn] at hlt; simp at hlt
            · simp at hv; exact ⟨g, hv.1⟩
          have c0 : wr.cell? ⟨g, j, none⟩ = some (.int .i64 U[j]) := own_cell hr (by rw [intCells_flat]; simp [hlt])
          have hvj := varL_length U[j]
          have HT := Lib.hid (show plcL (U.take (j + 1)) = plcL (U.take j) ++ varL U[j] from by rw [List.take_succ_eq_append_getElem hlt, plcL_snoc])
          go_wp2_with (first | (go_at_call 89; refine (implVar _ _).mono ?_; rintro e w4 ⟨rfl, b4⟩; have hb4 := bld_below hbd b4; have r4 := own_below hr b4; have x4 := hbl2.trans (b4.mono hbl2.size); have z4 := Nat.lt_of_lt_of_le hz2 b4.size) | (go_at_call 88; refine (writeStr_any w1.heap.size w1.heap.size _ (str (varL U[j])) _ hb4 (by rw [str_size]; simp; omega) (Nat.le_of_lt z4)).mono ?_; rintro e w5 ⟨rfl, hb5, b5, k5⟩; rw [str_data] at hb5; have r5 := own_kept r4 (fun j cs fr hj => k5 j cs _ fr hj (by decide) (bld_ne hb4 hj (by decide))); have x5 := x4.trans (b5.mono b1.size); have z5 := Nat.lt_of_lt_of_le z4 b5.size))
          go_roundw
          case rel => exact ⟨j + 1, by omega, by go_num, r5, by rw [HT.out]; simpa using hb5, x5, z5⟩
          case measure => simp [intOf]; omega
        · obtain rfl : j = U.length := by omega
          rw [List.take_length] at hbd
          go_wp2_with (first | (go_at_call 129; refine (implFixed _ _ _ (by omega)).mono ?_; rintro e w4 ⟨rfl, b4⟩; have hb4 := bld_below hbd b4; have x4 := hbl2.trans (b4.mono hbl2.size); have z4 := Nat.lt_of_lt_of_le hz2 b4.size) | (go_at_call 88; refine (writeStr_any w1.heap.size w1.heap.size _ (str (fixedL T.length 2)) _ hb4 (by rw [str_size]; simp; omega) (Nat.le_of_lt z4)).mono ?_; rintro e w5 ⟨rfl, hb5, b5, _⟩; rw [str_data] at hb5; have x5 := x4.trans (b5.mono b1.size); have z5 := Nat.lt_of_lt_of_le z4 b5.size; have hb5' : Lib.IsBuilder 122 5 w1.heap.size w1.heap.size (Lib.byteCells (T ++ (varL U.length ++ (plcL U ++ fixedL T.length 2)))) w5 := (by simpa using hb5)) | (go_at_call 91; refine (Try.Builder_String_any _ _ _ _ hb5' (Nat.le_of_lt z5)).mono ?_; rintro e w6 ⟨rfl, b6⟩; have x6 := x5.trans (b6.mono b1.size)))
          go_ret
          exact ⟨by rw [HR.out]; rfl, x6⟩
end Go.Proofs.Ytmbmflhcimkjpaa

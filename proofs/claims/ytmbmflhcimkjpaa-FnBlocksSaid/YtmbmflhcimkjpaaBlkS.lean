
/- Walks: ShowBlock of the reference. -/
import Derived.Test.YtmbmflhcimkjpaaBlkC
import Derived.Test.YtmbmflhcimkjpaaMemW
import Derived.Lib.QuietBelow
import Derived.Deep.DeepCutAuto
import Derived.BigQuiet
set_option linter.unusedVariables false
set_option linter.unusedSimpArgs false
namespace Go.Proofs.Ytmbmflhcimkjpaa
open Go.RowKit Sp Go.Sort
attribute [local go_sem] str_size str_append
theorem str_zero (a : List UInt8) : str a ++ (ByteArray.mk #[0]) = str (a ++ [0]) := str_append a [0]
theorem str_one (a : List UInt8) : str a ++ (ByteArray.mk #[1]) = str (a ++ [1]) := str_append a [1]
attribute [local go_sem] str_zero str_one

set_option maxRecDepth 100000 in
set_option maxHeartbeats 1600000 in
theorem specShowBlock (v : Value) (l : List EntR) (w : World) (h : SlT EntR.cells 4 w v l) (hl : (l.length : Int) ≤ 1048576) :
    Calls Try.prog 50 #[v] w fun e w' => e = .returned (.string (str (showBlkL l))) ∧ Below w.heap.size w w' := by
  have hh := h
  obtain ⟨ao, cap, rfl, hlc, hcm, hsh⟩ := hh.shape
  rcases hn : inB l.length 1 16 with _ | _
  · have HR := Lib.hid (showBlkL_not (l := l) (by simp [blockB, hn]))
    clear hsh hh
    go_enter Try.func50, Try.ntmps50
    go_wp2_with (go_at_call 107; refine (l1In_any _ _ _ _).mono ?_; rintro e w' ⟨rfl, rfl⟩; rw [hn])
    go_ret
    exact ⟨by rw [HR.out]; rfl, Below.refl _ _⟩
  rcases he : entsB l with _ | _
  · have HR := Lib.hid (showBlkL_not (l := l) (by simp [blockB, he]))
    clear hsh hh
    go_enter Try.func50, Try.ntmps50
    go_wp2_with (first | (go_at_call 107; refine (l1In_any _ _ _ _).mono ?_; rintro e w' ⟨rfl, rfl⟩; rw [hn]) | (go_at_call 119; refine (specEnts_any _ l _ h hl).mono ?_; rintro e w1 ⟨rfl, b1⟩; rw [he]))
    go_ret
    exact ⟨by rw [HR.out]; rfl, b1⟩
  have HR := Lib.hid (showBlkL_yes (l := l) (by simp [blockB, hn, he]))
  have h16 : l.length ≤ 16 := by simp [inB] at hn; omega
  have HSZ := Lib.hid (fun k hk => entsB_sizes he k hk)
  have HLN := Lib.hid (fun k hk => blkTo_len he k hk)
  go_enter Try.func50, Try.ntmps50
  go_upto_region 3 with (first | (go_at_call 107; refine (l1In_any _ _ _ _).mono ?_; rintro e w' ⟨rfl, rfl⟩; rw [hn]) | (go_at_call 119; refine (specEnts_any _ l _ h hl).mono ?_; rintro e w1 ⟨rfl, b1⟩; rw [he]))
  clear hn he
  go_wp2
  go_loopw [3, 4, 5, 6] (fun s p n i wr => ∃ k : Nat, k ≤ l.length ∧ i = .int .i64 k ∧ s = .string (str (blkTo l k)) ∧ p = .string (str (plcL (plcTo l k))) ∧ n = .int .i64 ((plcTo l k).length : Nat) ∧ Below w.heap.size w wr) (fun _ _ _ i _ => l.length - (intOf i).toNat)
  case atStart => exact ⟨0, by omega, rfl, rfl, rfl, rfl, b1⟩
  case round =>
    obtain ⟨k, hk, rfl, rfl, rfl, rfl, hbl⟩ := hrel
    have hbk := HLN.out k hk
    have hpk := plcTo_len l k
    have hpl := plcL_len (plcTo l k)
    by_cases hlt : k < l.length
    · obtain ⟨b, off, hb, hbs, hc⟩ := hsh (by omega)
      subst hb
      have hc0 : wr.cell? ⟨b, off + k * 4, none⟩ = some (.string l[k].key) := (hbl.cell (p := ⟨b, off + k * 4, none⟩) hbs).trans (hc k hlt 0 _ rfl)
      have hc1 : wr.cell? ⟨b, off + k * 4 + 1, none⟩ = some (.int .i64 l[k].seq) := (hbl.cell (p := ⟨b, off + k * 4 + 1, none⟩) hbs).trans (hc k hlt 1 _ rfl)
      have hc2 : wr.cell? ⟨b, off + k * 4 + 2, none⟩ = some (.bool l[k].del) := (hbl.cell (p := ⟨b, off + k * 4 + 2, none⟩) hbs).trans (hc k hlt 2 _ rfl)
      have hc3 : wr.cell? ⟨b, off + k * 4 + 3, none⟩ = some (.string l[k].val) := (hbl.cell (p := ⟨b, off + k * 4 + 3, none⟩) hbs).trans (hc k hlt 3 _ rfl)
      have hsz := HSZ.out k hlt
      have HS := Lib.hid (blkTo_step hlt)
      have HL : ∀ n, entL n l[k] = varL n ++ (pieL (l[k].key.data.toList.drop n) ++ (varL l[k].seq ++ ((if l[k].del then [1] else [0]) ++ pieL l[k].val.data.toList))) := fun n => rfl
      have hshl := shr_le hlt
      have HN : ¬ k % 4 = 0 → ∃ p : ByteArray, wr.cell? ⟨b, off + (k - 1) * 4, none⟩ = some (.string p) ∧ p.size ≤ 10 ∧ shr l k = comm p.data.toList l[k].key.data.toList := fun h4 => by
        have hp : k - 1 < l.length := by omega
        exact ⟨l[k - 1].key, (hbl.cell (p := ⟨b, off + (k - 1) * 4, none⟩) hbs).trans (hc (k - 1) hp 0 _ rfl), (HSZ.out (k - 1) hp).1, by rw [shr_next h4 hlt hp, comm_symm]⟩
      have HNN := Lib.hid HN
      clear hc hsh h hh HN
      generalize l[k].key = ky at *
      generalize l[k].seq = sq at *
      generalize l[k].val = vl at *
      generalize hd : l[k].del = dl at *
      generalize hT : blkTo l k = T at *
      generalize hU : plcTo l k = U at *
      generalize hS4 : shr l k = sn at *
      cases dl with
      | false =>
        have HP := Lib.hid HL
        clear HL
        by_cases h4 : k % 4 = 0
        · have h4i : ((k : Int) % 4) = 0 := by omega
          have HB := Lib.hid (show plcTo l (k + 1) = U ++ [(T.length : Int)] from by have h := plcTo_hit l h4; rwa [hU, hT] at h)
          have HZ := Lib.hid (show sn = 0 from by rw [← hS4]; exact shr_zero h4)
          go_upto_region 12 with fail
          have d0 : (wr.alloc (.cells #[.string ky, .int .i64 sq, .bool false, .string vl] 30)).cell? ⟨wr.heap.size, 0, none⟩ = some (.string ky) := by simp [go_sem]
          have d1 : (wr.alloc (.cells #[.string ky, .int .i64 sq, .bool false, .string vl] 30)).cell? ⟨wr.heap.size, 1, none⟩ = some (.int .i64 sq) := by simp [go_sem]
          have d2 : (wr.alloc (.cells #[.string ky, .int .i64 sq, .bool false, .string vl] 30)).cell? ⟨wr.heap.size, 2, none⟩ = some (.bool false) := by simp [go_sem]
          have d3 : (wr.alloc (.cells #[.string ky, .int .i64 sq, .bool false, .string vl] 30)).cell? ⟨wr.heap.size, 3, none⟩ = some (.string vl) := by simp [go_sem]
          have hzA : wr.heap.size < (wr.alloc (.cells #[.string ky, .int .i64 sq, .bool false, .string vl] 30)).heap.size := by simp
          have xA := hbl.alloc hbl.size (.cells #[.string ky, .int .i64 sq, .bool false, .string vl] 30)
          generalize (wr.alloc (.cells #[.string ky, .int .i64 sq, .bool false, .string vl] 30)) = wA at d0 d1 d2 d3 xA hzA ⊢
          clear hc0 hc1 hc2 hc3
          have hvT := varL_length (T.length : Int)
          go_upto_region 18 with (go_at_call 132; refine (specVar _ _).mono ?_; rintro e w2 ⟨rfl, b2⟩; have x2 := xA.trans (b2.mono xA.size); obtain ⟨hc, hf⟩ := bcell b2; have f0 := (hc wr.heap.size 0 hzA).trans d0; have f1 := (hc wr.heap.size 1 hzA).trans d1; have f2 := (hc wr.heap.size 2 hzA).trans d2; have f3 := (hc wr.heap.size 3 hzA).trans d3; clear hc hf d0 d1 d2 d3)
          have k0 := cell_regrown f0
          have hv1 := varL_length (0 : Int)
          have hv2 := varL_length sq
          have hp1 := pie_len ky.data.toList
          have hp2 := pie_len vl.data.toList
          have hky : ky.data.toList.length = ky.size := by simp
          have hvs : vl.data.toList.length = vl.size := by simp
          skip
          have k1 := cell_regrown f1
          have k3 := cell_regrown f3
          have cA : ∀ d os, Calls Try.prog 132 #[.int .i64 0] (grow (redrawn w2 d) os) fun e w'' => e = .returned (.string (str (varL 0))) ∧ ∃ p : Regrown, w'' = grow (redrawn w2 p.d) p.os := fun d os => Calls.regrown_of (specVar _ _)
          have cC : ∀ d os, Calls Try.prog 132 #[.int .i64 sq] (grow (redrawn w2 d) os) fun e w'' => e = .returned (.string (str (varL sq))) ∧ ∃ p : Regrown, w'' = grow (redrawn w2 p.d) p.os := fun d os => Calls.regrown_of (specVar _ _)
          have cD : ∀ d os, Calls Try.prog 134 #[.string vl] (grow (redrawn w2 d) os) fun e w'' => e = .returned (.string (str (pieL vl.data.toList))) ∧ ∃ p : Regrown, w'' = grow (redrawn w2 p.d) p.os := fun d os => Calls.regrown_of (l6Piece_any _ _ (by omega))
          have cB : ∀ d os, Calls Try.prog 134 #[.string ky] (grow (redrawn w2 d) os) fun e w'' => e = .returned (.string (str (pieL ky.data.toList))) ∧ ∃ p : Regrown, w'' = grow (redrawn w2 p.d) p.os := fun d os => Calls.regrown_of (by have h := l6Piece_any ky (grow (redrawn w2 d) os) (by omega); exact h)
          refine wp_region_quiet_below (by kernel_rfl) (by kernel_rfl) ?_
          iterate 2 (go_big_quiet_step (fail))
          go_big_quiet_step (exact cA _ _)
          iterate 5 (go_big_quiet_step (fail))
          go_big_quiet_step (exact cB _ _)
          iterate 3 (go_big_quiet_step (fail))
          go_big_quiet_step (exact cC _ _)
          iterate 5 (go_big_quiet_step (fail))
          go_big_quiet_step (exact cD _ _)
          repeat (go_big_quiet_step (fail))
          refine wpQuiet_nil ?_
          intro w4 hw'
          have x4 : RowKit.Below w.heap.size w w4 := by obtain ⟨p, rfl⟩ := hw'; exact x2.trans ((below_regrown _ _ _).mono x2.size)
          clear hw' cA cB cC cD k0 k1 k3 f0 f1 f2 f3
          go_wp2
          go_roundw
          case rel => exact ⟨k + 1, by omega, by go_num, by rw [HS.out, HP.out, HZ.out]; simp, by rw [HB.out]; rw [plcL_snoc], by rw [HB.out]; simp, x4⟩
          case measure => simp [intOf]; omega
        · obtain ⟨p, hpc, hps, hpe⟩ := HNN.out h4
          have hp0 : (0 : Int) ≤ (k : Int) - 1 := by omega
          have hp1' : ((k : Int) - 1).toNat = k - 1 := by omega
          have hp2 : (k : Int) - 1 < l.length := by omega
          have hp3 : IntKind.i64.wrap ((k : Int) - 1) = (k : Int) - 1 := by rw [IntKind.wrap_i64]; omega
          have h4i : ¬ ((k : Int) % 4) = 0 := by omega
          have HB := Lib.hid (show plcTo l (k + 1) = U from by rw [plcTo_miss l h4, hU])
          have HZ := Lib.hid (show sn = sn from rfl)
          have EXD : (ky.extract sn ky.size).data.toList = ky.data.toList.drop sn := by simp [ByteArray.data_extract, List.take_of_length_le]
          have EXS : (ky.extract sn ky.size).size = ky.size - sn := by simp
          have hsk : (sn : Int) ≤ ky.size := by omega
          go_upto_region 14 with fail
          have d0 : (wr.alloc (.cells #[.string ky, .int .i64 sq, .bool false, .string vl] 30)).cell? ⟨wr.heap.size, 0, none⟩ = some (.string ky) := by simp [go_sem]
          have d1 : (wr.alloc (.cells #[.string ky, .int .i64 sq, .bool false, .string vl] 30)).cell? ⟨wr.heap.size, 1, none⟩ = some (.int .i64 sq) := by simp [go_sem]
          have d2 : (wr.alloc (.cells #[.string ky, .int .i64 sq, .bool false, .string vl] 30)).cell? ⟨wr.heap.size, 2, none⟩ = some (.bool false) := by simp [go_sem]
          have d3 : (wr.alloc (.cells #[.string ky, .int .i64 sq, .bool false, .string vl] 30)).cell? ⟨wr.heap.size, 3, none⟩ = some (.string vl) := by simp [go_sem]
          have hzA : wr.heap.size < (wr.alloc (.cells #[.string ky, .int .i64 sq, .bool false, .string vl] 30)).heap.size := by simp
          have d5 : (wr.alloc (.cells #[.string ky, .int .i64 sq, .bool false, .string vl] 30)).cell? ⟨b, off + (k - 1) * 4, none⟩ = some (.string p) := by rw [World.cell?_alloc_past _ _ _ (Nat.lt_of_lt_of_le hbs hbl.size)]; exact hpc
          have xA := hbl.alloc hbl.size (.cells #[.string ky, .int .i64 sq, .bool false, .string vl] 30)
          generalize (wr.alloc (.cells #[.string ky, .int .i64 sq, .bool false, .string vl] 30)) = wA at d0 d1 d2 d3 d5 xA hzA ⊢
          clear hc0 hc1 hc2 hc3 hpc
          have j0 := cell_regrown d0
          have j5 := cell_regrown d5
          have cS : ∀ d os, Calls Try.prog 133 #[.string p, .string ky] (grow (redrawn wA d) os) fun e w'' => e = .returned (.int .i64 (sn : Int)) ∧ ∃ p : Regrown, w'' = grow (redrawn wA p.d) p.os := fun d os => Calls.regrown_of (by rw [hpe]; exact l11Shared_any _ _ _ (by omega) (by omega))
          have HPE := Lib.hid hpe
          clear hpe
          refine wp_region_quiet_below (by kernel_rfl) (by kernel_rfl) ?_
          repeat (first | go_big_quiet_step (exact cS _ _) | go_big_quiet_step (fail))
          refine wpQuiet_nil ?_
          intro w2 hw'
          have b2 : RowKit.Below wA.heap.size wA w2 := by obtain ⟨p, rfl⟩ := hw'; exact below_regrown _ _ _
          have x2 := xA.trans (b2.mono xA.size)
          obtain ⟨hc, hf⟩ := bcell b2
          have f0 := (hc wr.heap.size 0 hzA).trans d0
          have f1 := (hc wr.heap.size 1 hzA).trans d1
          have f2 := (hc wr.heap.size 2 hzA).trans d2
          have f3 := (hc wr.heap.size 3 hzA).trans d3
          clear hc hf d0 d1 d2 d3 d5 hw' cS j0 j5 b2
          go_upto_region 18 with fail
          have k0 := cell_regrown f0
          have hv1 := varL_length ((sn : Int) : Int)
          have hv2 := varL_length sq
          have hp1 := pie_len (ky.data.toList.drop sn)
          have hp2 := pie_len vl.data.toList
          have hky : ky.data.toList.length = ky.size := by simp
          have hvs : vl.data.toList.length = vl.size := by simp
          rw [List.length_drop] at hp1
          have k1 := cell_regrown f1
          have k3 := cell_regrown f3
          have cA : ∀ d os, Calls Try.prog 132 #[.int .i64 (sn : Int)] (grow (redrawn w2 d) os) fun e w'' => e = .returned (.string (str (varL (sn : Int)))) ∧ ∃ p : Regrown, w'' = grow (redrawn w2 p.d) p.os := fun d os => Calls.regrown_of (specVar _ _)
          have cC : ∀ d os, Calls Try.prog 132 #[.int .i64 sq] (grow (redrawn w2 d) os) fun e w'' => e = .returned (.string (str (varL sq))) ∧ ∃ p : Regrown, w'' = grow (redrawn w2 p.d) p.os := fun d os => Calls.regrown_of (specVar _ _)
          have cD : ∀ d os, Calls Try.prog 134 #[.string vl] (grow (redrawn w2 d) os) fun e w'' => e = .returned (.string (str (pieL vl.data.toList))) ∧ ∃ p : Regrown, w'' = grow (redrawn w2 p.d) p.os := fun d os => Calls.regrown_of (l6Piece_any _ _ (by omega))
          have cB : ∀ d os, Calls Try.prog 134 #[.string (ky.extract sn ky.size)] (grow (redrawn w2 d) os) fun e w'' => e = .returned (.string (str (pieL (ky.data.toList.drop sn)))) ∧ ∃ p : Regrown, w'' = grow (redrawn w2 p.d) p.os := fun d os => Calls.regrown_of (by have h := l6Piece_any (ky.extract sn ky.size) (grow (redrawn w2 d) os) (by rw [EXS]; omega); rw [EXD] at h; exact h)
          refine wp_region_quiet_below (by kernel_rfl) (by kernel_rfl) ?_
          iterate 2 (go_big_quiet_step (fail))
          go_big_quiet_step (exact cA _ _)
          iterate 5 (go_big_quiet_step (fail))
          go_big_quiet_step (exact cB _ _)
          iterate 3 (go_big_quiet_step (fail))
          go_big_quiet_step (exact cC _ _)
          iterate 5 (go_big_quiet_step (fail))
          go_big_quiet_step (exact cD _ _)
          repeat (go_big_quiet_step (fail))
          refine wpQuiet_nil ?_
          intro w4 hw'
          have x4 : RowKit.Below w.heap.size w w4 := by obtain ⟨p, rfl⟩ := hw'; exact x2.trans ((below_regrown _ _ _).mono x2.size)
          clear hw' cA cB cC cD k0 k1 k3 f0 f1 f2 f3
          go_wp2
          go_roundw
          case rel => exact ⟨k + 1, by omega, by go_num, by rw [HS.out, HP.out, HZ.out]; simp, by rw [HB.out], by rw [HB.out], x4⟩
          case measure => simp [intOf]; omega
      | true =>
        have HP := Lib.hid HL
        clear HL
        by_cases h4 : k % 4 = 0
        · have h4i : ((k : Int) % 4) = 0 := by omega
          have HB := Lib.hid (show plcTo l (k + 1) = U ++ [(T.length : Int)] from by have h := plcTo_hit l h4; rwa [hU, hT] at h)
          have HZ := Lib.hid (show sn = 0 from by rw [← hS4]; exact shr_zero h4)
          go_upto_region 12 with fail
          have d0 : (wr.alloc (.cells #[.string ky, .int .i64 sq, .bool true, .string vl] 30)).cell? ⟨wr.heap.size, 0, none⟩ = some (.string ky) := by simp [go_sem]
          have d1 : (wr.alloc (.cells #[.string ky, .int .i64 sq, .bool true, .string vl] 30)).cell? ⟨wr.heap.size, 1, none⟩ = some (.int .i64 sq) := by simp [go_sem]
          have d2 : (wr.alloc (.cells #[.string ky, .int .i64 sq, .bool true, .string vl] 30)).cell? ⟨wr.heap.size, 2, none⟩ = some (.bool true) := by simp [go_sem]
          have d3 : (wr.alloc (.cells #[.string ky, .int .i64 sq, .bool true, .string vl] 30)).cell? ⟨wr.heap.size, 3, none⟩ = some (.string vl) := by simp [go_sem]
          have hzA : wr.heap.size < (wr.alloc (.cells #[.string ky, .int .i64 sq, .bool true, .string vl] 30)).heap.size := by simp
          have xA := hbl.alloc hbl.size (.cells #[.string ky, .int .i64 sq, .bool true, .string vl] 30)
          generalize (wr.alloc (.cells #[.string ky, .int .i64 sq, .bool true, .string vl] 30)) = wA at d0 d1 d2 d3 xA hzA ⊢
          clear hc0 hc1 hc2 hc3
          have hvT := varL_length (T.length : Int)
          go_upto_region 18 with (go_at_call 132; refine (specVar _ _).mono ?_; rintro e w2 ⟨rfl, b2⟩; have x2 := xA.trans (b2.mono xA.size); obtain ⟨hc, hf⟩ := bcell b2; have f0 := (hc wr.heap.size 0 hzA).trans d0; have f1 := (hc wr.heap.size 1 hzA).trans d1; have f2 := (hc wr.heap.size 2 hzA).trans d2; have f3 := (hc wr.heap.size 3 hzA).trans d3; clear hc hf d0 d1 d2 d3)
          have k0 := cell_regrown f0
          have hv1 := varL_length (0 : Int)
          have hv2 := varL_length sq
          have hp1 := pie_len ky.data.toList
          have hp2 := pie_len vl.data.toList
          have hky : ky.data.toList.length = ky.size := by simp
          have hvs : vl.data.toList.length = vl.size := by simp
          skip
          have k1 := cell_regrown f1
          have k3 := cell_regrown f3
          have cA : ∀ d os, Calls Try.prog 132 #[.int .i64 0] (grow (redrawn w2 d) os) fun e w'' => e = .returned (.string (str (varL 0))) ∧ ∃ p : Regrown, w'' = grow (redrawn w2 p.d) p.os := fun d os => Calls.regrown_of (specVar _ _)
          have cC : ∀ d os, Calls Try.prog 132 #[.int .i64 sq] (grow (redrawn w2 d) os) fun e w'' => e = .returned (.string (str (varL sq))) ∧ ∃ p : Regrown, w'' = grow (redrawn w2 p.d) p.os := fun d os => Calls.regrown_of (specVar _ _)
          have cD : ∀ d os, Calls Try.prog 134 #[.string vl] (grow (redrawn w2 d) os) fun e w'' => e = .returned (.string (str (pieL vl.data.toList))) ∧ ∃ p : Regrown, w'' = grow (redrawn w2 p.d) p.os := fun d os => Calls.regrown_of (l6Piece_any _ _ (by omega))
          have cB : ∀ d os, Calls Try.prog 134 #[.string ky] (grow (redrawn w2 d) os) fun e w'' => e = .returned (.string (str (pieL ky.data.toList))) ∧ ∃ p : Regrown, w'' = grow (redrawn w2 p.d) p.os := fun d os => Calls.regrown_of (by have h := l6Piece_any ky (grow (redrawn w2 d) os) (by omega); exact h)
          refine wp_region_quiet_below (by kernel_rfl) (by kernel_rfl) ?_
          iterate 2 (go_big_quiet_step (fail))
          go_big_quiet_step (exact cA _ _)
          iterate 5 (go_big_quiet_step (fail))
          go_big_quiet_step (exact cB _ _)
          iterate 3 (go_big_quiet_step (fail))
          go_big_quiet_step (exact cC _ _)
          iterate 5 (go_big_quiet_step (fail))
          go_big_quiet_step (exact cD _ _)
          repeat (go_big_quiet_step (fail))
          refine wpQuiet_nil ?_
          intro w4 hw'
          have x4 : RowKit.Below w.heap.size w w4 := by obtain ⟨p, rfl⟩ := hw'; exact x2.trans ((below_regrown _ _ _).mono x2.size)
          clear hw' cA cB cC cD k0 k1 k3 f0 f1 f2 f3
          go_wp2
          go_roundw
          case rel => exact ⟨k + 1, by omega, by go_num, by rw [HS.out, HP.out, HZ.out]; simp, by rw [HB.out]; rw [plcL_snoc], by rw [HB.out]; simp, x4⟩
          case measure => simp [intOf]; omega
        · obtain ⟨p, hpc, hps, hpe⟩ := HNN.out h4
          have hp0 : (0 : Int) ≤ (k : Int) - 1 := by omega
          have hp1' : ((k : Int) - 1).toNat = k - 1 := by omega
          have hp2 : (k : Int) - 1 < l.length := by omega
          have hp3 : IntKind.i64.wrap ((k : Int) - 1) = (k : Int) - 1 := by rw [IntKind.wrap_i64]; omega
          have h4i : ¬ ((k : Int) % 4) = 0 := by omega
          have HB := Lib.hid (show plcTo l (k + 1) = U from by rw [plcTo_miss l h4, hU])
          have HZ := Lib.hid (show sn = sn from rfl)
          have EXD : (ky.extract sn ky.size).data.toList = ky.data.toList.drop sn := by simp [ByteArray.data_extract, List.take_of_length_le]
          have EXS : (ky.extract sn ky.size).size = ky.size - sn := by simp
          have hsk : (sn : Int) ≤ ky.size := by omega
          go_upto_region 14 with fail
          have d0 : (wr.alloc (.cells #[.string ky, .int .i64 sq, .bool true, .string vl] 30)).cell? ⟨wr.heap.size, 0, none⟩ = some (.string ky) := by simp [go_sem]
          have d1 : (wr.alloc (.cells #[.string ky, .int .i64 sq, .bool true, .string vl] 30)).cell? ⟨wr.heap.size, 1, none⟩ = some (.int .i64 sq) := by simp [go_sem]
          have d2 : (wr.alloc (.cells #[.string ky, .int .i64 sq, .bool true, .string vl] 30)).cell? ⟨wr.heap.size, 2, none⟩ = some (.bool true) := by simp [go_sem]
          have d3 : (wr.alloc (.cells #[.string ky, .int .i64 sq, .bool true, .string vl] 30)).cell? ⟨wr.heap.size, 3, none⟩ = some (.string vl) := by simp [go_sem]
          have hzA : wr.heap.size < (wr.alloc (.cells #[.string ky, .int .i64 sq, .bool true, .string vl] 30)).heap.size := by simp
          have d5 : (wr.alloc (.cells #[.string ky, .int .i64 sq, .bool true, .string vl] 30)).cell? ⟨b, off + (k - 1) * 4, none⟩ = some (.string p) := by rw [World.cell?_alloc_past _ _ _ (Nat.lt_of_lt_of_le hbs hbl.size)]; exact hpc
          have xA := hbl.alloc hbl.size (.cells #[.string ky, .int .i64 sq, .bool true, .string vl] 30)
          generalize (wr.alloc (.cells #[.string ky, .int .i64 sq, .bool true, .string vl] 30)) = wA at d0 d1 d2 d3 d5 xA hzA ⊢
          clear hc0 hc1 hc2 hc3 hpc
          have j0 := cell_regrown d0
          have j5 := cell_regrown d5
          have cS : ∀ d os, Calls Try.prog 133 #[.string p, .string ky] (grow (redrawn wA d) os) fun e w'' => e = .returned (.int .i64 (sn : Int)) ∧ ∃ p : Regrown, w'' = grow (redrawn wA p.d) p.os := fun d os => Calls.regrown_of (by rw [hpe]; exact l11Shared_any _ _ _ (by omega) (by omega))
          have HPE := Lib.hid hpe
          clear hpe
          refine wp_region_quiet_below (by kernel_rfl) (by kernel_rfl) ?_
          repeat (first | go_big_quiet_step (exact cS _ _) | go_big_quiet_step (fail))
          refine wpQuiet_nil ?_
          intro w2 hw'
          have b2 : RowKit.Below wA.heap.size wA w2 := by obtain ⟨p, rfl⟩ := hw'; exact below_regrown _ _ _
          have x2 := xA.trans (b2.mono xA.size)
          obtain ⟨hc, hf⟩ := bcell b2
          have f0 := (hc wr.heap.size 0 hzA).trans d0
          have f1 := (hc wr.heap.size 1 hzA).trans d1
          have f2 := (hc wr.heap.size 2 hzA).trans d2
          have f3 := (hc wr.heap.size 3 hzA).trans d3
          clear hc hf d0 d1 d2 d3 d5 hw' cS j0 j5 b2
          go_upto_region 18 with fail
          have k0 := cell_regrown f0
          have hv1 := varL_length ((sn : Int) : Int)
          have hv2 := varL_length sq
          have hp1 := pie_len (ky.data.toList.drop sn)
          have hp2 := pie_len vl.data.toList
          have hky : ky.data.toList.length = ky.size := by simp
          have hvs : vl.data.toList.length = vl.size := by simp
          rw [List.length_drop] at hp1
          have k1 := cell_regrown f1
          have k3 := cell_regrown f3
          have cA : ∀ d os, Calls Try.prog 132 #[.int .i64 (sn : Int)] (grow (redrawn w2 d) os) fun e w'' => e = .returned (.string (str (varL (sn : Int)))) ∧ ∃ p : Regrown, w'' = grow (redrawn w2 p.d) p.os := fun d os => Calls.regrown_of (specVar _ _)
          have cC : ∀ d os, Calls Try.prog 132 #[.int .i64 sq] (grow (redrawn w2 d) os) fun e w'' => e = .returned (.string (str (varL sq))) ∧ ∃ p : Regrown, w'' = grow (redrawn w2 p.d) p.os := fun d os => Calls.regrown_of (specVar _ _)
          have cD : ∀ d os, Calls Try.prog 134 #[.string vl] (grow (redrawn w2 d) os) fun e w'' => e = .returned (.string (str (pieL vl.data.toList))) ∧ ∃ p : Regrown, w'' = grow (redrawn w2 p.d) p.os := fun d os => Calls.regrown_of (l6Piece_any _ _ (by omega))
          have cB : ∀ d os, Calls Try.prog 134 #[.string (ky.extract sn ky.size)] (grow (redrawn w2 d) os) fun e w'' => e = .returned (.string (str (pieL (ky.data.toList.drop sn)))) ∧ ∃ p : Regrown, w'' = grow (redrawn w2 p.d) p.os := fun d os => Calls.regrown_of (by have h := l6Piece_any (ky.extract sn ky.size) (grow (redrawn w2 d) os) (by rw [EXS]; omega); rw [EXD] at h; exact h)
          refine wp_region_quiet_below (by kernel_rfl) (by kernel_rfl) ?_
          iterate 2 (go_big_quiet_step (fail))
          go_big_quiet_step (exact cA _ _)
          iterate 5 (go_big_quiet_step (fail))
          go_big_quiet_step (exact cB _ _)
          iterate 3 (go_big_quiet_step (fail))
          go_big_quiet_step (exact cC _ _)
          iterate 5 (go_big_quiet_step (fail))
          go_big_quiet_step (exact cD _ _)
          repeat (go_big_quiet_step (fail))
          refine wpQuiet_nil ?_
          intro w4 hw'
          have x4 : RowKit.Below w.heap.size w w4 := by obtain ⟨p, rfl⟩ := hw'; exact x2.trans ((below_regrown _ _ _).mono x2.size)
          clear hw' cA cB cC cD k0 k1 k3 f0 f1 f2 f3
          go_wp2
          go_roundw
          case rel => exact ⟨k + 1, by omega, by go_num, by rw [HS.out, HP.out, HZ.out]; simp, by rw [HB.out], by rw [HB.out], x4⟩
          case measure => simp [intOf]; omega
    · obtain rfl : k = l.length := by omega
      have hvn := varL_length ((plcTo l l.length).length : Int)
      have hfx := fixedL_length_le ((blkTo l l.length).length : Int) 2
      clear hsh h hh
      unfold showKL at HR
      generalize blkTo l l.length = T at *
      generalize plcTo l l.length = U at *
      go_wp2_with (first | (go_at_call 132; refine (specVar _ _).mono ?_; rintro e w2 ⟨rfl, b2⟩; have x2 := hbl.trans (b2.mono hbl.size)) | (go_at_call 135; refine (specFixed _ _ _ (by omega)).mono ?_; rintro e w3 ⟨rfl, b3⟩; have x3 := x2.trans (b3.mono x2.size)))
      go_ret
      exact ⟨by rw [HR.out]; simp, x3⟩
end Go.Proofs.Ytmbmflhcimkjpaa

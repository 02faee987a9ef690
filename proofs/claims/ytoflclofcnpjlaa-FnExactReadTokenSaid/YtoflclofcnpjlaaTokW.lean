/- Walks: ReadToken of both sides. -/
import Derived.Test.YtoflclofcnpjlaaRdW
import Derived.Test.YtoflclofcnpjlaaReadVarS
set_option linter.unusedVariables false
set_option linter.unusedSimpArgs false
namespace Go.Proofs.Ytoflclofcnpjlaa
open Go.RowKit Sp Go.Sort
attribute [local go_sem] str_size str_append
namespace Sp
def tv1 (s : ByteArray) : Nat × Nat := readVarL s.data.toList
def tv2 (s : ByteArray) : Nat × Nat := readVarL (s.data.toList.drop (tv1 s).2)
def tokB (secret s : ByteArray) : Bool := decide ((tv1 s).2 ≠ 0) && (decide ((tv2 s).2 ≠ 0) && mintL secret (tv1 s).1 (tv2 s).1 == s.data.toList)
def tokT (secret s : ByteArray) : Nat := if tokB secret s then (tv1 s).1 else 0
def tokE (secret s : ByteArray) : Nat := if tokB secret s then (tv2 s).1 else 0
theorem readVarL_len {l : List UInt8} (h : (readVarL l).2 ≠ 0) : (varL ((readVarL l).1 : Nat)).length = (readVarL l).2 ∧ (readVarL l).2 ≤ l.length := by
  by_cases hn : ∀ k, 1 ≤ k → k ≤ 7 → k ≤ l.length → can (l.take k) = false
  · rw [readVarL_none hn] at h; exact absurd rfl h
  · simp only [Classical.not_forall] at hn
    obtain ⟨k, h1, h7, hs, hc⟩ := hn
    have hc' : can (l.take k) = true := by simpa using hc
    have e := readVarL_can h1 h7 hs hc'
    have hv := val_lt7 (l := l.take k) (by simp; omega)
    rw [e]
    refine ⟨?_, hs⟩
    show (varL ((val (l.take k) : Nat) : Int)).length = k
    rw [varL_nat hv, (can_iff _).1 hc', List.length_take]; omega
theorem tok_done {secret s : ByteArray} (h1 : (tv1 s).2 ≠ 0) (h2 : (tv2 s).2 ≠ 0) (h : (mintL secret (tv1 s).1 (tv2 s).1 == s.data.toList) = true) :
    s.size - ((tv1 s).2 + (tv2 s).2) = 8 ∧ (tv1 s).2 + (tv2 s).2 ≤ s.size := by
  have e := (beq_iff_eq (α := List UInt8)).1 h
  have a1 := readVarL_len h1
  have a2 := readVarL_len h2
  have hsz : s.data.toList.length = s.size := by simp
  have hd : (s.data.toList.drop (tv1 s).2).length = s.size - (tv1 s).2 := by simp
  rcases hm : mintB secret (tv1 s).1 (tv2 s).1 with _ | _
  · rw [mintL_not hm] at e
    have : s.size = 0 := by rw [← hsz, ← e]; rfl
    have a3 := a1.2
    rw [hsz] at a3
    unfold tv1 at h1; omega
  · have hb := mint_block hm
    rw [mintL_yes hm] at e
    have := congrArg List.length e
    rw [List.length_append, List.length_append, List.length_take, hb, hsz] at this
    have a1' : (varL ((tv1 s).1 : Nat)).length = (tv1 s).2 := a1.1
    have a2' : (varL ((tv2 s).1 : Nat)).length = (tv2 s).2 := a2.1
    omega
end Sp
theorem empty_iff (s : ByteArray) (h : 0 < s.size) : s.toList.isEmpty = false := by
  rw [toList_data]
  have hsz : s.data.toList.length = s.size := by simp
  cases hq : s.data.toList with
  | nil => rw [hq] at hsz; simp at hsz; omega
  | cons x l => rfl
theorem ext_all (s : ByteArray) : s.extract 0 s.size = s := by rw [ext_str, List.drop_zero, Nat.sub_zero, List.take_of_length_le (by simp), str_of]

set_option maxRecDepth 100000 in
set_option maxHeartbeats 1600000 in
theorem vars_bad1 (s : ByteArray) (w : World) (hs : (s.size : Int) ≤ 1048576) (h1 : (tv1 s).2 = 0) :
    Calls Try.prog 61 #[.string s, .int .i64 0, .int .i64 2] w fun e w' => ∃ a n c, e = .returned (.tuple #[.slice a n c, .int .i64 (-1)]) ∧ Below w.heap.size w w' := by
  have hb0 : Below w.heap.size w (w.alloc (.cells #[] 3)) := (Below.refl _ _).alloc (Nat.le_refl _) _
  have hx := ext_all s
  have h1' : (readVarL s.data.toList).2 = 0 := h1
  go_enter Try.func61, Try.ntmps61
  go_wp2
  refine wp_loop_rounds 3 ?_
  rw [rounds_succ]
  go_wp2_with fail
  refine (specReadVar s _ (by omega)).mono ?_
  rintro e w1 ⟨rfl, b1⟩
  rw [h1']
  have x1 := hb0.trans (b1.mono hb0.size)
  go_wp2
  go_ret2
  exact ⟨_, _, _, rfl, x1⟩

set_option maxRecDepth 100000 in
set_option maxHeartbeats 1600000 in
theorem vars_bad2 (s : ByteArray) (w : World) (hs : (s.size : Int) ≤ 1048576) (h1 : (tv1 s).2 ≠ 0) (h2 : (tv2 s).2 = 0) :
    Calls Try.prog 61 #[.string s, .int .i64 0, .int .i64 2] w fun e w' => ∃ a n c, e = .returned (.tuple #[.slice a n c, .int .i64 (-1)]) ∧ Below w.heap.size w w' := by
  have h0 : (w.alloc (.cells #[] 3)).ownsRow w.heap.size 3 1 (.slice (some ⟨w.heap.size, 0, none⟩) 0 0) 0 [] := World.ownsRow_lit w #[] 0 (Nat.le_refl _) (by simp [maxLen]) rfl
  have hb0 : Below w.heap.size w (w.alloc (.cells #[] 3)) := (Below.refl _ _).alloc (Nat.le_refl _) _
  have hiw : (Try.prog.info? 3).map (fun i => (i.zero, i.size, i.bytes)) = some (some (.int .i64 0), 1, 8) := by kernel_rfl
  have hx := ext_all s
  have hl1 := (readVarL_len (l := s.data.toList) h1).2
  have hb1 := (readVarL_bd s.data.toList).2
  have hsz : s.data.toList.length = s.size := by simp
  have h2' : (readVarL (s.data.toList.drop (readVarL s.data.toList).2)).2 = 0 := h2
  have h1' : (readVarL s.data.toList).2 ≠ 0 := h1
  have hxd := ext_from s (readVarL s.data.toList).2
  have hxz : ((s.extract (readVarL s.data.toList).2 s.size).size : Int) ≤ 1048576 := by rw [ByteArray.size_extract]; omega
  generalize hq : readVarL s.data.toList = q at *
  obtain ⟨xv, k⟩ := q
  simp only at h2' h1' hl1 hb1 hxd hxz
  have hk0 : ((k : Int) == 0) = false := by simp; omega
  have hkn : (k : Int) ≤ s.size := by omega
  have HQ := Lib.hid hq
  have H2 := Lib.hid h2'
  have HD := Lib.hid hxd
  clear hq h2' hxd h1' h1 h2 hl1
  go_enter Try.func61, Try.ntmps61
  go_wp2
  refine wp_loop_rounds 3 ?_
  rw [rounds_succ]
  go_wp2_with fail
  refine (specReadVar s _ (by omega)).mono ?_
  rintro e w1 ⟨rfl, b1⟩
  rw [HQ.out]
  have x1 := hb0.trans (b1.mono hb0.size)
  have r1 := own_below h0 b1
  clear h0
  go_upto_region 11 with (at_builtin; refine app_new rfl rfl Try.underlying63 hiw rfl (by decide) r1 rfl 1 rfl rfl (by simp [Value.oneCell']) (by omega) x1 (Nat.le_refl _) x1.size ?_; intro v2 w2 r2 x2 g2)
  go_wp2
  rw [rounds_succ]
  go_wp2_with fail
  refine (specReadVar (s.extract k s.size) _ (by omega)).mono ?_
  rintro e w3 ⟨rfl, b3⟩
  rw [HD.out, H2.out]
  have x3 := x2.trans (b3.mono x2.size)
  obtain ⟨g, cap, rfl⟩ : ∃ g cap, v2 = .slice (some ⟨g, 0, none⟩) (0 + 1) cap := own_slice r2 (by omega)
  go_wp2
  go_ret2
  exact ⟨_, _, _, rfl, x3⟩

set_option maxRecDepth 100000 in
set_option maxHeartbeats 1600000 in
theorem vars_ok (s : ByteArray) (w : World) (hs : (s.size : Int) ≤ 1048576) (h1 : (tv1 s).2 ≠ 0) (h2 : (tv2 s).2 ≠ 0) :
    Calls Try.prog 61 #[.string s, .int .i64 0, .int .i64 2] w fun e w' => ∃ g cap, e = .returned (.tuple #[.slice (some ⟨g, 0, none⟩) 2 cap, .int .i64 (((tv1 s).2 + (tv2 s).2 : Nat) : Int)]) ∧ w'.cell? ⟨g, 0, none⟩ = some (.int .i64 ((tv1 s).1 : Nat)) ∧ w'.cell? ⟨g, 1, none⟩ = some (.int .i64 ((tv2 s).1 : Nat)) ∧ Below w.heap.size w w' := by
  have h0 : (w.alloc (.cells #[] 3)).ownsRow w.heap.size 3 1 (.slice (some ⟨w.heap.size, 0, none⟩) 0 0) 0 [] := World.ownsRow_lit w #[] 0 (Nat.le_refl _) (by simp [maxLen]) rfl
  have hb0 : Below w.heap.size w (w.alloc (.cells #[] 3)) := (Below.refl _ _).alloc (Nat.le_refl _) _
  have hiw : (Try.prog.info? 3).map (fun i => (i.zero, i.size, i.bytes)) = some (some (.int .i64 0), 1, 8) := by kernel_rfl
  have hx := ext_all s
  have hl1 := (readVarL_len (l := s.data.toList) h1).2
  have hb1 := (readVarL_bd s.data.toList).2
  have hsz : s.data.toList.length = s.size := by simp
  have h2' : (readVarL (s.data.toList.drop (readVarL s.data.toList).2)).2 ≠ 0 := h2
  have hT1 : tv1 s = readVarL s.data.toList := rfl
  have hT2 : tv2 s = readVarL (s.data.toList.drop (readVarL s.data.toList).2) := rfl
  have hl2 := (readVarL_len h2').2
  have hb2 := (readVarL_bd (s.data.toList.drop (readVarL s.data.toList).2)).2
  have h1' : (readVarL s.data.toList).2 ≠ 0 := h1
  have hxd := ext_from s (readVarL s.data.toList).2
  have hxz : ((s.extract (readVarL s.data.toList).2 s.size).size : Int) ≤ 1048576 := by rw [ByteArray.size_extract]; omega
  generalize hq : readVarL s.data.toList = q at *
  obtain ⟨xv, k⟩ := q
  simp only at h2' h1' hl1 hb1 hxd hxz hl2 hb2 hT2
  generalize hq2 : readVarL (s.data.toList.drop k) = q2 at *
  obtain ⟨yv, k2⟩ := q2
  simp only at h2' hl2 hb2
  have hk20 : ((k2 : Int) == 0) = false := by simp; omega
  have hk2n : (k : Int) + (k2 : Int) ≤ s.size := by rw [List.length_drop] at hl2; omega
  have HQ2 := Lib.hid hq2
  have HT1 := Lib.hid hT1
  have HT2 := Lib.hid hT2
  have hk0 : ((k : Int) == 0) = false := by simp; omega
  have hkn : (k : Int) ≤ s.size := by omega
  have HQ := Lib.hid hq
  have HD := Lib.hid hxd
  clear hq h2' hxd h1' h1 h2 hl1 hl2 hq2 hT1 hT2
  go_enter Try.func61, Try.ntmps61
  go_wp2
  refine wp_loop_rounds 3 ?_
  rw [rounds_succ]
  go_wp2_with fail
  refine (specReadVar s _ (by omega)).mono ?_
  rintro e w1 ⟨rfl, b1⟩
  rw [HQ.out]
  have x1 := hb0.trans (b1.mono hb0.size)
  have r1 := own_below h0 b1
  clear h0
  go_upto_region 11 with (at_builtin; refine app_new rfl rfl Try.underlying63 hiw rfl (by decide) r1 rfl 1 rfl rfl (by simp [Value.oneCell']) (by omega) x1 (Nat.le_refl _) x1.size ?_; intro v2 w2 r2 x2 g2)
  go_wp2
  rw [rounds_succ]
  go_wp2_with fail
  refine (specReadVar (s.extract k s.size) _ (by omega)).mono ?_
  rintro e w3 ⟨rfl, b3⟩
  rw [HD.out, HQ2.out]
  have x3 := x2.trans (b3.mono x2.size)
  have r3 := own_below r2 b3
  clear r2
  have hw9 : IntKind.i64.wrap ((k : Int) + (k2 : Int)) = (k : Int) + (k2 : Int) := by rw [IntKind.wrap_i64]; omega
  go_upto_region 11 with (at_builtin; refine app_new rfl rfl Try.underlying63 hiw rfl (by decide) r3 rfl 1 rfl rfl (by simp [Value.oneCell']) (by omega) x3 (Nat.le_refl _) x3.size ?_; intro v4 w4 r4 x4 g4)
  go_wp2
  rw [rounds_succ]
  go_wp2
  obtain ⟨g, cap, rfl⟩ : ∃ g cap, v4 = .slice (some ⟨g, 0, none⟩) (0 + 1 + 1) cap := own_slice r4 (by omega)
  have d0 := r4.cells (g := g) rfl 0 _ rfl
  have d1 := r4.cells (g := g) rfl 1 _ rfl
  rw [add_none] at d0 d1
  go_ret2
  exact ⟨g, cap, by rw [HT1.out, HT2.out]; rfl, by rw [HT1.out]; simpa using d0, by rw [HT2.out]; simpa using d1, x4⟩
end Go.Proofs.Ytoflclofcnpjlaa


/- Walks: numbers and pieces read by the reference. -/
import Derived.Test.YtfbbdnicplbmdaaTakP
set_option linter.unusedVariables false
set_option linter.unusedSimpArgs false
namespace Go.Proofs.Ytfbbdnicplbmdaa
open Go.RowKit Sp Go.Sort
namespace Sp
/-- So many numbers from a place on: those that stand there, and where they end. -/
def takeVs (s : ByteArray) : Nat → Nat → List Nat × Int
  | p, 0 => ([], (p : Int))
  | p, n + 1 => match takeV s p with
    | none => ([], -1)
    | some (x, q) => (x :: (takeVs s q n).1, (takeVs s q n).2)
def intsL (l : List Nat) : List Value := l.map fun x => Value.int .i64 (x : Nat)
/-- After k of n numbers. -/
structure VsInv (s : ByteArray) (p n k q : Nat) (xs : List Nat) : Prop where
  le : k ≤ n
  len : xs.length = k
  qs : q ≤ s.size
  eq : takeVs s p n = (xs ++ (takeVs s q (n - k)).1, (takeVs s q (n - k)).2)
theorem VsInv.start {s : ByteArray} {p n : Nat} (hp : p ≤ s.size) : VsInv s p n 0 p [] := ⟨Nat.zero_le _, rfl, hp, by simp⟩
theorem VsInv.fin {s : ByteArray} {p n k q : Nat} {xs : List Nat} (h : VsInv s p n k q xs) (hk : ¬ k < n) : takeVs s p n = (xs, (q : Int)) := by
  have := h.eq; have := h.le
  rw [h.eq, show n - k = 0 from by omega]; simp [takeVs]
theorem VsInv.none {s : ByteArray} {p n k q : Nat} {xs : List Nat} (h : VsInv s p n k q xs) (hk : k < n) (hv : takeV s q = none) : takeVs s p n = (xs, -1) := by
  rw [h.eq, show n - k = (n - k - 1) + 1 from by omega]; simp [takeVs, hv]
theorem VsInv.some {s : ByteArray} {p n k q x q' : Nat} {xs : List Nat} (h : VsInv s p n k q xs) (hk : k < n) (hv : takeV s q = some (x, q')) : VsInv s p n (k + 1) q' (xs ++ [x]) := by
  refine ⟨by omega, by simp [h.len], (takeV_some hv).2.2.2, ?_⟩
  rw [h.eq, show n - k = (n - (k + 1)) + 1 from by omega]; simp [takeVs, hv]
end Sp

theorem own_sl {w : World} {base e size n : Nat} {v : Value} {xs : List Value} (h : w.ownsRow base e size v n xs) (hn : 0 < n) : ∃ g cap, v = .slice (some ⟨g, 0, none⟩) n cap := by
  rcases h.2 with ⟨_, h0⟩ | ⟨g, cap, cur, hv, _⟩
  · omega
  · exact ⟨g, cap, hv⟩
set_option maxRecDepth 100000 in
set_option maxHeartbeats 1600000 in
theorem vars_off (s : ByteArray) (a n : Int) (w : World) (hs : (s.size : Int) ≤ 1048576) (ha : a < 0 ∨ (s.size : Int) < a) (hn : 0 < n) :
    Calls Try.prog 90 #[.string s, .int .i64 a, .int .i64 n] w fun e w' => ∃ g, e = .returned (.tuple #[.slice (some ⟨g, 0, none⟩) 0 0, .int .i64 (-1)]) ∧ Below w.heap.size w w' := by
  have hb0 : Below w.heap.size w (w.alloc (.cells #[] 3)) := (Below.refl _ _).alloc (Nat.le_refl _) _
  go_enter Try.func90, Try.ntmps90
  go_wp2
  refine wp_loop_rounds 3 ?_
  rw [rounds_succ]
  rcases ha with ha | ha
  · go_wp2
    go_ret2
    first | exact ⟨_, rfl, hb0⟩ | exact ⟨⟨_, rfl⟩, hb0⟩
  · have ha' : ¬ a < 0 := by omega
    go_wp2
    go_ret2
    first | exact ⟨_, rfl, hb0⟩ | exact ⟨⟨_, rfl⟩, hb0⟩

set_option maxRecDepth 100000 in
set_option maxHeartbeats 1600000 in
theorem vars_any (s : ByteArray) (p n : Nat) (w : World) (hs : (s.size : Int) ≤ 1048576) (hp : (p : Int) ≤ s.size) (hn : (n : Int) ≤ 1000) :
    Calls Try.prog 90 #[.string s, .int .i64 p, .int .i64 n] w fun e w' => ∃ g cap, e = .returned (.tuple #[.slice (some ⟨g, 0, none⟩) (takeVs s p n).1.length cap, .int .i64 (takeVs s p n).2]) ∧ (∀ i (hi : i < (takeVs s p n).1.length), w'.cell? ⟨g, i, none⟩ = some (.int .i64 ((takeVs s p n).1[i] : Nat))) ∧ w.heap.size ≤ g ∧ g < w'.heap.size ∧ Below w.heap.size w w' := by
  have h0 : (w.alloc (.cells #[] 3)).ownsRow w.heap.size 3 1 (.slice (some ⟨w.heap.size, 0, none⟩) 0 0) 0 [] := World.ownsRow_lit w #[] 0 (Nat.le_refl _) (by simp [maxLen]) rfl
  have hb0 : Below w.heap.size w (w.alloc (.cells #[] 3)) := (Below.refl _ _).alloc (Nat.le_refl _) _
  have hiw : (Try.prog.info? 3).map (fun i => (i.zero, i.size, i.bytes)) = some (some (.int .i64 0), 1, 8) := by kernel_rfl
  go_enter Try.func90, Try.ntmps90
  go_wp2
  go_loopw [1, 8, 9] (fun a o i wr => ∃ (k q : Nat) (xs : List Nat), a = .int .i64 q ∧ i = .int .i64 k ∧ VsInv s p n k q xs ∧ wr.ownsRow w.heap.size 3 1 o k (intsL xs) ∧ (∀ g, o.ownBlock = some g → w.heap.size ≤ g) ∧ (∃ g m c, o = .slice (some ⟨g, 0, none⟩) m c) ∧ Below w.heap.size w wr) (fun _ _ i _ => n - (intOf i).toNat)
  case atStart => exact ⟨0, p, [], rfl, rfl, VsInv.start (by omega), h0, fun g hg => by simp [Value.ownBlock] at hg; omega, ⟨_, _, _, rfl⟩, hb0⟩
  case round =>
    obtain ⟨k, q, xs, rfl, rfl, hinv, ho, hge, ⟨g, m, c, rfl⟩, hbl⟩ := hrel
    have hqs : (q : Int) ≤ s.size := by have := hinv.qs; omega
    obtain rfl : k = m := by
      rcases ho.2 with ⟨hv, _⟩ | ⟨g', cap', cur, hv, _⟩
      · cases hv
      · simp at hv; omega
    have HL := Lib.hid hinv.len
    by_cases hk : k < n
    · have hq0 : ¬ (q : Int) < 0 := by omega
      have hx := ext_from s q
      have hxs : ((s.extract q s.size).size : Int) ≤ 1048576 := by rw [ByteArray.size_extract]; omega
      have hr : takeV s q = if (readVarL (s.data.toList.drop q)).2 = 0 then none else some ((readVarL (s.data.toList.drop q)).1, q + (readVarL (s.data.toList.drop q)).2) := rfl
      have hb := readVarL_bd (s.data.toList.drop q)
      have hl2 : (s.data.toList.drop q).length = s.size - q := by simp
      generalize hv : readVarL (s.data.toList.drop q) = rv at *
      obtain ⟨x, j⟩ := rv
      simp only at hr hb
      have HV := Lib.hid hv
      have HX := Lib.hid hx
      have HI := Lib.hid hinv
      by_cases hj : j = 0
      · rw [if_pos hj] at hr
        have HE := Lib.hid (hinv.none hk hr)
        have hj0 : ((j : Int) == 0) = true := by simp [hj]
        clear hv hx hr hinv hl2
        go_wp2_with (go_at_call 152; refine (specReadVar (s.extract q s.size) _ (by omega)).mono ?_; rintro e w1 ⟨rfl, b1⟩; rw [HX.out, HV.out]; have x1 := hbl.trans (b1.mono hbl.size); have o1 := own_below ho b1)
        go_ret2
        rw [HE.out]
        refine ⟨g, c, by rw [HL.out]; rfl, fun i hi => ?_, hge g rfl, (o1.lt _ rfl).2, x1⟩
        have := o1.cells (g := g) rfl i (.int .i64 (xs[i] : Nat)) (by simp [intsL, hi])
        rw [add_none] at this
        simpa using this
      · rw [if_neg hj] at hr
        have HN := Lib.hid (hinv.some hk hr)
        have hj0 : ((j : Int) == 0) = false := by simp; omega
        have hjq : (q : Int) + (j : Int) ≤ s.size := by rw [hl2] at hb; omega
        have hw9 : IntKind.i64.wrap ((q : Int) + (j : Int)) = (q : Int) + (j : Int) := by rw [IntKind.wrap_i64]; omega
        have hx4 : (x : Int) ≤ 562949953421311 := hb.2
        clear hv hx hr hinv hl2 hb
        go_wp2_with fail
        refine (specReadVar (s.extract q s.size) _ (by omega)).mono ?_
        rintro e w1 ⟨rfl, b1⟩
        rw [HX.out, HV.out]
        have x1 := hbl.trans (b1.mono hbl.size)
        have o1 := own_below ho b1
        clear ho
        go_upto_region 11 with (at_builtin; refine app_new rfl rfl Try.underlying125 hiw rfl (by decide) o1 rfl 1 rfl rfl (by simp [Value.oneCell']) (by omega) x1 (Nat.le_refl _) x1.size ?_; intro v2 w2 r2 x2 g2)
        obtain ⟨g2, cap2, rfl⟩ : ∃ g cap, v2 = .slice (some ⟨g, 0, none⟩) (k + 1) cap := own_sl r2 (by omega)
        go_wp2
        go_roundw
        case rel => exact ⟨k + 1, q + j, xs ++ [x], by go_num, by go_num, HN.out, by simpa [intsL] using r2, fun g' hg' => (r2.lt g' hg').1, ⟨_, _, _, rfl⟩, x2⟩
        case measure => simp [intOf]; omega
    · have HE := Lib.hid (hinv.fin hk)
      clear hinv
      go_wp2
      go_ret2
      rw [HE.out]
      refine ⟨g, c, by rw [HL.out]; rfl, fun i hi => ?_, hge g rfl, (ho.lt _ rfl).2, hbl⟩
      have := ho.cells (g := g) rfl i (.int .i64 (xs[i] : Nat)) (by simp [intsL, hi])
      rw [add_none] at this
      simpa using this
end Go.Proofs.Ytfbbdnicplbmdaa

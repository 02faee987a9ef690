
/- Walks: put and MemPut of the program. -/
import Derived.Test.YtmbmflhcimkjpaaMemPB
import Derived.Test.YtmbmflhcimkjpaaIEnt
import Derived.Test.YtmbmflhcimkjpaaCEnt
import Derived.Deep.DeepCutAuto
import Derived.Lib.Hide
set_option linter.unusedVariables false
set_option linter.unusedSimpArgs false
namespace Go.Proofs.Ytmbmflhcimkjpaa
open Go.RowKit Sp Go.Sort

set_option maxRecDepth 100000 in
set_option maxHeartbeats 1600000 in
theorem put_any (v : Value) (l : List EntR) (e : EntR) (lo hi : Nat) (w : World) (hlo : lo ≤ w.heap.size) (h : Row EntR.cells 30 4 lo hi w v l) (hl : l.length < 60) (hm : memB l = true) (he : entB e = true) :
    Calls Try.prog 117 #[v, .agg #[.string e.key, .int .i64 e.seq, .bool e.del, .string e.val]] w fun r w' => ∃ v', r = .returned (.tuple #[v', .bool (putB l e)]) ∧ Row EntR.cells 30 4 lo w'.heap.size w' v' (memPut l e) ∧ Below lo w w' := by
  have hS : SlT EntR.cells 4 w v l := h.slT (fun _ => rfl) (by decide)
  have t0 : (w.alloc (.cells #[.string e.key, .int .i64 e.seq, .bool e.del, .string e.val] 30)).cell? ⟨w.heap.size, 0, none⟩ = some (.string e.key) := by simp [go_sem]
  have t1 : (w.alloc (.cells #[.string e.key, .int .i64 e.seq, .bool e.del, .string e.val] 30)).cell? ⟨w.heap.size, 1, none⟩ = some (.int .i64 e.seq) := by simp [go_sem]
  have t2 : (w.alloc (.cells #[.string e.key, .int .i64 e.seq, .bool e.del, .string e.val] 30)).cell? ⟨w.heap.size, 2, none⟩ = some (.bool e.del) := by simp [go_sem]
  have t3 : (w.alloc (.cells #[.string e.key, .int .i64 e.seq, .bool e.del, .string e.val] 30)).cell? ⟨w.heap.size, 3, none⟩ = some (.string e.val) := by simp [go_sem]
  have hal : RowKit.Below w.heap.size w (w.alloc (.cells #[.string e.key, .int .i64 e.seq, .bool e.del, .string e.val] 30)) := (Below.refl _ _).alloc (Nat.le_refl _) _
  have hsz : (w.alloc (.cells #[.string e.key, .int .i64 e.seq, .bool e.del, .string e.val] 30)).heap.size = w.heap.size + 1 := by simp
  obtain ⟨ao, cap, rfl⟩ := h.form
  have o0 := h.1.alloc (.cells #[.string e.key, .int .i64 e.seq, .bool e.del, .string e.val] 30)
  have hblk : ∀ k, (Value.slice ao l.length cap).ownBlock = some k → lo ≤ k ∧ k < w.heap.size := fun k hk => h.1.lt k hk
  go_enter Try.func117, Try.ntmps117
  go_upto_region 1 with fail
  generalize (w.alloc (.cells #[.string e.key, .int .i64 e.seq, .bool e.del, .string e.val] 30)) = W at *
  have HM := Lib.hid hm
  have HH := Lib.hid he
  clear hm he h
  have hS1 := hS.below hal
  go_wp2_with (go_at_call 177; refine (bsearch_any _ l e _ hS1 (by omega) HM.out).mono ?_; rintro r w2 ⟨q, b, rfl, HP, hT, hF, b2⟩; have z2 := b2.size; have HP' := Lib.hid HP; have HT := Lib.hid hT; have HF := Lib.hid hF; clear HP hT hF; obtain ⟨hc, hf⟩ := bcell b2; have y0 := (hc w.heap.size 0 (by first | omega | (simp <;> omega))).trans t0; have y1 := (hc w.heap.size 1 (by first | omega | (simp <;> omega))).trans t1; have y2 := (hc w.heap.size 2 (by first | omega | (simp <;> omega))).trans t2; have y3 := (hc w.heap.size 3 (by first | omega | (simp <;> omega))).trans t3; clear hc hf; have o2 := own_below o0 b2; have x2 := (hal.mono hlo).trans (b2.mono (by omega)); rcases b with _ | _)
  · have hqn := HP'.out.le
    obtain ⟨hp, hmp⟩ := put_new HM.out HH.out hl HP'.out (by first | exact HF.out rfl | exact HF.out trivial)
    have HR := Lib.hid (show memPut l e = l.take q ++ e :: l.drop q from by rw [memPut, if_pos HM.out, if_pos (by simp [putB, HM.out, hmp])]; unfold putE insAt; rw [hp])
    have HB := Lib.hid (show putB l e = true from by simp [putB, HM.out, hmp])
    clear hp hmp HT HF HP'
    have hne : (Value.slice ao l.length cap).ownBlock ≠ some w2.heap.size := fun e0 => by have := (hblk _ e0).2; omega
    have hIns := insertEnt_any l _ lo (w2.alloc (.cells #[.string e.key, .int .i64 e.seq, .bool e.del, .string e.val] 30)) (by simp; omega) (o2.alloc _) (by omega) q hqn e w2.heap.size 4 30 (fun t u hu => by have := cells_new w2 #[.string e.key, .int .i64 e.seq, .bool e.del, .string e.val] 30 t u hu; rwa [add_none, Nat.zero_add] at this) (by simp) hne (by rw [World.shape?, heap_alloc_new]; rfl) (by simp [go_sem]) (by simp [go_sem])
    go_wp2_with (go_at_call 179; refine hIns.mono ?_; rintro r w4 ⟨v4, rfl, o4, g4, p4⟩; have z4 := g4.size; simp only [World.size_alloc] at z4)
    go_wp2
    refine bodyPost_ret (v := .tuple #[v4, .bool true]) (by simp [results, Try.results117, go_sem]) rfl ?_
    rw [HB.out]
    refine ⟨v4, rfl, ?_, ?_⟩
    · rw [HR.out]
      exact Row.of_own o4 (by simp; omega)
    · refine (x2.alloc (by omega) _).grown g4 (by simp; omega) (fun j hj => (by have := (hblk j hj).1; omega))
  · obtain ⟨hq, hz⟩ := (by first | exact HT.out rfl | exact HT.out trivial : ∃ h : q < l.length, cmpE l[q] e = 0)
    have hbad := put_eq hq hz
    have HR := Lib.hid (show memPut l e = l from by simp [memPut, HM.out, putB, hbad])
    have HB := Lib.hid (show putB l e = false from by simp [putB, hbad])
    clear hbad hz hq HT HF HP'
    go_wp2
    refine bodyPost_ret (v := .tuple #[.slice ao l.length cap, .bool false]) (by simp [results, Try.results117, go_sem]) rfl ?_
    rw [HB.out]
    refine ⟨_, rfl, ?_, x2⟩
    rw [HR.out]
    exact Row.of_own o2 rfl

set_option maxRecDepth 100000 in
set_option maxHeartbeats 800000 in
theorem implMemPut (ad : Option Addr) (cap : Nat) (l : List EntR) (e : EntR) (w : World) (h : SlT EntR.cells 4 w (.slice ad l.length cap) l) (hl : (l.length : Int) ≤ 1048576) :
    Calls Try.prog 36 #[.slice ad l.length cap, .agg #[.string e.key, .int .i64 e.seq, .bool e.del, .string e.val]] w fun r w' => ∃ v', r = .returned (.tuple #[v', .bool (putB l e)]) ∧ Row EntR.cells 30 4 w.heap.size w'.heap.size w' v' (memPut l e) ∧ Below w.heap.size w w' := by
  have t0 : (w.alloc (.cells #[.string e.key, .int .i64 e.seq, .bool e.del, .string e.val] 30)).cell? ⟨w.heap.size, 0, none⟩ = some (.string e.key) := by simp [go_sem]
  have t1 : (w.alloc (.cells #[.string e.key, .int .i64 e.seq, .bool e.del, .string e.val] 30)).cell? ⟨w.heap.size, 1, none⟩ = some (.int .i64 e.seq) := by simp [go_sem]
  have t2 : (w.alloc (.cells #[.string e.key, .int .i64 e.seq, .bool e.del, .string e.val] 30)).cell? ⟨w.heap.size, 2, none⟩ = some (.bool e.del) := by simp [go_sem]
  have t3 : (w.alloc (.cells #[.string e.key, .int .i64 e.seq, .bool e.del, .string e.val] 30)).cell? ⟨w.heap.size, 3, none⟩ = some (.string e.val) := by simp [go_sem]
  have hal : RowKit.Below w.heap.size w (w.alloc (.cells #[.string e.key, .int .i64 e.seq, .bool e.del, .string e.val] 30)) := (Below.refl _ _).alloc (Nat.le_refl _) _
  have hsz : (w.alloc (.cells #[.string e.key, .int .i64 e.seq, .bool e.del, .string e.val] 30)).heap.size = w.heap.size + 1 := by simp
  rcases hm : memB l with _ | _
  · have HR := Lib.hid (show memPut l e = [] from by simp [memPut, hm])
    have HB := Lib.hid (show putB l e = false from by simp [putB, hm])
    go_enter Try.func36, Try.ntmps36
    go_upto_region 1 with fail
    generalize (w.alloc (.cells #[.string e.key, .int .i64 e.seq, .bool e.del, .string e.val] 30)) = W at *
    go_wp2_with (go_at_call 96; refine (implMemOk _ l _ (h.below hal) hl).mono ?_; rintro r w1 ⟨rfl, b1⟩; rw [hm]; have x1 := hal.trans (b1.mono (by omega)))
    go_wp2
    refine bodyPost_ret (v := .tuple #[.slice none 0 0, .bool false]) (by simp [results, Try.results36, go_sem]) rfl ?_
    rw [HB.out, HR.out]
    exact ⟨_, rfl, Row.nil _ _ _, x1⟩
  have hln := memB_len hm
  by_cases hee : entB e = true ∧ l.length ≠ 60
  · obtain ⟨he, hne⟩ := hee
    have hnei : ((l.length : Int) == 60) = false := by simp; omega
    go_enter Try.func36, Try.ntmps36
    go_upto_region 1 with fail
    generalize (w.alloc (.cells #[.string e.key, .int .i64 e.seq, .bool e.del, .string e.val] 30)) = W at *
    go_wp2_with (first | (go_at_call 96; refine (implMemOk _ l _ (h.below hal) hl).mono ?_; rintro r w1 ⟨rfl, b1⟩; rw [hm]; have x1 := hal.trans (b1.mono (by omega)); have z1 := b1.size; obtain ⟨hc, hf⟩ := bcell b1; have y0 := (hc w.heap.size 0 (by first | omega | (simp <;> omega))).trans t0; have y1 := (hc w.heap.size 1 (by first | omega | (simp <;> omega))).trans t1; have y2 := (hc w.heap.size 2 (by first | omega | (simp <;> omega))).trans t2; have y3 := (hc w.heap.size 3 (by first | omega | (simp <;> omega))).trans t3; clear hc hf) | (go_at_call 115; refine (cloneEnt_row ad cap l _ (h.below x1) hl).mono ?_; rintro r w2 ⟨v2, rfl, r2, b2⟩; have x2 := x1.trans (b2.mono x1.size); have z2 := b2.size; obtain ⟨ao, cp, rfl⟩ := r2.form; obtain ⟨hc, hf⟩ := bcell b2; have u0 := (hc w.heap.size 0 (by first | omega | (simp <;> omega))).trans y0; have u1 := (hc w.heap.size 1 (by first | omega | (simp <;> omega))).trans y1; have u2 := (hc w.heap.size 2 (by first | omega | (simp <;> omega))).trans y2; have u3 := (hc w.heap.size 3 (by first | omega | (simp <;> omega))).trans y3; clear hc hf) | (go_at_call 116; refine (entOk_any e _).mono ?_; rintro r w3 ⟨rfl, b3⟩; rw [he]; have x3 := x2.trans (b3.mono x2.size); have z3 := b3.size; have r3 := r2.below b3; obtain ⟨hc, hf⟩ := bcell b3; have s0 := (hc w.heap.size 0 (by first | omega | (simp <;> omega))).trans u0; have s1 := (hc w.heap.size 1 (by first | omega | (simp <;> omega))).trans u1; have s2 := (hc w.heap.size 2 (by first | omega | (simp <;> omega))).trans u2; have s3 := (hc w.heap.size 3 (by first | omega | (simp <;> omega))).trans u3; clear hc hf) | (go_at_call 117; refine (put_any _ l e w1.heap.size w2.heap.size _ (by omega) r3 (by omega) hm he).mono ?_; rintro r w4 ⟨v4, rfl, r4, b4⟩; have x4 := x3.trans (b4.mono (by omega))))
    go_wp2
    refine bodyPost_ret (v := .tuple #[v4, .bool (putB l e)]) (by simp [results, Try.results36, go_sem]) rfl ?_
    exact ⟨_, rfl, r4.wide (by omega) (Nat.le_refl _), x4⟩
  · have hbad : memB (putE l e) = false := by
      rcases he : entB e with _ | _
      · exact put_bad he
      · exact put_full (Classical.byContradiction fun h0 => hee ⟨he, h0⟩)
    have HR := Lib.hid (show memPut l e = l from by simp [memPut, hm, putB, hbad])
    have HB := Lib.hid (show putB l e = false from by simp [putB, hbad])
    rcases he : entB e with _ | _
    · go_enter Try.func36, Try.ntmps36
      go_upto_region 1 with fail
      generalize (w.alloc (.cells #[.string e.key, .int .i64 e.seq, .bool e.del, .string e.val] 30)) = W at *
      go_wp2_with (first | (go_at_call 96; refine (implMemOk _ l _ (h.below hal) hl).mono ?_; rintro r w1 ⟨rfl, b1⟩; rw [hm]; have x1 := hal.trans (b1.mono (by omega)); have z1 := b1.size; obtain ⟨hc, hf⟩ := bcell b1; have y0 := (hc w.heap.size 0 (by first | omega | (simp <;> omega))).trans t0; have y1 := (hc w.heap.size 1 (by first | omega | (simp <;> omega))).trans t1; have y2 := (hc w.heap.size 2 (by first | omega | (simp <;> omega))).trans t2; have y3 := (hc w.heap.size 3 (by first | omega | (simp <;> omega))).trans t3; clear hc hf) | (go_at_call 115; refine (cloneEnt_row ad cap l _ (h.below x1) hl).mono ?_; rintro r w2 ⟨v2, rfl, r2, b2⟩; have x2 := x1.trans (b2.mono x1.size); have z2 := b2.size; obtain ⟨ao, cp, rfl⟩ := r2.form; obtain ⟨hc, hf⟩ := bcell b2; have u0 := (hc w.heap.size 0 (by first | omega | (simp <;> omega))).trans y0; have u1 := (hc w.heap.size 1 (by first | omega | (simp <;> omega))).trans y1; have u2 := (hc w.heap.size 2 (by first | omega | (simp <;> omega))).trans y2; have u3 := (hc w.heap.size 3 (by first | omega | (simp <;> omega))).trans y3; clear hc hf) | (go_at_call 116; refine (entOk_any e _).mono ?_; rintro r w3 ⟨rfl, b3⟩; rw [he]; have x3 := x2.trans (b3.mono x2.size); have z3 := b3.size))
      go_wp2
      refine bodyPost_ret (v := .tuple #[.slice ao l.length cp, .bool false]) (by simp [results, Try.results36, go_sem]) rfl ?_
      rw [HB.out, HR.out]
      exact ⟨_, rfl, (r2.below b3).wide (by omega) z3, x3⟩
    · have h60 : l.length = 60 := Classical.byContradiction fun h0 => hee ⟨he, h0⟩
      have hnei : ((l.length : Int) == 60) = true := by simp; omega
      clear hee h60
      go_enter Try.func36, Try.ntmps36
      go_upto_region 1 with fail
      generalize (w.alloc (.cells #[.string e.key, .int .i64 e.seq, .bool e.del, .string e.val] 30)) = W at *
      go_wp2_with (first | (go_at_call 96; refine (implMemOk _ l _ (h.below hal) hl).mono ?_; rintro r w1 ⟨rfl, b1⟩; rw [hm]; have x1 := hal.trans (b1.mono (by omega)); have z1 := b1.size; obtain ⟨hc, hf⟩ := bcell b1; have y0 := (hc w.heap.size 0 (by first | omega | (simp <;> omega))).trans t0; have y1 := (hc w.heap.size 1 (by first | omega | (simp <;> omega))).trans t1; have y2 := (hc w.heap.size 2 (by first | omega | (simp <;> omega))).trans t2; have y3 := (hc w.heap.size 3 (by first | omega | (simp <;> omega))).trans t3; clear hc hf) | (go_at_call 115; refine (cloneEnt_row ad cap l _ (h.below x1) hl).mono ?_; rintro r w2 ⟨v2, rfl, r2, b2⟩; have x2 := x1.trans (b2.mono x1.size); have z2 := b2.size; obtain ⟨ao, cp, rfl⟩ := r2.form; obtain ⟨hc, hf⟩ := bcell b2; have u0 := (hc w.heap.size 0 (by first | omega | (simp <;> omega))).trans y0; have u1 := (hc w.heap.size 1 (by first | omega | (simp <;> omega))).trans y1; have u2 := (hc w.heap.size 2 (by first | omega | (simp <;> omega))).trans y2; have u3 := (hc w.heap.size 3 (by first | omega | (simp <;> omega))).trans y3; clear hc hf) | (go_at_call 116; refine (entOk_any e _).mono ?_; rintro r w3 ⟨rfl, b3⟩; rw [he]; have x3 := x2.trans (b3.mono x2.size); have z3 := b3.size))
      go_wp2
      refine bodyPost_ret (v := .tuple #[.slice ao l.length cp, .bool false]) (by simp [results, Try.results36, go_sem]) rfl ?_
      rw [HB.out, HR.out]
      exact ⟨_, rfl, (r2.below b3).wide (by omega) z3, x3⟩
end Go.Proofs.Ytmbmflhcimkjpaa

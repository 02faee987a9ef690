
/- Walks: DevPut of the reference and of the program. -/
import Derived.Test.YtmbmflhcimkjpaaDevD
import Derived.Test.YtmbmflhcimkjpaaOwn
set_option linter.unusedVariables false
set_option linter.unusedSimpArgs false
namespace Go.Proofs.Ytmbmflhcimkjpaa
open Go.RowKit Sp Go.Sort
namespace Sp
def noDev : DevR := ⟨[], [], 0⟩
def addPut (d : DevR) (n : Int) (t : ByteArray) : DevR := ⟨d.sectors, d.cached ++ [⟨n, t⟩], d.writes + 1⟩
def devPut (d : DevR) (n : Int) (t : ByteArray) : DevR := if devB d then (if devB (addPut d n t) then addPut d n t else d) else noDev
def devPutB (d : DevR) (n : Int) (t : ByteArray) : Bool := devB d && devB (addPut d n t)
theorem devB_writes {d : DevR} (h : devB d = true) : 0 ≤ d.writes ∧ d.writes ≤ 1000000 := by
  have : devHead d = true := by simp [devB] at h; exact h.1
  simp [devHead, inB] at this
  omega
theorem devB_cached {d : DevR} (h : devB d = true) : (d.cached.length : Int) ≤ 20 := by
  have : devHead d = true := by simp [devB] at h; exact h.1
  simp [devHead, inB] at this
  omega
theorem devPut_len (d : DevR) (n : Int) (t : ByteArray) (l0 : (d.sectors.length : Int) ≤ 1048576) (l1 : (d.cached.length : Int) ≤ 1048576) : ((devPut d n t).sectors.length : Int) ≤ 1048576 ∧ ((devPut d n t).cached.length : Int) ≤ 1048576 := by
  unfold devPut
  split
  · rename_i h
    have := devB_cached h
    split
    · simp only [addPut, List.length_append, List.length_cons, List.length_nil]; omega
    · exact ⟨l0, l1⟩
  · simp [noDev]
end Sp
theorem rows_apart {α β : Type} {e1 : α → List Value} {e2 : β → List Value} {T1 T2 : TypeId} {z1 z2 lo m hi : Nat} {w : World} {u v : Value} {l : List α} {k : List β} (h1 : Row e1 T1 z1 lo m w u l) (h2 : Row e2 T2 z2 m hi w v k) : Apart u v := by
  intro x hx hy
  have a := h1.2 x hx
  have b := (h2.1.lt x hy).1
  omega

set_option maxRecDepth 100000 in
set_option maxHeartbeats 1600000 in
theorem specDevPut_own (d : DevR) (n : Int) (t : ByteArray) (ad0 ad1 : Option Addr) (cap0 cap1 : Nat) (w : World) (h0 : SlT strCells 1 w (.slice ad0 d.sectors.length cap0) d.sectors) (h1 : SlT PutR.cells 2 w (.slice ad1 d.cached.length cap1) d.cached)
    (l0 : (d.sectors.length : Int) ≤ 1048576) (l1 : (d.cached.length : Int) ≤ 1048576) :
    Calls Try.prog 34 #[.agg #[.slice ad0 d.sectors.length cap0, .slice ad1 d.cached.length cap1, .int .i64 d.writes], .int .i64 n, .string t] w fun e w' => ∃ v', e = .returned (.tuple #[v', .bool (devPutB d n t)]) ∧ OwnDev w.heap.size w' v' (devPut d n t) ∧ Below w.heap.size w w' := by
  have hb2 : ∀ o₁ o₂ : Obj, RowKit.Below w.heap.size w ((w.alloc o₁).alloc o₂) := fun o₁ o₂ => ((Below.refl _ _).alloc (Nat.le_refl _) _).alloc (by simp <;> omega) _
  have hI : IsDev w (.agg #[.slice ad0 d.sectors.length cap0, .slice ad1 d.cached.length cap1, .int .i64 d.writes]) d := ⟨_, _, rfl, h0, h1⟩
  rcases hd : devB d with _ | _
  · have HR := Lib.hid (show devPut d n t = noDev from by simp [devPut, hd])
    have HB := Lib.hid (show devPutB d n t = false from by simp [devPutB, hd])
    go_enter Try.func34, Try.ntmps34
    go_wp2_with (go_at_call 29; refine (specDevOk _ d _ (hI.below (hb2 _ _)) l0 l1).mono ?_; rintro e w1 ⟨rfl, b1⟩; rw [hd]; have x1 := Below.trans (hb2 _ _) (b1.mono (Below.size (hb2 _ _))); have z1 : w.heap.size + 1 < w1.heap.size := Nat.lt_of_lt_of_le (by simp) b1.size; obtain ⟨hc, hf⟩ := bcell b1; have cA1 := fun o => hc w.heap.size o (by first | omega | (simp <;> omega)); have fA1 := fun o => hf w.heap.size o (by first | omega | (simp <;> omega)); have cR1 := fun o => hc (w.heap.size + 1) o (by first | omega | (simp <;> omega)); have fR1 := fun o => hf (w.heap.size + 1) o (by first | omega | (simp <;> omega)); clear hc hf)
    go_wp2
    refine bodyPost_ret (v := .tuple #[.agg #[.slice none 0 0, .slice none 0 0, .int .i64 0], .bool false]) (by simp [results, Try.results34, go_sem, cA1, cR1] <;> rfl) rfl ?_
    rw [HR.out, HB.out]
    refine ⟨_, rfl, ?_, ?_⟩
    · exact ⟨_, _, rfl, World.ownsRow_nil _ _ _ _, World.ownsRow_nil _ _ _ _, fun k hk => by simp [Value.ownBlock] at hk⟩
    · repeat (refine Below.setCell ?_ (by simp <;> omega) _)
      exact x1
  have hwr := devB_writes hd
  have l1c := devB_cached hd
  have l1' : (((addPut d n t).cached.length : Nat) : Int) ≤ 1048576 := by simp [addPut]; omega
  have hw1 : IntKind.i64.wrap (d.writes + 1) = d.writes + 1 := by rw [IntKind.wrap_i64]; omega
  rcases hx : devB (addPut d n t) with _ | _
  · have HR := Lib.hid (show devPut d n t = d from by simp [devPut, hd, hx])
    have HB := Lib.hid (show devPutB d n t = false from by simp [devPutB, hd, hx])
    go_enter Try.func34, Try.ntmps34
    go_wp2_with (go_at_call 29; refine (specDevOk _ d _ (hI.below (hb2 _ _)) l0 l1).mono ?_; rintro e w1 ⟨rfl, b1⟩; rw [hd]; have x1 := Below.trans (hb2 _ _) (b1.mono (Below.size (hb2 _ _))); have z1 : w.heap.size + 1 < w1.heap.size := Nat.lt_of_lt_of_le (by simp) b1.size; obtain ⟨hc, hf⟩ := bcell b1; have cA1 := fun o => hc w.heap.size o (by first | omega | (simp <;> omega)); have fA1 := fun o => hf w.heap.size o (by first | omega | (simp <;> omega)); have cR1 := fun o => hc (w.heap.size + 1) o (by first | omega | (simp <;> omega)); have fR1 := fun o => hf (w.heap.size + 1) o (by first | omega | (simp <;> omega)); clear hc hf)
    go_upto_region 4 with (go_at_call 113; refine (l5Copy_own d ad0 ad1 cap0 cap1 _ (h0.below x1) (h1.below x1) l0 l1).mono ?_; rintro e w2 ⟨v2, rfl, ⟨s0, s1, rfl, o0, o1, ap⟩, b2⟩; obtain ⟨ao, cp, rfl⟩ := (Row.of_own o0 rfl).form; obtain ⟨bo, dp, rfl⟩ := (Row.of_own o1 rfl).form; have x2 := x1.trans (b2.mono x1.size); have z2 := b2.size; obtain ⟨hc, hf⟩ := bcell b2; have cA2 := fun o => hc w.heap.size o (by first | omega | (simp <;> omega)); have fA2 := fun o => hf w.heap.size o (by first | omega | (simp <;> omega)); have cR2 := fun o => hc (w.heap.size + 1) o (by first | omega | (simp <;> omega)); have fR2 := fun o => hf (w.heap.size + 1) o (by first | omega | (simp <;> omega)); clear hc hf; have ltA : w.heap.size < w2.heap.size := (by omega); have ltR : w.heap.size + 1 < w2.heap.size := (by omega); have neA : ¬ w2.heap.size = w.heap.size := (by omega); have neR : ¬ w2.heap.size = w.heap.size + 1 := (by omega); have neA' : ¬ w.heap.size = w2.heap.size := (by omega); have neR' : ¬ w.heap.size + 1 = w2.heap.size := (by omega); have k0 := fun k h => (o0.lt k h).2; have k1 := fun k h => (o1.lt k h).2; have j1 := fun k h => (o1.lt k h).1)
    go_upto_region 5 with (at_builtin; refine app_new_at rfl rfl Try.underlying50 info_Put rfl (by decide) (o1.alloc _) rfl 1 (by simp [Act.eval]) rfl (by simp [Value.oneCell']) (by omega) (x2.alloc x2.size _) (by omega) (by simp; omega) ?_; intro v3 w3 o1a x3 g3 p3; have cX3 := (gcell g3 (b := w2.heap.size) (by simp) (fun h => by have := k1 _ h; omega)); have cA3 := (gcell g3 (b := w.heap.size) (by simp; omega) (fun h => by have := j1 _ h; omega)); have cR3 := (gcell g3 (b := w.heap.size + 1) (by simp; omega) (fun h => by have := j1 _ h; omega)); have z3 : w2.heap.size + 1 ≤ w3.heap.size := (by have := g3.size; simp at this; omega); have o0' := own_grown (o0.alloc _) g3 ap; have o1r : Row PutR.cells 61 2 w1.heap.size w3.heap.size w3 v3 (d.cached ++ [⟨n, t⟩]) := Row.of_own (n := d.cached.length + 1) (by simpa [PutR.cells] using o1a) (by simp); have q3 : v3.ownBlock ≠ some w2.heap.size := (by intro h; rcases p3 with p | p <;> rw [p] at h <;> first | (have := k1 _ h; omega) | (simp at h; omega) | (simp at h)); have q3' : (Value.slice ao d.sectors.length cp).ownBlock ≠ some w2.heap.size := (fun h => by have := k0 _ h; omega); have ap3 : Apart (.slice ao d.sectors.length cp) v3 := (by intro k h2 h3; rcases p3 with p | p <;> rw [p] at h3 <;> first | exact ap k h2 h3 | (have := k0 _ h2; simp at h3; omega)); obtain ⟨bo', dp', hv3⟩ := o1r.form; rw [show (d.cached ++ [(⟨n, t⟩ : PutR)]).length = d.cached.length + 1 from by simp] at hv3; subst hv3; have hI3 : IsDev ((w3.setCell ⟨w2.heap.size, 1, none⟩ (.slice bo' (d.cached.length + 1) dp')).setCell ⟨w2.heap.size, 2, none⟩ (.int .i64 (d.writes + 1))) (.agg #[.slice ao d.sectors.length cp, .slice bo' (d.cached.length + 1) dp', .int .i64 (d.writes + 1)]) (addPut d n t) := ⟨_, _, rfl, SlT.of_own (own_far (own_far o0' _ _ q3') _ _ q3') (fun _ => rfl) (by decide), SlT.of_own (own_far (own_far o1r.1 _ _ q3) _ _ q3) (fun _ => rfl) (by decide)⟩; obtain ⟨cX3, fX3⟩ := cX3; obtain ⟨cA3, fA3⟩ := cA3; obtain ⟨cR3, fR3⟩ := cR3; clear p3 g3 o1a)
    go_wp2_with (go_at_call 29; refine (specDevOk _ (addPut d n t) _ hI3 l0 l1').mono ?_; rintro e w4 ⟨rfl, b4⟩; rw [hx]; have x4 := Below.trans (Below.setCell (Below.setCell x3 (p := ⟨w2.heap.size, 1, none⟩) (by simp <;> omega) _) (p := ⟨w2.heap.size, 2, none⟩) (by simp <;> omega) _) (b4.mono (Below.size (Below.setCell (Below.setCell x3 (p := ⟨w2.heap.size, 1, none⟩) (by simp <;> omega) _) (p := ⟨w2.heap.size, 2, none⟩) (by simp <;> omega) _))); have z4 : w3.heap.size ≤ w4.heap.size := (by simpa using b4.size); obtain ⟨hc, hf⟩ := bcell b4; have cA4 := fun o => hc w.heap.size o (by first | omega | (simp <;> omega)); have fA4 := fun o => hf w.heap.size o (by first | omega | (simp <;> omega)); have cR4 := fun o => hc (w.heap.size + 1) o (by first | omega | (simp <;> omega)); have fR4 := fun o => hf (w.heap.size + 1) o (by first | omega | (simp <;> omega)); have cX4 := fun o => hc w2.heap.size o (by first | omega | (simp <;> omega)); have fX4 := fun o => hf w2.heap.size o (by first | omega | (simp <;> omega)); clear hc hf; have o0'' := own_below (own_far (own_far o0' _ _ q3') _ _ q3') b4; have o1'' := own_below (own_far (own_far o1r.1 _ _ q3) _ _ q3) b4)
    go_wp2_with (go_at_call 113; refine (l5Copy_own d ad0 ad1 cap0 cap1 _ (h0.below x4) (h1.below x4) l0 l1).mono ?_; rintro e w5 ⟨v5, rfl, ⟨s0b, s1b, rfl, o0b, o1b, apb⟩, b5⟩; obtain ⟨aob, cpb, rfl⟩ := (Row.of_own o0b rfl).form; obtain ⟨bob, dpb, rfl⟩ := (Row.of_own o1b rfl).form; have x5 := x4.trans (b5.mono x4.size); have z5 := b5.size; obtain ⟨hc, hf⟩ := bcell b5; have cR5 := fun o => hc (w.heap.size + 1) o (by first | omega | (simp <;> omega)); have fR5 := fun o => hf (w.heap.size + 1) o (by first | omega | (simp <;> omega)); clear hc hf)
    go_wp2
    refine bodyPost_ret (v := .tuple #[.agg #[.slice aob d.sectors.length cpb, .slice bob d.cached.length dpb, .int .i64 d.writes], .bool false]) (by simp [results, Try.results34, go_sem, ltA, ltR, neA, neR, neA', neR', cA1, cR1, cA2, cR2, cA3, cR3, cX3, cA4, cR4, cX4, cR5]) rfl ?_
    rw [HR.out, HB.out]
    refine ⟨_, rfl, ?_, ?_⟩
    · refine ⟨_, _, rfl, own_mono (base := w4.heap.size) (?_ : World.ownsRow _ _ 9 1 _ (d.sectors.length) _) (by omega), own_mono (base := w4.heap.size) (?_ : World.ownsRow _ _ 61 2 _ (d.cached.length) _) (by omega), apb⟩
      · repeat (refine own_other ?_ _ (by simp <;> omega) _)
        exact o0b
      · repeat (refine own_other ?_ _ (by simp <;> omega) _)
        exact o1b
    · repeat (refine Below.setCell ?_ (by simp <;> omega) _)
      exact x5
  · have HR := Lib.hid (show devPut d n t = addPut d n t from by simp [devPut, hd, hx])
    have HB := Lib.hid (show devPutB d n t = true from by simp [devPutB, hd, hx])
    go_enter Try.func34, Try.ntmps34
    go_wp2_with (go_at_call 29; refine (specDevOk _ d _ (hI.below (hb2 _ _)) l0 l1).mono ?_; rintro e w1 ⟨rfl, b1⟩; rw [hd]; have x1 := Below.trans (hb2 _ _) (b1.mono (Below.size (hb2 _ _))); have z1 : w.heap.size + 1 < w1.heap.size := Nat.lt_of_lt_of_le (by simp) b1.size; obtain ⟨hc, hf⟩ := bcell b1; have cA1 := fun o => hc w.heap.size o (by first | omega | (simp <;> omega)); have fA1 := fun o => hf w.heap.size o (by first | omega | (simp <;> omega)); have cR1 := fun o => hc (w.heap.size + 1) o (by first | omega | (simp <;> omega)); have fR1 := fun o => hf (w.heap.size + 1) o (by first | omega | (simp <;> omega)); clear hc hf)
    go_upto_region 4 with (go_at_call 113; refine (l5Copy_own d ad0 ad1 cap0 cap1 _ (h0.below x1) (h1.below x1) l0 l1).mono ?_; rintro e w2 ⟨v2, rfl, ⟨s0, s1, rfl, o0, o1, ap⟩, b2⟩; obtain ⟨ao, cp, rfl⟩ := (Row.of_own o0 rfl).form; obtain ⟨bo, dp, rfl⟩ := (Row.of_own o1 rfl).form; have x2 := x1.trans (b2.mono x1.size); have z2 := b2.size; obtain ⟨hc, hf⟩ := bcell b2; have cA2 := fun o => hc w.heap.size o (by first | omega | (simp <;> omega)); have fA2 := fun o => hf w.heap.size o (by first | omega | (simp <;> omega)); have cR2 := fun o => hc (w.heap.size + 1) o (by first | omega | (simp <;> omega)); have fR2 := fun o => hf (w.heap.size + 1) o (by first | omega | (simp <;> omega)); clear hc hf; have ltA : w.heap.size < w2.heap.size := (by omega); have ltR : w.heap.size + 1 < w2.heap.size := (by omega); have neA : ¬ w2.heap.size = w.heap.size := (by omega); have neR : ¬ w2.heap.size = w.heap.size + 1 := (by omega); have neA' : ¬ w.heap.size = w2.heap.size := (by omega); have neR' : ¬ w.heap.size + 1 = w2.heap.size := (by omega); have k0 := fun k h => (o0.lt k h).2; have k1 := fun k h => (o1.lt k h).2; have j1 := fun k h => (o1.lt k h).1)
    go_upto_region 5 with (at_builtin; refine app_new_at rfl rfl Try.underlying50 info_Put rfl (by decide) (o1.alloc _) rfl 1 (by simp [Act.eval]) rfl (by simp [Value.oneCell']) (by omega) (x2.alloc x2.size _) (by omega) (by simp; omega) ?_; intro v3 w3 o1a x3 g3 p3; have cX3 := (gcell g3 (b := w2.heap.size) (by simp) (fun h => by have := k1 _ h; omega)); have cA3 := (gcell g3 (b := w.heap.size) (by simp; omega) (fun h => by have := j1 _ h; omega)); have cR3 := (gcell g3 (b := w.heap.size + 1) (by simp; omega) (fun h => by have := j1 _ h; omega)); have z3 : w2.heap.size + 1 ≤ w3.heap.size := (by have := g3.size; simp at this; omega); have o0' := own_grown (o0.alloc _) g3 ap; have o1r : Row PutR.cells 61 2 w1.heap.size w3.heap.size w3 v3 (d.cached ++ [⟨n, t⟩]) := Row.of_own (n := d.cached.length + 1) (by simpa [PutR.cells] using o1a) (by simp); have q3 : v3.ownBlock ≠ some w2.heap.size := (by intro h; rcases p3 with p | p <;> rw [p] at h <;> first | (have := k1 _ h; omega) | (simp at h; omega) | (simp at h)); have q3' : (Value.slice ao d.sectors.length cp).ownBlock ≠ some w2.heap.size := (fun h => by have := k0 _ h; omega); have ap3 : Apart (.slice ao d.sectors.length cp) v3 := (by intro k h2 h3; rcases p3 with p | p <;> rw [p] at h3 <;> first | exact ap k h2 h3 | (have := k0 _ h2; simp at h3; omega)); obtain ⟨bo', dp', hv3⟩ := o1r.form; rw [show (d.cached ++ [(⟨n, t⟩ : PutR)]).length = d.cached.length + 1 from by simp] at hv3; subst hv3; have hI3 : IsDev ((w3.setCell ⟨w2.heap.size, 1, none⟩ (.slice bo' (d.cached.length + 1) dp')).setCell ⟨w2.heap.size, 2, none⟩ (.int .i64 (d.writes + 1))) (.agg #[.slice ao d.sectors.length cp, .slice bo' (d.cached.length + 1) dp', .int .i64 (d.writes + 1)]) (addPut d n t) := ⟨_, _, rfl, SlT.of_own (own_far (own_far o0' _ _ q3') _ _ q3') (fun _ => rfl) (by decide), SlT.of_own (own_far (own_far o1r.1 _ _ q3) _ _ q3) (fun _ => rfl) (by decide)⟩; obtain ⟨cX3, fX3⟩ := cX3; obtain ⟨cA3, fA3⟩ := cA3; obtain ⟨cR3, fR3⟩ := cR3; clear p3 g3 o1a)
    go_wp2_with (go_at_call 29; refine (specDevOk _ (addPut d n t) _ hI3 l0 l1').mono ?_; rintro e w4 ⟨rfl, b4⟩; rw [hx]; have x4 := Below.trans (Below.setCell (Below.setCell x3 (p := ⟨w2.heap.size, 1, none⟩) (by simp <;> omega) _) (p := ⟨w2.heap.size, 2, none⟩) (by simp <;> omega) _) (b4.mono (Below.size (Below.setCell (Below.setCell x3 (p := ⟨w2.heap.size, 1, none⟩) (by simp <;> omega) _) (p := ⟨w2.heap.size, 2, none⟩) (by simp <;> omega) _))); have z4 : w3.heap.size ≤ w4.heap.size := (by simpa using b4.size); obtain ⟨hc, hf⟩ := bcell b4; have cA4 := fun o => hc w.heap.size o (by first | omega | (simp <;> omega)); have fA4 := fun o => hf w.heap.size o (by first | omega | (simp <;> omega)); have cR4 := fun o => hc (w.heap.size + 1) o (by first | omega | (simp <;> omega)); have fR4 := fun o => hf (w.heap.size + 1) o (by first | omega | (simp <;> omega)); have cX4 := fun o => hc w2.heap.size o (by first | omega | (simp <;> omega)); have fX4 := fun o => hf w2.heap.size o (by first | omega | (simp <;> omega)); clear hc hf; have o0'' := own_below (own_far (own_far o0' _ _ q3') _ _ q3') b4; have o1'' := own_below (own_far (own_far o1r.1 _ _ q3) _ _ q3) b4)
    go_wp2
    refine bodyPost_ret (v := .tuple #[.agg #[.slice ao d.sectors.length cp, .slice bo' (d.cached.length + 1) dp', .int .i64 (d.writes + 1)], .bool true]) (by simp [results, Try.results34, go_sem, ltA, ltR, neA, neR, neA', neR', cA1, cR1, cA2, cR2, cA3, cR3, cX3, cA4, cR4, cX4]) rfl ?_
    rw [HR.out, HB.out]
    refine ⟨_, rfl, ?_, ?_⟩
    · refine ⟨_, _, rfl, own_mono (base := w1.heap.size) (?_ : World.ownsRow _ _ 9 1 _ (d.sectors.length) _) (by omega), own_mono (base := w1.heap.size) (?_ : World.ownsRow _ _ 61 2 _ ((addPut d n t).cached.length) _) (by omega), ap3⟩
      · repeat (refine own_other ?_ _ (by simp <;> omega) _)
        exact o0''
      · repeat (refine own_other ?_ _ (by simp <;> omega) _)
        exact o1''
    · repeat (refine Below.setCell ?_ (by simp <;> omega) _)
      exact x4
theorem specDevPut (d : DevR) (n : Int) (t : ByteArray) (ad0 ad1 : Option Addr) (cap0 cap1 : Nat) (w : World) (h0 : SlT strCells 1 w (.slice ad0 d.sectors.length cap0) d.sectors) (h1 : SlT PutR.cells 2 w (.slice ad1 d.cached.length cap1) d.cached)
    (l0 : (d.sectors.length : Int) ≤ 1048576) (l1 : (d.cached.length : Int) ≤ 1048576) :
    Calls Try.prog 34 #[.agg #[.slice ad0 d.sectors.length cap0, .slice ad1 d.cached.length cap1, .int .i64 d.writes], .int .i64 n, .string t] w fun e w' => ∃ v', e = .returned (.tuple #[v', .bool (devPutB d n t)]) ∧ IsDev w' v' (devPut d n t) ∧ Below w.heap.size w w' := by
  refine (specDevPut_own d n t ad0 ad1 cap0 cap1 w h0 h1 l0 l1).mono ?_
  rintro e w' ⟨v', rfl, h, b⟩
  exact ⟨v', rfl, h.is, b⟩

set_option maxRecDepth 100000 in
set_option maxHeartbeats 1600000 in
theorem implDevPut (d : DevR) (n : Int) (t : ByteArray) (ad0 ad1 : Option Addr) (cap0 cap1 : Nat) (w : World) (h0 : SlT strCells 1 w (.slice ad0 d.sectors.length cap0) d.sectors) (h1 : SlT PutR.cells 2 w (.slice ad1 d.cached.length cap1) d.cached)
    (l0 : (d.sectors.length : Int) ≤ 1048576) (l1 : (d.cached.length : Int) ≤ 1048576) :
    Calls Try.prog 33 #[.agg #[.slice ad0 d.sectors.length cap0, .slice ad1 d.cached.length cap1, .int .i64 d.writes], .int .i64 n, .string t] w fun e w' => ∃ v', e = .returned (.tuple #[v', .bool (devPutB d n t)]) ∧ RowDev w.heap.size w'.heap.size w' v' (devPut d n t) ∧ Below w.heap.size w w' := by
  have hb2 : ∀ o₁ o₂ : Obj, RowKit.Below w.heap.size w ((w.alloc o₁).alloc o₂) := fun o₁ o₂ => ((Below.refl _ _).alloc (Nat.le_refl _) _).alloc (by simp <;> omega) _
  have hI : IsDev w (.agg #[.slice ad0 d.sectors.length cap0, .slice ad1 d.cached.length cap1, .int .i64 d.writes]) d := ⟨_, _, rfl, h0, h1⟩
  rcases hd : devB d with _ | _
  · have HR := Lib.hid (show devPut d n t = noDev from by simp [devPut, hd])
    have HB := Lib.hid (show devPutB d n t = false from by simp [devPutB, hd])
    go_enter Try.func33, Try.ntmps33
    go_wp2_with (go_at_call 111; refine (implDevOk _ d _ (hI.below (hb2 _ _)) l0 l1).mono ?_; rintro e w1 ⟨rfl, b1⟩; rw [hd]; have x1 := Below.trans (hb2 _ _) (b1.mono (Below.size (hb2 _ _))); have z1 : w.heap.size + 1 < w1.heap.size := Nat.lt_of_lt_of_le (by simp) b1.size; obtain ⟨hc, hf⟩ := bcell b1; have cA1 := fun o => hc w.heap.size o (by first | omega | (simp <;> omega)); have fA1 := fun o => hf w.heap.size o (by first | omega | (simp <;> omega)); have cR1 := fun o => hc (w.heap.size + 1) o (by first | omega | (simp <;> omega)); have fR1 := fun o => hf (w.heap.size + 1) o (by first | omega | (simp <;> omega)); clear hc hf)
    go_wp2
    refine bodyPost_ret (v := .tuple #[.agg #[.slice none 0 0, .slice none 0 0, .int .i64 0], .bool false]) (by simp [results, Try.results33, go_sem, cA1, cR1] <;> rfl) rfl ?_
    rw [HR.out, HB.out]
    refine ⟨_, rfl, ?_, ?_⟩
    · exact ⟨_, _, w.heap.size, rfl, Nat.le_refl _, by simp; omega, Row.nil _ _ _, Row.nil _ _ _⟩
    · repeat (refine Below.setCell ?_ (by simp <;> omega) _)
      exact x1
  have hwr := devB_writes hd
  have l1c := devB_cached hd
  have l1' : (((addPut d n t).cached.length : Nat) : Int) ≤ 1048576 := by simp [addPut]; omega
  have hw1 : IntKind.i64.wrap (d.writes + 1) = d.writes + 1 := by rw [IntKind.wrap_i64]; omega
  rcases hx : devB (addPut d n t) with _ | _
  · have HR := Lib.hid (show devPut d n t = d from by simp [devPut, hd, hx])
    have HB := Lib.hid (show devPutB d n t = false from by simp [devPutB, hd, hx])
    go_enter Try.func33, Try.ntmps33
    go_wp2_with (go_at_call 111; refine (implDevOk _ d _ (hI.below (hb2 _ _)) l0 l1).mono ?_; rintro e w1 ⟨rfl, b1⟩; rw [hd]; have x1 := Below.trans (hb2 _ _) (b1.mono (Below.size (hb2 _ _))); have z1 : w.heap.size + 1 < w1.heap.size := Nat.lt_of_lt_of_le (by simp) b1.size; obtain ⟨hc, hf⟩ := bcell b1; have cA1 := fun o => hc w.heap.size o (by first | omega | (simp <;> omega)); have fA1 := fun o => hf w.heap.size o (by first | omega | (simp <;> omega)); have cR1 := fun o => hc (w.heap.size + 1) o (by first | omega | (simp <;> omega)); have fR1 := fun o => hf (w.heap.size + 1) o (by first | omega | (simp <;> omega)); clear hc hf)
    go_upto_region 4 with (go_at_call 112; refine (copyDev_row d ad0 ad1 cap0 cap1 _ (h0.below x1) (h1.below x1) l0 l1).mono ?_; rintro e w2 ⟨v2, rfl, ⟨s0, s1, m, rfl, e0, e1, r0, r1⟩, b2⟩; have ap := rows_apart r0 r1; have o0 := r0.1; have o1 := r1.1; have q0 := r0.2; obtain ⟨ao, cp, rfl⟩ := r0.form; obtain ⟨bo, dp, rfl⟩ := r1.form; clear r0 r1; have x2 := x1.trans (b2.mono x1.size); have z2 := b2.size; obtain ⟨hc, hf⟩ := bcell b2; have cA2 := fun o => hc w.heap.size o (by first | omega | (simp <;> omega)); have fA2 := fun o => hf w.heap.size o (by first | omega | (simp <;> omega)); have cR2 := fun o => hc (w.heap.size + 1) o (by first | omega | (simp <;> omega)); have fR2 := fun o => hf (w.heap.size + 1) o (by first | omega | (simp <;> omega)); clear hc hf; have ltA : w.heap.size < w2.heap.size := (by omega); have ltR : w.heap.size + 1 < w2.heap.size := (by omega); have neA : ¬ w2.heap.size = w.heap.size := (by omega); have neR : ¬ w2.heap.size = w.heap.size + 1 := (by omega); have neA' : ¬ w.heap.size = w2.heap.size := (by omega); have neR' : ¬ w.heap.size + 1 = w2.heap.size := (by omega); have k0 := fun k h => (o0.lt k h).2; have k1 := fun k h => (o1.lt k h).2; have j1 := fun k h => (o1.lt k h).1)
    go_upto_region 5 with (at_builtin; refine app_new_at rfl rfl Try.underlying50 info_Put rfl (by decide) (o1.alloc _) rfl 1 (by simp [Act.eval]) rfl (by simp [Value.oneCell']) (by omega) (x2.alloc x2.size _) (by omega) (by simp; omega) ?_; intro v3 w3 o1a x3 g3 p3; have cX3 := (gcell g3 (b := w2.heap.size) (by simp) (fun h => by have := k1 _ h; omega)); have cA3 := (gcell g3 (b := w.heap.size) (by simp; omega) (fun h => by have := j1 _ h; omega)); have cR3 := (gcell g3 (b := w.heap.size + 1) (by simp; omega) (fun h => by have := j1 _ h; omega)); have z3 : w2.heap.size + 1 ≤ w3.heap.size := (by have := g3.size; simp at this; omega); have o0' := own_grown (o0.alloc _) g3 ap; have o1r : Row PutR.cells 61 2 m w3.heap.size w3 v3 (d.cached ++ [⟨n, t⟩]) := Row.of_own (n := d.cached.length + 1) (by simpa [PutR.cells] using o1a) (by simp); have q3 : v3.ownBlock ≠ some w2.heap.size := (by intro h; rcases p3 with p | p <;> rw [p] at h <;> first | (have := k1 _ h; omega) | (simp at h; omega) | (simp at h)); have q3' : (Value.slice ao d.sectors.length cp).ownBlock ≠ some w2.heap.size := (fun h => by have := k0 _ h; omega); have ap3 : Apart (.slice ao d.sectors.length cp) v3 := (by intro k h2 h3; rcases p3 with p | p <;> rw [p] at h3 <;> first | exact ap k h2 h3 | (have := k0 _ h2; simp at h3; omega)); obtain ⟨bo', dp', hv3⟩ := o1r.form; rw [show (d.cached ++ [(⟨n, t⟩ : PutR)]).length = d.cached.length + 1 from by simp] at hv3; subst hv3; have hI3 : IsDev ((w3.setCell ⟨w2.heap.size, 1, none⟩ (.slice bo' (d.cached.length + 1) dp')).setCell ⟨w2.heap.size, 2, none⟩ (.int .i64 (d.writes + 1))) (.agg #[.slice ao d.sectors.length cp, .slice bo' (d.cached.length + 1) dp', .int .i64 (d.writes + 1)]) (addPut d n t) := ⟨_, _, rfl, SlT.of_own (own_far (own_far o0' _ _ q3') _ _ q3') (fun _ => rfl) (by decide), SlT.of_own (own_far (own_far o1r.1 _ _ q3) _ _ q3) (fun _ => rfl) (by decide)⟩; obtain ⟨cX3, fX3⟩ := cX3; obtain ⟨cA3, fA3⟩ := cA3; obtain ⟨cR3, fR3⟩ := cR3; clear p3 g3 o1a)
    go_wp2_with (go_at_call 111; refine (implDevOk _ (addPut d n t) _ hI3 l0 l1').mono ?_; rintro e w4 ⟨rfl, b4⟩; rw [hx]; have x4 := Below.trans (Below.setCell (Below.setCell x3 (p := ⟨w2.heap.size, 1, none⟩) (by simp <;> omega) _) (p := ⟨w2.heap.size, 2, none⟩) (by simp <;> omega) _) (b4.mono (Below.size (Below.setCell (Below.setCell x3 (p := ⟨w2.heap.size, 1, none⟩) (by simp <;> omega) _) (p := ⟨w2.heap.size, 2, none⟩) (by simp <;> omega) _))); have z4 : w3.heap.size ≤ w4.heap.size := (by simpa using b4.size); obtain ⟨hc, hf⟩ := bcell b4; have cA4 := fun o => hc w.heap.size o (by first | omega | (simp <;> omega)); have fA4 := fun o => hf w.heap.size o (by first | omega | (simp <;> omega)); have cR4 := fun o => hc (w.heap.size + 1) o (by first | omega | (simp <;> omega)); have fR4 := fun o => hf (w.heap.size + 1) o (by first | omega | (simp <;> omega)); have cX4 := fun o => hc w2.heap.size o (by first | omega | (simp <;> omega)); have fX4 := fun o => hf w2.heap.size o (by first | omega | (simp <;> omega)); clear hc hf; have o0'' := own_below (own_far (own_far o0' _ _ q3') _ _ q3') b4; have o1'' := own_below (own_far (own_far o1r.1 _ _ q3) _ _ q3) b4)
    go_wp2_with (go_at_call 112; refine (copyDev_row d ad0 ad1 cap0 cap1 _ (h0.below x4) (h1.below x4) l0 l1).mono ?_; rintro e w5 ⟨v5, rfl, ⟨s0b, s1b, mb, rfl, e0b, e1b, r0b, r1b⟩, b5⟩; have apb := rows_apart r0b r1b; have o0b := r0b.1; have o1b := r1b.1; have q0b := r0b.2; obtain ⟨aob, cpb, rfl⟩ := r0b.form; obtain ⟨bob, dpb, rfl⟩ := r1b.form; clear r0b r1b; have x5 := x4.trans (b5.mono x4.size); have z5 := b5.size; obtain ⟨hc, hf⟩ := bcell b5; have cR5 := fun o => hc (w.heap.size + 1) o (by first | omega | (simp <;> omega)); have fR5 := fun o => hf (w.heap.size + 1) o (by first | omega | (simp <;> omega)); clear hc hf)
    go_wp2
    refine bodyPost_ret (v := .tuple #[.agg #[.slice aob d.sectors.length cpb, .slice bob d.cached.length dpb, .int .i64 d.writes], .bool false]) (by simp [results, Try.results33, go_sem, ltA, ltR, neA, neR, neA', neR', cA1, cR1, cA2, cR2, cA3, cR3, cX3, cA4, cR4, cX4, cR5]) rfl ?_
    rw [HR.out, HB.out]
    refine ⟨_, rfl, ?_, ?_⟩
    · refine ⟨_, _, mb, rfl, by omega, by simp; omega, ⟨own_mono (base := w4.heap.size) ?_ (by omega), q0b⟩, Row.of_own (lo := mb) (n := d.cached.length) ?_ rfl⟩
      · repeat (refine own_other ?_ _ (by simp <;> omega) _)
        exact o0b
      · repeat (refine own_other ?_ _ (by simp <;> omega) _)
        exact o1b
    · repeat (refine Below.setCell ?_ (by simp <;> omega) _)
      exact x5
  · have HR := Lib.hid (show devPut d n t = addPut d n t from by simp [devPut, hd, hx])
    have HB := Lib.hid (show devPutB d n t = true from by simp [devPutB, hd, hx])
    go_enter Try.func33, Try.ntmps33
    go_wp2_with (go_at_call 111; refine (implDevOk _ d _ (hI.below (hb2 _ _)) l0 l1).mono ?_; rintro e w1 ⟨rfl, b1⟩; rw [hd]; have x1 := Below.trans (hb2 _ _) (b1.mono (Below.size (hb2 _ _))); have z1 : w.heap.size + 1 < w1.heap.size := Nat.lt_of_lt_of_le (by simp) b1.size; obtain ⟨hc, hf⟩ := bcell b1; have cA1 := fun o => hc w.heap.size o (by first | omega | (simp <;> omega)); have fA1 := fun o => hf w.heap.size o (by first | omega | (simp <;> omega)); have cR1 := fun o => hc (w.heap.size + 1) o (by first | omega | (simp <;> omega)); have fR1 := fun o => hf (w.heap.size + 1) o (by first | omega | (simp <;> omega)); clear hc hf)
    go_upto_region 4 with (go_at_call 112; refine (copyDev_row d ad0 ad1 cap0 cap1 _ (h0.below x1) (h1.below x1) l0 l1).mono ?_; rintro e w2 ⟨v2, rfl, ⟨s0, s1, m, rfl, e0, e1, r0, r1⟩, b2⟩; have ap := rows_apart r0 r1; have o0 := r0.1; have o1 := r1.1; have q0 := r0.2; obtain ⟨ao, cp, rfl⟩ := r0.form; obtain ⟨bo, dp, rfl⟩ := r1.form; clear r0 r1; have x2 := x1.trans (b2.mono x1.size); have z2 := b2.size; obtain ⟨hc, hf⟩ := bcell b2; have cA2 := fun o => hc w.heap.size o (by first | omega | (simp <;> omega)); have fA2 := fun o => hf w.heap.size o (by first | omega | (simp <;> omega)); have cR2 := fun o => hc (w.heap.size + 1) o (by first | omega | (simp <;> omega)); have fR2 := fun o => hf (w.heap.size + 1) o (by first | omega | (simp <;> omega)); clear hc hf; have ltA : w.heap.size < w2.heap.size := (by omega); have ltR : w.heap.size + 1 < w2.heap.size := (by omega); have neA : ¬ w2.heap.size = w.heap.size := (by omega); have neR : ¬ w2.heap.size = w.heap.size + 1 := (by omega); have neA' : ¬ w.heap.size = w2.heap.size := (by omega); have neR' : ¬ w.heap.size + 1 = w2.heap.size := (by omega); have k0 := fun k h => (o0.lt k h).2; have k1 := fun k h => (o1.lt k h).2; have j1 := fun k h => (o1.lt k h).1)
    go_upto_region 5 with (at_builtin; refine app_new_at rfl rfl Try.underlying50 info_Put rfl (by decide) (o1.alloc _) rfl 1 (by simp [Act.eval]) rfl (by simp [Value.oneCell']) (by omega) (x2.alloc x2.size _) (by omega) (by simp; omega) ?_; intro v3 w3 o1a x3 g3 p3; have cX3 := (gcell g3 (b := w2.heap.size) (by simp) (fun h => by have := k1 _ h; omega)); have cA3 := (gcell g3 (b := w.heap.size) (by simp; omega) (fun h => by have := j1 _ h; omega)); have cR3 := (gcell g3 (b := w.heap.size + 1) (by simp; omega) (fun h => by have := j1 _ h; omega)); have z3 : w2.heap.size + 1 ≤ w3.heap.size := (by have := g3.size; simp at this; omega); have o0' := own_grown (o0.alloc _) g3 ap; have o1r : Row PutR.cells 61 2 m w3.heap.size w3 v3 (d.cached ++ [⟨n, t⟩]) := Row.of_own (n := d.cached.length + 1) (by simpa [PutR.cells] using o1a) (by simp); have q3 : v3.ownBlock ≠ some w2.heap.size := (by intro h; rcases p3 with p | p <;> rw [p] at h <;> first | (have := k1 _ h; omega) | (simp at h; omega) | (simp at h)); have q3' : (Value.slice ao d.sectors.length cp).ownBlock ≠ some w2.heap.size := (fun h => by have := k0 _ h; omega); have ap3 : Apart (.slice ao d.sectors.length cp) v3 := (by intro k h2 h3; rcases p3 with p | p <;> rw [p] at h3 <;> first | exact ap k h2 h3 | (have := k0 _ h2; simp at h3; omega)); obtain ⟨bo', dp', hv3⟩ := o1r.form; rw [show (d.cached ++ [(⟨n, t⟩ : PutR)]).length = d.cached.length + 1 from by simp] at hv3; subst hv3; have hI3 : IsDev ((w3.setCell ⟨w2.heap.size, 1, none⟩ (.slice bo' (d.cached.length + 1) dp')).setCell ⟨w2.heap.size, 2, none⟩ (.int .i64 (d.writes + 1))) (.agg #[.slice ao d.sectors.length cp, .slice bo' (d.cached.length + 1) dp', .int .i64 (d.writes + 1)]) (addPut d n t) := ⟨_, _, rfl, SlT.of_own (own_far (own_far o0' _ _ q3') _ _ q3') (fun _ => rfl) (by decide), SlT.of_own (own_far (own_far o1r.1 _ _ q3) _ _ q3) (fun _ => rfl) (by decide)⟩; obtain ⟨cX3, fX3⟩ := cX3; obtain ⟨cA3, fA3⟩ := cA3; obtain ⟨cR3, fR3⟩ := cR3; clear p3 g3 o1a)
    go_wp2_with (go_at_call 111; refine (implDevOk _ (addPut d n t) _ hI3 l0 l1').mono ?_; rintro e w4 ⟨rfl, b4⟩; rw [hx]; have x4 := Below.trans (Below.setCell (Below.setCell x3 (p := ⟨w2.heap.size, 1, none⟩) (by simp <;> omega) _) (p := ⟨w2.heap.size, 2, none⟩) (by simp <;> omega) _) (b4.mono (Below.size (Below.setCell (Below.setCell x3 (p := ⟨w2.heap.size, 1, none⟩) (by simp <;> omega) _) (p := ⟨w2.heap.size, 2, none⟩) (by simp <;> omega) _))); have z4 : w3.heap.size ≤ w4.heap.size := (by simpa using b4.size); obtain ⟨hc, hf⟩ := bcell b4; have cA4 := fun o => hc w.heap.size o (by first | omega | (simp <;> omega)); have fA4 := fun o => hf w.heap.size o (by first | omega | (simp <;> omega)); have cR4 := fun o => hc (w.heap.size + 1) o (by first | omega | (simp <;> omega)); have fR4 := fun o => hf (w.heap.size + 1) o (by first | omega | (simp <;> omega)); have cX4 := fun o => hc w2.heap.size o (by first | omega | (simp <;> omega)); have fX4 := fun o => hf w2.heap.size o (by first | omega | (simp <;> omega)); clear hc hf; have o0'' := own_below (own_far (own_far o0' _ _ q3') _ _ q3') b4; have o1'' := own_below (own_far (own_far o1r.1 _ _ q3) _ _ q3) b4)
    go_wp2
    refine bodyPost_ret (v := .tuple #[.agg #[.slice ao d.sectors.length cp, .slice bo' (d.cached.length + 1) dp', .int .i64 (d.writes + 1)], .bool true]) (by simp [results, Try.results33, go_sem, ltA, ltR, neA, neR, neA', neR', cA1, cR1, cA2, cR2, cA3, cR3, cX3, cA4, cR4, cX4]) rfl ?_
    rw [HR.out, HB.out]
    refine ⟨_, rfl, ?_, ?_⟩
    · refine ⟨_, _, m, rfl, by omega, by simp; omega, ⟨own_mono (base := w1.heap.size) ?_ (by omega), q0⟩, Row.of_own (lo := m) (n := (addPut d n t).cached.length) ?_ rfl⟩
      · repeat (refine own_other ?_ _ (by simp <;> omega) _)
        exact o0''
      · repeat (refine own_other ?_ _ (by simp <;> omega) _)
        exact o1''
    · repeat (refine Below.setCell ?_ (by simp <;> omega) _)
      exact x4
end Go.Proofs.Ytmbmflhcimkjpaa


/- Walks: DevFall and DevFlush of the reference and of the program. -/
import Derived.Test.YtmbmflhcimkjpaaDevL
set_option linter.unusedVariables false
set_option linter.unusedSimpArgs false
namespace Go.Proofs.Ytmbmflhcimkjpaa
open Go.RowKit Sp Go.Sort
namespace Sp
def devFall (d : DevR) (mask : Int) (all : Bool) : DevR := if devB d then ⟨landTo (hit mask all) d.sectors d.cached d.cached.length, [], d.writes⟩ else noDev
theorem devFall_ok {d : DevR} (mask : Int) (all : Bool) (h : devB d = true) : devFall d mask all = ⟨landTo (hit mask all) d.sectors d.cached d.cached.length, [], d.writes⟩ := by simp [devFall, h]
theorem devFall_not {d : DevR} (mask : Int) (all : Bool) (h : devB d = false) : devFall d mask all = noDev := by simp [devFall, h]
theorem devFall_len (d : DevR) (mask : Int) (all : Bool) (l0 : (d.sectors.length : Int) ≤ 1048576) : ((devFall d mask all).sectors.length : Int) ≤ 1048576 ∧ ((devFall d mask all).cached.length : Int) ≤ 1048576 := by
  unfold devFall
  split
  · simp only [landTo_length, List.length_nil]; omega
  · simp [noDev]
theorem landTo_congr {p q : Nat → Bool} (secs : List ByteArray) (l : List PutR) (k : Nat) (h : ∀ i, i < k → p i = q i) : landTo p secs l k = landTo q secs l k := by
  induction k with
  | zero => rfl
  | succ k ih =>
    unfold landTo
    rw [ih (fun i hi => h i (by omega)), h k (by omega)]
theorem hit_20 : ∀ i, i < 20 → hit 1048575 false i = true := by decide +kernel
theorem devFlush_eq (d : DevR) : devFall d 1048575 false = devFall d 0 true := by
  unfold devFall
  split
  · rename_i h
    have := devB_cached h
    rw [landTo_congr (q := hit 0 true) _ _ _ (fun i hi => by rw [hit_20 i (by omega)]; rfl)]
  · rfl
end Sp

set_option maxRecDepth 100000 in
set_option maxHeartbeats 1600000 in
theorem specDevFlush_own (d : DevR) (ad0 ad1 : Option Addr) (cap0 cap1 : Nat) (w : World) (h0 : SlT strCells 1 w (.slice ad0 d.sectors.length cap0) d.sectors) (h1 : SlT PutR.cells 2 w (.slice ad1 d.cached.length cap1) d.cached)
    (l0 : (d.sectors.length : Int) ≤ 1048576) (l1 : (d.cached.length : Int) ≤ 1048576) :
    Calls Try.prog 171 #[.agg #[.slice ad0 d.sectors.length cap0, .slice ad1 d.cached.length cap1, .int .i64 d.writes]] w fun e w' => ∃ v', e = .returned (.tuple #[v', .bool (devB d)]) ∧ OwnDev w.heap.size w' v' (devFall d 0 true) ∧ Below w.heap.size w w' := by
  have hb2 : ∀ o₁ o₂ : Obj, RowKit.Below w.heap.size w ((w.alloc o₁).alloc o₂) := fun o₁ o₂ => ((Below.refl _ _).alloc (Nat.le_refl _) _).alloc (by simp <;> omega) _
  have hI : IsDev w (.agg #[.slice ad0 d.sectors.length cap0, .slice ad1 d.cached.length cap1, .int .i64 d.writes]) d := ⟨_, _, rfl, h0, h1⟩
  rcases hd : devB d with _ | _
  · have HR := Lib.hid (devFall_not 0 true hd)
    go_enter Try.func171, Try.ntmps171
    go_wp2_with (go_at_call 29; refine (specDevOk _ d _ (hI.below (hb2 _ _)) l0 l1).mono ?_; rintro e w1 ⟨rfl, b1⟩; rw [hd]; have x1 := Below.trans (hb2 _ _) (b1.mono (Below.size (hb2 _ _))); have z1 : w.heap.size + 1 < w1.heap.size := Nat.lt_of_lt_of_le (by simp) b1.size; obtain ⟨hc, hf⟩ := bcell b1; have cA1 := fun o => hc w.heap.size o (by first | omega | (simp <;> omega)); have fA1 := fun o => hf w.heap.size o (by first | omega | (simp <;> omega)); have cR1 := fun o => hc (w.heap.size + 1) o (by first | omega | (simp <;> omega)); have fR1 := fun o => hf (w.heap.size + 1) o (by first | omega | (simp <;> omega)); clear hc hf)
    go_wp2
    refine bodyPost_ret (v := .tuple #[.agg #[.slice none 0 0, .slice none 0 0, .int .i64 0], .bool false]) (by simp [results, Try.results171, go_sem, cA1, cR1] <;> rfl) rfl ?_
    rw [HR.out]
    refine ⟨_, rfl, ?_, ?_⟩
    · exact ⟨_, _, rfl, World.ownsRow_nil _ _ _ _, World.ownsRow_nil _ _ _ _, fun k hk => by simp [Value.ownBlock] at hk⟩
    · repeat (refine Below.setCell ?_ (by simp <;> omega) _)
      exact x1
  · have HR := Lib.hid (devFall_ok 0 true hd)
    go_enter Try.func171, Try.ntmps171
    go_wp2_with (go_at_call 29; refine (specDevOk _ d _ (hI.below (hb2 _ _)) l0 l1).mono ?_; rintro e w1 ⟨rfl, b1⟩; rw [hd]; have x1 := Below.trans (hb2 _ _) (b1.mono (Below.size (hb2 _ _))); have z1 : w.heap.size + 1 < w1.heap.size := Nat.lt_of_lt_of_le (by simp) b1.size; obtain ⟨hc, hf⟩ := bcell b1; have cA1 := fun o => hc w.heap.size o (by first | omega | (simp <;> omega)); have fA1 := fun o => hf w.heap.size o (by first | omega | (simp <;> omega)); have cR1 := fun o => hc (w.heap.size + 1) o (by first | omega | (simp <;> omega)); have fR1 := fun o => hf (w.heap.size + 1) o (by first | omega | (simp <;> omega)); clear hc hf)
    go_wp2_with (go_at_call 195; refine (l5Land_is d hd 0 true ad0 ad1 cap0 cap1 _ (h0.below x1) (h1.below x1) l0 l1).mono ?_; rintro e w2 ⟨v2, rfl, Rv, b2⟩; obtain ⟨s0, s1, hv, y0, y1, ap⟩ := Rv; subst hv; obtain ⟨ao, cp, hq0⟩ := (Row.of_own y0 rfl).form; subst hq0; obtain ⟨bo, dp, hq1⟩ := (Row.of_own y1 rfl).form; subst hq1; have x2 := x1.trans (b2.mono x1.size); have z2 := b2.size; obtain ⟨hc, hf⟩ := bcell b2; have cA2 := fun o => hc w.heap.size o (by first | omega | (simp <;> omega)); have fA2 := fun o => hf w.heap.size o (by first | omega | (simp <;> omega)); have cR2 := fun o => hc (w.heap.size + 1) o (by first | omega | (simp <;> omega)); have fR2 := fun o => hf (w.heap.size + 1) o (by first | omega | (simp <;> omega)); clear hc hf)
    go_wp2
    refine bodyPost_ret (v := .tuple #[.agg #[.slice ao (landTo (hit 0 true) d.sectors d.cached d.cached.length).length cp, .slice bo 0 dp, .int .i64 d.writes], .bool true]) (by simp [results, Try.results171, go_sem, cA1, cR1, cA2, cR2]) rfl ?_
    rw [HR.out]
    refine ⟨_, rfl, ?_, ?_⟩
    · refine ⟨_, _, rfl, own_mono (base := w1.heap.size) (?_ : World.ownsRow _ _ 9 1 _ ((landTo (hit 0 true) d.sectors d.cached d.cached.length).length) _) (by omega), own_mono (base := w1.heap.size) (?_ : World.ownsRow _ _ 61 2 _ (0) _) (by omega), ap⟩
      · repeat (refine own_other ?_ _ (by simp <;> omega) _)
        exact y0
      · repeat (refine own_other ?_ _ (by simp <;> omega) _)
        exact y1
    · repeat (refine Below.setCell ?_ (by simp <;> omega) _)
      exact x2
theorem specDevFlush (d : DevR) (ad0 ad1 : Option Addr) (cap0 cap1 : Nat) (w : World) (h0 : SlT strCells 1 w (.slice ad0 d.sectors.length cap0) d.sectors) (h1 : SlT PutR.cells 2 w (.slice ad1 d.cached.length cap1) d.cached)
    (l0 : (d.sectors.length : Int) ≤ 1048576) (l1 : (d.cached.length : Int) ≤ 1048576) :
    Calls Try.prog 171 #[.agg #[.slice ad0 d.sectors.length cap0, .slice ad1 d.cached.length cap1, .int .i64 d.writes]] w fun e w' => ∃ v', e = .returned (.tuple #[v', .bool (devB d)]) ∧ IsDev w' v' (devFall d 0 true) ∧ Below w.heap.size w w' := by
  refine (specDevFlush_own d ad0 ad1 cap0 cap1 w h0 h1 l0 l1).mono ?_
  rintro e w' ⟨v', rfl, h, b⟩
  exact ⟨v', rfl, h.is, b⟩

end Go.Proofs.Ytmbmflhcimkjpaa

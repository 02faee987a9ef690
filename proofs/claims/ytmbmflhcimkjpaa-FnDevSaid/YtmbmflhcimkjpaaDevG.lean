
/- Walks: DevFall and DevFlush of the program. -/
import Derived.Test.YtmbmflhcimkjpaaDevF
set_option linter.unusedVariables false
set_option linter.unusedSimpArgs false
namespace Go.Proofs.Ytmbmflhcimkjpaa
open Go.RowKit Sp Go.Sort

set_option maxRecDepth 100000 in
set_option maxHeartbeats 1600000 in
theorem implDevFall (d : DevR) (mask : Int) (ad0 ad1 : Option Addr) (cap0 cap1 : Nat) (w : World) (h0 : SlT strCells 1 w (.slice ad0 d.sectors.length cap0) d.sectors) (h1 : SlT PutR.cells 2 w (.slice ad1 d.cached.length cap1) d.cached)
    (l0 : (d.sectors.length : Int) ≤ 1048576) (l1 : (d.cached.length : Int) ≤ 1048576) :
    Calls Try.prog 28 #[.agg #[.slice ad0 d.sectors.length cap0, .slice ad1 d.cached.length cap1, .int .i64 d.writes], .int .i64 mask] w fun e w' => ∃ v', e = .returned (.tuple #[v', .bool (devB d)]) ∧ RowDev w.heap.size w'.heap.size w' v' (devFall d mask false) ∧ Below w.heap.size w w' := by
  have hb2 : ∀ o₁ o₂ : Obj, RowKit.Below w.heap.size w ((w.alloc o₁).alloc o₂) := fun o₁ o₂ => ((Below.refl _ _).alloc (Nat.le_refl _) _).alloc (by simp <;> omega) _
  have hI : IsDev w (.agg #[.slice ad0 d.sectors.length cap0, .slice ad1 d.cached.length cap1, .int .i64 d.writes]) d := ⟨_, _, rfl, h0, h1⟩
  rcases hd : devB d with _ | _
  · have HR := Lib.hid (devFall_not mask false hd)
    go_enter Try.func28, Try.ntmps28
    go_wp2_with (go_at_call 111; refine (implDevOk _ d _ (hI.below (hb2 _ _)) l0 l1).mono ?_; rintro e w1 ⟨rfl, b1⟩; rw [hd]; have x1 := Below.trans (hb2 _ _) (b1.mono (Below.size (hb2 _ _))); have z1 : w.heap.size + 1 < w1.heap.size := Nat.lt_of_lt_of_le (by simp) b1.size; obtain ⟨hc, hf⟩ := bcell b1; have cA1 := fun o => hc w.heap.size o (by first | omega | (simp <;> omega)); have fA1 := fun o => hf w.heap.size o (by first | omega | (simp <;> omega)); have cR1 := fun o => hc (w.heap.size + 1) o (by first | omega | (simp <;> omega)); have fR1 := fun o => hf (w.heap.size + 1) o (by first | omega | (simp <;> omega)); clear hc hf)
    go_wp2
    refine bodyPost_ret (v := .tuple #[.agg #[.slice none 0 0, .slice none 0 0, .int .i64 0], .bool false]) (by simp [results, Try.results28, go_sem, cA1, cR1] <;> rfl) rfl ?_
    rw [HR.out]
    refine ⟨_, rfl, ?_, ?_⟩
    · exact ⟨_, _, w.heap.size, rfl, Nat.le_refl _, by simp; omega, Row.nil _ _ _, Row.nil _ _ _⟩
    · repeat (refine Below.setCell ?_ (by simp <;> omega) _)
      exact x1
  have HR := Lib.hid (devFall_ok mask false hd)
  have hn0 := devB_secs hd
  go_enter Try.func28, Try.ntmps28
  go_wp2_with (go_at_call 111; refine (implDevOk _ d _ (hI.below (hb2 _ _)) l0 l1).mono ?_; rintro e w1 ⟨rfl, b1⟩; rw [hd]; have x1 := Below.trans (hb2 _ _) (b1.mono (Below.size (hb2 _ _))); have z1 : w.heap.size + 1 < w1.heap.size := Nat.lt_of_lt_of_le (by simp) b1.size; obtain ⟨hc, hf⟩ := bcell b1; have cA1 := fun o => hc w.heap.size o (by first | omega | (simp <;> omega)); have fA1 := fun o => hf w.heap.size o (by first | omega | (simp <;> omega)); have cR1 := fun o => hc (w.heap.size + 1) o (by first | omega | (simp <;> omega)); have fR1 := fun o => hf (w.heap.size + 1) o (by first | omega | (simp <;> omega)); clear hc hf)
  go_upto_region 4 with (go_at_call 112; refine (copyDev_row d ad0 ad1 cap0 cap1 _ (h0.below x1) (h1.below x1) l0 l1).mono ?_; rintro e w2 ⟨v2, rfl, ⟨s0, s1, m, rfl, e0, e1, r0, r1⟩, b2⟩; have ap := rows_apart r0 r1; have o0 := r0.1; have o1 := r1.1; have q0 := r0.2; obtain ⟨ao, cp, rfl⟩ := r0.form; obtain ⟨bo, dp, rfl⟩ := r1.form; clear r0 r1; have x2 := x1.trans (b2.mono x1.size); have z2 := b2.size; obtain ⟨hc, hf⟩ := bcell b2; have cA2 := fun o => hc w.heap.size o (by first | omega | (simp <;> omega)); have fA2 := fun o => hf w.heap.size o (by first | omega | (simp <;> omega)); have cR2 := fun o => hc (w.heap.size + 1) o (by first | omega | (simp <;> omega)); have fR2 := fun o => hf (w.heap.size + 1) o (by first | omega | (simp <;> omega)); clear hc hf)
  obtain ⟨g, rfl⟩ : ∃ g, ao = some ⟨g, 0, none⟩ := by
    rcases (Row.of_own (l := d.sectors) o0 rfl).shape with ⟨hv, hn⟩ | ⟨g, c, hv, _⟩
    · rw [hn] at hn0; simp at hn0
    · simp at hv; exact ⟨g, hv.1⟩
  have hg := o0.lt g rfl
  have hgm := q0 g rfl
  go_upto_region 5 with fail
  have hx0 : (w2.alloc (.cells #[.slice (some ⟨g, 0, none⟩) d.sectors.length cp, .slice none 0 0, .int .i64 d.writes] 52)).cell? ⟨w2.heap.size, 0, none⟩ = some (.slice (some ⟨g, 0, none⟩) d.sectors.length cp) := by simp [go_sem]
  have hx1 : (w2.alloc (.cells #[.slice (some ⟨g, 0, none⟩) d.sectors.length cp, .slice none 0 0, .int .i64 d.writes] 52)).cell? ⟨w2.heap.size, 1, none⟩ = some (.slice none 0 0) := by simp [go_sem]
  have hx2 : (w2.alloc (.cells #[.slice (some ⟨g, 0, none⟩) d.sectors.length cp, .slice none 0 0, .int .i64 d.writes] 52)).cell? ⟨w2.heap.size, 2, none⟩ = some (.int .i64 d.writes) := by simp [go_sem]
  have hsz : (w2.alloc (.cells #[.slice (some ⟨g, 0, none⟩) d.sectors.length cp, .slice none 0 0, .int .i64 d.writes] 52)).heap.size = w2.heap.size + 1 := by simp
  have oA := o0.alloc (.cells #[.slice (some ⟨g, 0, none⟩) d.sectors.length cp, .slice none 0 0, .int .i64 d.writes] 52)
  have xW := x2.alloc x2.size (.cells #[.slice (some ⟨g, 0, none⟩) d.sectors.length cp, .slice none 0 0, .int .i64 d.writes] 52)
  have hbW := hal' w2 (.cells #[.slice (some ⟨g, 0, none⟩) d.sectors.length cp, .slice none 0 0, .int .i64 d.writes] 52)
  have rA : (w2.alloc (.cells #[.slice (some ⟨g, 0, none⟩) d.sectors.length cp, .slice none 0 0, .int .i64 d.writes] 52)).cell? ⟨w.heap.size, 1, none⟩ = some (.slice ad1 d.cached.length cap1) := by rw [(bcell hbW).1 w.heap.size 1 (by omega), cA2, cA1]; simp [go_sem]
  have rR : ∀ o, (w2.alloc (.cells #[.slice (some ⟨g, 0, none⟩) d.sectors.length cp, .slice none 0 0, .int .i64 d.writes] 52)).cell? ⟨w.heap.size + 1, o, none⟩ = (#[.slice none 0 0, .slice none 0 0, .int .i64 0] : Array Value)[o]? := fun o => by rw [(bcell hbW).1 (w.heap.size + 1) o (by omega), cR2, cR1]; simp [go_sem]
  have rF : ∀ o, (w2.alloc (.cells #[.slice (some ⟨g, 0, none⟩) d.sectors.length cp, .slice none 0 0, .int .i64 d.writes] 52)).frozen? ⟨w.heap.size + 1, o, none⟩ = false := fun o => by rw [(bcell hbW).2 (w.heap.size + 1) o (by omega), fR2, fR1]; simp [go_sem]
  generalize (w2.alloc (.cells #[.slice (some ⟨g, 0, none⟩) d.sectors.length cp, .slice none 0 0, .int .i64 d.writes] 52)) = W at hx0 hx1 hx2 hsz oA xW rA rR rF ⊢
  clear hbW o1 o0 cA1 cR1 fA1 fR1 cA2 cR2 fA2 fR2 ap x2
  go_wp2
  go_loopw [19] (fun i wr => ∃ k : Nat, k ≤ d.cached.length ∧ i = .int .i64 k ∧ wr.ownsRow w1.heap.size 9 1 (.slice (some ⟨g, 0, none⟩) d.sectors.length cp) d.sectors.length ((landTo (hit mask false) d.sectors d.cached k).map strCells).flatten ∧ W.grownBy wr (some g)) (fun i _ => d.cached.length - (intOf i).toNat)
  case atStart => exact ⟨0, by omega, rfl, oA, touch_refl _ _⟩
  case round =>
    obtain ⟨k, hk, rfl, hr, ht⟩ := hrel
    have hlen := d.cached.length
    have hzw := ht.size
    have hlx : w2.heap.size < wr.heap.size := by omega
    have y0 := ((gcell ht (b := w2.heap.size) (by omega) (by simp; omega)).1 0).trans hx0
    have y1 := ((gcell ht (b := w2.heap.size) (by omega) (by simp; omega)).1 1).trans hx1
    have y2 := ((gcell ht (b := w2.heap.size) (by omega) (by simp; omega)).1 2).trans hx2
    have yA := ((gcell ht (b := w.heap.size) (by omega) (by simp; omega)).1 1).trans rA
    by_cases hlt : k < d.cached.length
    · obtain ⟨bo', cp', hv, hlc, hcm, hsh⟩ := h1.shape
      obtain ⟨b, off, hb, hbs, hc⟩ := hsh (by omega)
      obtain rfl : ad1 = some ⟨b, off, none⟩ := by simp at hv; rw [hb] at hv; simpa using hv.1
      have gb := (gcell ht (b := b) (by omega) (by simp; omega)).1
      have e0 : wr.cell? ⟨b, off + k * 2, none⟩ = some (.int .i64 d.cached[k].sec) := (gb _).trans ((xW.cell (p := ⟨b, off + k * 2, none⟩) hbs).trans (hc k hlt 0 _ (by simp [PutR.cells])))
      have e1 : wr.cell? ⟨b, off + k * 2 + 1, none⟩ = some (.string d.cached[k].text) := (gb _).trans ((xW.cell (p := ⟨b, off + k * 2 + 1, none⟩) hbs).trans (hc k hlt 1 _ (by simp [PutR.cells])))
      have hat := devB_at hd hlt
      clear hc hsh hv hb gb
      obtain ⟨m', hm⟩ : ∃ m' : Nat, d.cached[k].sec = m' := ⟨d.cached[k].sec.toNat, by omega⟩
      have hmn : m' < d.sectors.length := by omega
      have hmt : d.cached[k].sec.toNat = m' := by omega
      rw [hm] at e0
      have hro := hr.alloc (.cells #[.int .i64 m', .string d.cached[k].text] 61)
      obtain ⟨x0, q0'⟩ := cell_owns hro m' (by have := hr.1; omega)
      have z0 := hro.frozenAt
      have s0 := (hro.stored m' (.string d.cached[k].text)).1
      rw [strs_set] at s0
      have t0 := touch_set (touch_below ht (hal' wr (.cells #[.int .i64 m', .string d.cached[k].text] 61))) m' (.string d.cached[k].text)
      have hmiss : hit mask false k = false → (wr.alloc (.cells #[.int .i64 m', .string d.cached[k].text] 61)).ownsRow w1.heap.size 9 1 (.slice (some ⟨g, 0, none⟩) d.sectors.length cp) d.sectors.length ((landTo (hit mask false) d.sectors d.cached (k + 1)).map strCells).flatten := fun h => by rw [landTo_miss hlt h]; exact hro
      have hhit : hit mask false k = true → (landTo (hit mask false) d.sectors d.cached (k + 1)) = (landTo (hit mask false) d.sectors d.cached k).set d.cached[k].sec.toNat d.cached[k].text := fun h => landTo_hit hlt h
      have HM := Lib.hid hmiss
      have HH := Lib.hid hhit
      have S0 := Lib.hid s0
      clear hmiss hhit s0
      by_cases hm0 : 0 ≤ mask
      · rcases hbit : (bits .and .i64 (mask / 2 ^ min k 64) 1 == 1) with _ | _
        · have hp : hit mask false k = false := by simp [hit, hbit]
          go_wp2
          go_roundw
          case rel => exact ⟨k + 1, by omega, by go_num, HM.out hp, touch_below ht (hal' _ _)⟩
          case measure => simp [intOf]; omega
        · have hp : hit mask false k = true := by simp [hit, hbit, hm0]
          go_wp2
          go_roundw
          case rel => exact ⟨k + 1, by omega, by go_num, by rw [HH.out hp, hmt]; exact S0.out, t0⟩
          case measure => simp [intOf]; omega
      · have hp : hit mask false k = false := by simp [hit, hm0]
        go_wp2
        go_roundw
        case rel => exact ⟨k + 1, by omega, by go_num, HM.out hp, touch_below ht (hal' _ _)⟩
        case measure => simp [intOf]; omega
    · obtain rfl : k = d.cached.length := by omega
      obtain ⟨cR, fR⟩ := gcell ht (b := w.heap.size + 1) (by omega) (by simp; omega)
      have R0 := (cR 0).trans (rR 0)
      have R1 := (cR 1).trans (rR 1)
      have R2 := (cR 2).trans (rR 2)
      simp at R0 R1 R2
      have F2 := fun o => (fR o).trans (rF o)
      have hxe : RowKit.Below w.heap.size w wr := xW.grown ht (by omega) (fun j hj => by obtain rfl := Option.some.inj hj; omega)
      clear cR fR rR rF hx0 hx1 hx2
      go_wp2
      refine bodyPost_ret (v := .tuple #[.agg #[.slice (some ⟨g, 0, none⟩) d.sectors.length cp, .slice none 0 0, .int .i64 d.writes], .bool true]) (by simp [results, Try.results28, go_sem, R0, R1, R2]) rfl ?_
      rw [HR.out]
      refine ⟨_, rfl, ⟨_, _, m, rfl, by omega, by simp; omega, ⟨own_mono (base := w1.heap.size) (n := (landTo (hit mask false) d.sectors d.cached d.cached.length).length) ?_ (by omega), ?_⟩, Row.nil _ _ _⟩, ?_⟩
      · rw [landTo_length]
        repeat (refine own_other ?_ _ (by first | (simp; done) | (simp; omega)) _)
        exact hr
      · intro j hj
        obtain rfl : g = j := Option.some.inj hj
        exact hgm
      · repeat (refine Below.setCell ?_ (by simp <;> omega) _)
        exact hxe

set_option maxRecDepth 100000 in
set_option maxHeartbeats 1600000 in
theorem implDevFlush (d : DevR) (ad0 ad1 : Option Addr) (cap0 cap1 : Nat) (w : World) (h0 : SlT strCells 1 w (.slice ad0 d.sectors.length cap0) d.sectors) (h1 : SlT PutR.cells 2 w (.slice ad1 d.cached.length cap1) d.cached)
    (l0 : (d.sectors.length : Int) ≤ 1048576) (l1 : (d.cached.length : Int) ≤ 1048576) :
    Calls Try.prog 31 #[.agg #[.slice ad0 d.sectors.length cap0, .slice ad1 d.cached.length cap1, .int .i64 d.writes]] w fun e w' => ∃ v', e = .returned (.tuple #[v', .bool (devB d)]) ∧ RowDev w.heap.size w'.heap.size w' v' (devFall d 0 true) ∧ Below w.heap.size w w' := by
  have hb2 : ∀ o₁ o₂ : Obj, RowKit.Below w.heap.size w ((w.alloc o₁).alloc o₂) := fun o₁ o₂ => ((Below.refl _ _).alloc (Nat.le_refl _) _).alloc (by simp <;> omega) _
  rw [← devFlush_eq d]
  go_enter Try.func31, Try.ntmps31
  go_wp2_with (go_at_call 28; refine (implDevFall d 1048575 ad0 ad1 cap0 cap1 _ (h0.below (hb2 _ _)) (h1.below (hb2 _ _)) l0 l1).mono ?_; rintro e w1 ⟨v1, rfl, ⟨s0, s1, m, rfl, e0, e1, r0, r1⟩, b1⟩; obtain ⟨ao, cp, rfl⟩ := r0.form; obtain ⟨bo, dp, rfl⟩ := r1.form; have x1 := Below.trans (hb2 _ _) (b1.mono (Below.size (hb2 _ _))); have z1 : w.heap.size + 1 < w1.heap.size := Nat.lt_of_lt_of_le (by simp) b1.size; obtain ⟨hc, hf⟩ := bcell b1; have cA1 := fun o => hc w.heap.size o (by first | omega | (simp <;> omega)); have fA1 := fun o => hf w.heap.size o (by first | omega | (simp <;> omega)); have cR1 := fun o => hc (w.heap.size + 1) o (by first | omega | (simp <;> omega)); have fR1 := fun o => hf (w.heap.size + 1) o (by first | omega | (simp <;> omega)); clear hc hf)
  go_wp2
  refine bodyPost_ret (v := .tuple #[.agg #[.slice ao (devFall d 1048575 false).sectors.length cp, .slice bo (devFall d 1048575 false).cached.length dp, .int .i64 (devFall d 1048575 false).writes], .bool (devB d)]) (by simp [results, Try.results31, go_sem, cA1, cR1]) rfl ?_
  have e0' : w.heap.size + 1 + 1 ≤ m := by simpa using e0
  refine ⟨_, rfl, ⟨_, _, m, rfl, by omega, by simp; omega, ⟨own_mono (base := w.heap.size + 1 + 1) (n := (devFall d 1048575 false).sectors.length) ?_ (by omega), r0.2⟩, ⟨own_mono (base := m) (n := (devFall d 1048575 false).cached.length) ?_ (Nat.le_refl _), fun j hj => by have := r1.2 j hj; simpa using this⟩⟩, ?_⟩
  · repeat (refine own_other ?_ _ (by first | (simp; done) | (simp; omega)) _)
    exact own_mono r0.1 (by simp)
  · repeat (refine own_other ?_ _ (by first | (simp; done) | (simp; omega)) _)
    exact r1.1
  · repeat (refine Below.setCell ?_ (by simp <;> omega) _)
    exact x1
end Go.Proofs.Ytmbmflhcimkjpaa

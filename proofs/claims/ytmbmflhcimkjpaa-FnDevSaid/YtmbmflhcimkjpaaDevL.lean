
/- Walks: landing of what is cached. -/
import Derived.Test.YtmbmflhcimkjpaaDevP
import Derived.StillTailTactics
set_option linter.unusedVariables false
set_option linter.unusedSimpArgs false
namespace Go.Proofs.Ytmbmflhcimkjpaa
open Go.RowKit Sp Go.Sort
namespace Sp
/-- The sectors behind the first k of what is cached. -/
def landTo (p : Nat → Bool) (secs : List ByteArray) (l : List PutR) : Nat → List ByteArray
  | 0 => secs
  | k + 1 => match l[k]? with
    | some x => if p k then (landTo p secs l k).set x.sec.toNat x.text else landTo p secs l k
    | none => landTo p secs l k
theorem landTo_length (p : Nat → Bool) (secs : List ByteArray) (l : List PutR) (k : Nat) : (landTo p secs l k).length = secs.length := by
  induction k with
  | zero => rfl
  | succ k ih =>
    unfold landTo
    split
    · split
      · rw [List.length_set, ih]
      · exact ih
    · exact ih
theorem landTo_hit {p : Nat → Bool} {secs : List ByteArray} {l : List PutR} {k : Nat} (hk : k < l.length) (h : p k = true) : landTo p secs l (k + 1) = (landTo p secs l k).set l[k].sec.toNat l[k].text := by
  conv => lhs; unfold landTo
  simp [hk, h]
theorem landTo_miss {p : Nat → Bool} {secs : List ByteArray} {l : List PutR} {k : Nat} (hk : k < l.length) (h : p k = false) : landTo p secs l (k + 1) = landTo p secs l k := by
  conv => lhs; unfold landTo
  simp [hk, h]
def hit (mask : Int) (all : Bool) (k : Nat) : Bool := all || (decide (0 ≤ mask) && (bits .and .i64 (mask / 2 ^ min k 64) 1 == 1))
theorem devB_at {d : DevR} (h : devB d = true) {k : Nat} (hk : k < d.cached.length) : 0 ≤ d.cached[k].sec ∧ d.cached[k].sec.toNat < d.sectors.length := by
  have h2 : allIx d.cached.length (putAt d.sectors.length d.cached) = true := by simp [devB] at h; exact h.2.2
  have := allIx_spec h2 k hk
  rw [putAt_in hk] at this
  simp [putB, inB] at this
  omega
theorem devB_secs {d : DevR} (h : devB d = true) : 0 < d.sectors.length := by
  have : devHead d = true := by simp [devB] at h; exact h.1
  simp [devHead, inB] at this
  omega
end Sp
theorem hal' (W : World) (o : Obj) : RowKit.Below W.heap.size W (W.alloc o) := (Below.refl _ _).alloc (Nat.le_refl _) _
theorem strs_set (l : List ByteArray) (k : Nat) (x : ByteArray) : (l.map strCells).flatten.set k (.string x) = ((l.set k x).map strCells).flatten := by
  have e : ∀ l : List ByteArray, (l.map strCells).flatten = l.map (fun x => .string x) := by
    intro l; induction l with
    | nil => rfl
    | cons a l ih => simp [strCells, ih]
  rw [e, e, List.map_set]

set_option maxRecDepth 100000 in
set_option maxHeartbeats 1600000 in
theorem l5Land_is (d : DevR) (hd : devB d = true) (mask : Int) (all : Bool) (ad0 ad1 : Option Addr) (cap0 cap1 : Nat) (w : World) (h0 : SlT strCells 1 w (.slice ad0 d.sectors.length cap0) d.sectors) (h1 : SlT PutR.cells 2 w (.slice ad1 d.cached.length cap1) d.cached)
    (l0 : (d.sectors.length : Int) ≤ 1048576) (l1 : (d.cached.length : Int) ≤ 1048576) :
    Calls Try.prog 195 #[.agg #[.slice ad0 d.sectors.length cap0, .slice ad1 d.cached.length cap1, .int .i64 d.writes], .int .i64 mask, .bool all] w fun e w' => ∃ v', e = .returned v' ∧ OwnDev w.heap.size w' v' ⟨landTo (hit mask all) d.sectors d.cached d.cached.length, [], d.writes⟩ ∧ Below w.heap.size w w' := by
  have hb2 : ∀ o₁ o₂ : Obj, RowKit.Below w.heap.size w ((w.alloc o₁).alloc o₂) := fun o₁ o₂ => ((Below.refl _ _).alloc (Nat.le_refl _) _).alloc (by simp <;> omega) _
  have hn0 := devB_secs hd
  go_enter Try.func195, Try.ntmps195
  go_upto_region 2 with (go_at_call 113; refine (l5Copy_own d ad0 ad1 cap0 cap1 _ (h0.below (hb2 _ _)) (h1.below (hb2 _ _)) l0 l1).mono ?_; rintro e w1 ⟨v1, rfl, ⟨s0, s1, rfl, o0, o1, ap⟩, b1⟩; obtain ⟨ao, cp, rfl⟩ := (Row.of_own o0 rfl).form; obtain ⟨bo, dp, rfl⟩ := (Row.of_own o1 rfl).form; have x1 := Below.trans (hb2 _ _) (b1.mono (Below.size (hb2 _ _))); have z1 : w.heap.size + 1 < w1.heap.size := Nat.lt_of_lt_of_le (by simp) b1.size; obtain ⟨hc, hf⟩ := bcell b1; have cA1 := fun o => hc w.heap.size o (by first | omega | (simp <;> omega)); have cR1 := fun o => hc (w.heap.size + 1) o (by first | omega | (simp <;> omega)); have fR1 := fun o => hf (w.heap.size + 1) o (by first | omega | (simp <;> omega)); clear hc hf)
  obtain ⟨g, rfl⟩ : ∃ g, ao = some ⟨g, 0, none⟩ := by
    rcases (Row.of_own (l := d.sectors) o0 rfl).shape with ⟨hv, hn⟩ | ⟨g, c, hv, _⟩
    · rw [hn] at hn0; simp at hn0
    · simp at hv; exact ⟨g, hv.1⟩
  have o0w := own_mono (base' := w.heap.size + 1 + 1) o0 (by simp)
  have o1w := own_mono (base' := w.heap.size + 1 + 1) o1 (by simp)
  have hg := o0w.lt g rfl
  have hx0 : (w1.alloc (.cells #[.slice (some ⟨g, 0, none⟩) d.sectors.length cp, .slice bo d.cached.length dp, .int .i64 d.writes] 52)).cell? ⟨w1.heap.size, 0, none⟩ = some (.slice (some ⟨g, 0, none⟩) d.sectors.length cp) := by simp [go_sem]
  have hx1 : (w1.alloc (.cells #[.slice (some ⟨g, 0, none⟩) d.sectors.length cp, .slice bo d.cached.length dp, .int .i64 d.writes] 52)).cell? ⟨w1.heap.size, 1, none⟩ = some (.slice bo d.cached.length dp) := by simp [go_sem]
  have hx2 : (w1.alloc (.cells #[.slice (some ⟨g, 0, none⟩) d.sectors.length cp, .slice bo d.cached.length dp, .int .i64 d.writes] 52)).cell? ⟨w1.heap.size, 2, none⟩ = some (.int .i64 d.writes) := by simp [go_sem]
  have hxf : ∀ o, (w1.alloc (.cells #[.slice (some ⟨g, 0, none⟩) d.sectors.length cp, .slice bo d.cached.length dp, .int .i64 d.writes] 52)).frozen? ⟨w1.heap.size, o, none⟩ = false := fun o => by simp [go_sem]
  have hsz : (w1.alloc (.cells #[.slice (some ⟨g, 0, none⟩) d.sectors.length cp, .slice bo d.cached.length dp, .int .i64 d.writes] 52)).heap.size = w1.heap.size + 1 := by simp
  have oA := o0w.alloc (.cells #[.slice (some ⟨g, 0, none⟩) d.sectors.length cp, .slice bo d.cached.length dp, .int .i64 d.writes] 52)
  have oB := o1w.alloc (.cells #[.slice (some ⟨g, 0, none⟩) d.sectors.length cp, .slice bo d.cached.length dp, .int .i64 d.writes] 52)
  have xW := x1.alloc x1.size (.cells #[.slice (some ⟨g, 0, none⟩) d.sectors.length cp, .slice bo d.cached.length dp, .int .i64 d.writes] 52)
  have hbW := hal' w1 (.cells #[.slice (some ⟨g, 0, none⟩) d.sectors.length cp, .slice bo d.cached.length dp, .int .i64 d.writes] 52)
  have rR : ∀ o, (w1.alloc (.cells #[.slice (some ⟨g, 0, none⟩) d.sectors.length cp, .slice bo d.cached.length dp, .int .i64 d.writes] 52)).cell? ⟨w.heap.size + 1, o, none⟩ = (#[.slice none 0 0, .slice none 0 0, .int .i64 0] : Array Value)[o]? := fun o => by rw [(bcell hbW).1 (w.heap.size + 1) o (by omega), cR1]; simp [go_sem]
  have rF : ∀ o, (w1.alloc (.cells #[.slice (some ⟨g, 0, none⟩) d.sectors.length cp, .slice bo d.cached.length dp, .int .i64 d.writes] 52)).frozen? ⟨w.heap.size + 1, o, none⟩ = false := fun o => by rw [(bcell hbW).2 (w.heap.size + 1) o (by omega), fR1]; simp [go_sem]
  generalize (w1.alloc (.cells #[.slice (some ⟨g, 0, none⟩) d.sectors.length cp, .slice bo d.cached.length dp, .int .i64 d.writes] 52)) = W at hx0 hx1 hx2 hxf hsz oA oB xW rR rF ⊢
  clear hbW o0 o1 o0w o1w cA1 cR1 fR1
  go_wp2
  go_loopw [8] (fun i wr => ∃ k : Nat, k ≤ d.cached.length ∧ i = .int .i64 k ∧ wr.ownsRow (w.heap.size + 1 + 1) 9 1 (.slice (some ⟨g, 0, none⟩) d.sectors.length cp) d.sectors.length ((landTo (hit mask all) d.sectors d.cached k).map strCells).flatten ∧ W.grownBy wr (some g)) (fun i _ => d.cached.length - (intOf i).toNat)
  case atStart => exact ⟨0, by omega, rfl, oA, touch_refl _ _⟩
  case round =>
    obtain ⟨k, hk, rfl, hr, ht⟩ := hrel
    have hlen := d.cached.length
    obtain ⟨cX, fX⟩ := gcell ht (b := w1.heap.size) (by omega) (by simp; omega)
    have y0 := (cX 0).trans hx0
    have y1 := (cX 1).trans hx1
    have y2 := (cX 2).trans hx2
    by_cases hlt : k < d.cached.length
    · have oB' := own_grown oB ht (fun j h h' => ap g rfl (by rw [h, ← h']))
      obtain ⟨bo', cp', hv, hlc, hcm, hsh⟩ := (SlT.of_own oB' (fun _ => rfl) (by decide)).shape
      obtain ⟨b, off, hb, hbs, hc⟩ := hsh (by omega)
      obtain rfl : bo = some ⟨b, off, none⟩ := by simp at hv; rw [hv.1, hb]
      have e0 : wr.cell? ⟨b, off + k * 2, none⟩ = some (.int .i64 d.cached[k].sec) := hc k hlt 0 _ (by simp [PutR.cells])
      have e1 : wr.cell? ⟨b, off + k * 2 + 1, none⟩ = some (.string d.cached[k].text) := hc k hlt 1 _ (by simp [PutR.cells])
      have hat := devB_at hd hlt
      clear hc hsh hv hb oB'
      obtain ⟨m, hm⟩ : ∃ m : Nat, d.cached[k].sec = m := ⟨d.cached[k].sec.toNat, by omega⟩
      have hmn : m < d.sectors.length := by omega
      have hmt : d.cached[k].sec.toNat = m := by omega
      rw [hm] at e0
      obtain ⟨x0, q0⟩ := cell_owns hr.drew m (by have := hr.1; omega)
      have z0 := hr.drew.frozenAt
      have s0 := (hr.drew.stored m (.string d.cached[k].text)).1
      rw [strs_set] at s0
      have t0 := touch_set (touch_below ht ((Below.refl _ _).drew)) m (.string d.cached[k].text)
      have hmiss : hit mask all k = false → wr.ownsRow (w.heap.size + 1 + 1) 9 1 (.slice (some ⟨g, 0, none⟩) d.sectors.length cp) d.sectors.length ((landTo (hit mask all) d.sectors d.cached (k + 1)).map strCells).flatten := fun h => by rw [landTo_miss hlt h]; exact hr
      have hhit : hit mask all k = true → (landTo (hit mask all) d.sectors d.cached (k + 1)) = (landTo (hit mask all) d.sectors d.cached k).set d.cached[k].sec.toNat d.cached[k].text := fun h => landTo_hit hlt h
      have HM := Lib.hid hmiss
      have HH := Lib.hid hhit
      have S0 := Lib.hid s0
      clear hmiss hhit s0
      cases all with
      | true =>
        have hp : hit mask true k = true := rfl
        go_upto_region 6 with fail
        go_still_tail 15, (by kernel_rfl)
        change wpList _ _ _ _ _ wr.drew
        go_wp2
        go_roundw
        case rel => exact ⟨k + 1, by omega, by go_num, by rw [HH.out hp, hmt]; exact S0.out, t0⟩
        case measure => simp [intOf]; omega
      | false =>
        by_cases hm0 : 0 ≤ mask
        · rcases hbit : (bits .and .i64 (mask / 2 ^ min k 64) 1 == 1) with _ | _
          · have hp : hit mask false k = false := by simp [hit, hbit]
            go_wp2
            go_roundw
            case rel => exact ⟨k + 1, by omega, by go_num, HM.out hp, ht⟩
            case measure => simp [intOf]; omega
          · have hp : hit mask false k = true := by simp [hit, hbit, hm0]
            go_upto_region 6 with fail
            go_still_tail 15, (by kernel_rfl)
            change wpList _ _ _ _ _ wr.drew
            go_wp2
            go_roundw
            case rel => exact ⟨k + 1, by omega, by go_num, by rw [HH.out hp, hmt]; exact S0.out, t0⟩
            case measure => simp [intOf]; omega
        · have hp : hit mask false k = false := by simp [hit, hm0]
          go_wp2
          go_roundw
          case rel => exact ⟨k + 1, by omega, by go_num, HM.out hp, ht⟩
          case measure => simp [intOf]; omega
    · obtain rfl : k = d.cached.length := by omega
      obtain ⟨cR, fR⟩ := gcell ht (b := w.heap.size + 1) (by omega) (by simp; omega)
      have R0 := (cR 0).trans (rR 0)
      have R1 := (cR 1).trans (rR 1)
      have R2 := (cR 2).trans (rR 2)
      simp at R0 R1 R2
      have F1 := fun o => (fX o).trans (hxf o)
      have F2 := fun o => (fR o).trans (rF o)
      have hzw := ht.size
      have hne : ¬ w1.heap.size = w.heap.size + 1 := by omega
      have hne' : ¬ w.heap.size + 1 = w1.heap.size := by omega
      have hlt1 : w1.heap.size < wr.heap.size := by omega
      have hlt2 : w.heap.size + 1 < wr.heap.size := by omega
      have hxe : RowKit.Below w.heap.size w wr := xW.grown ht (by omega) (fun j hj => by obtain rfl := Option.some.inj hj; omega)
      clear cX fX cR fR rR rF hx0 hx1 hx2 hxf
      go_wp2
      refine bodyPost_ret (v := .agg #[.slice (some ⟨g, 0, none⟩) d.sectors.length cp, .slice (some ⟨wr.heap.size, 0, none⟩) 0 0, .int .i64 d.writes]) (by simp [results, Try.results195, go_sem, R0, R1, R2, hne, hne', hlt1, hlt2]) rfl ?_
      refine ⟨_, rfl, ⟨_, _, rfl, own_mono (base := w.heap.size + 1 + 1) (n := (landTo (hit mask all) d.sectors d.cached d.cached.length).length) ?_ (by omega), own_mono (base := wr.heap.size) (n := 0) ?_ (by omega), ?_⟩, ?_⟩
      · rw [landTo_length]
        refine World.ownsRow.alloc ?_ _
        repeat (first | refine own_other ?_ _ (by first | (simp; done) | (simp; omega)) _ | refine own_far ?_ _ _ (by simp [Value.ownBlock]; omega))
        exact hr
      · exact own0 (by simp) (Nat.le_refl _)
      · exact own_ne (by omega)
      · refine Below.alloc ?_ (by simp <;> omega) _
        repeat (refine Below.setCell ?_ (by simp <;> omega) _)
        exact hxe
end Go.Proofs.Ytmbmflhcimkjpaa

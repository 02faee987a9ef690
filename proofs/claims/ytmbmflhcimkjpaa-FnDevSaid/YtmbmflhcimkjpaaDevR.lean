
/- Walks: DevRead of the reference and of the program. -/
import Derived.Test.YtmbmflhcimkjpaaDevW
set_option linter.unusedVariables false
set_option linter.unusedSimpArgs false
namespace Go.Proofs.Ytmbmflhcimkjpaa
open Go.RowKit Sp Go.Sort
namespace Sp
def lastPut (n : Int) (s : ByteArray) (l : List PutR) : ByteArray := l.foldl (fun s p => if p.sec = n then p.text else s) s
def devIn (d : DevR) (n : Int) : Bool := devB d && inB n 0 ((d.sectors.length : Int) - 1)
def devRead (d : DevR) (n : Int) : ByteArray := if devIn d n then lastPut n (d.sectors[n.toNat]?.getD ByteArray.empty) d.cached else ByteArray.empty
theorem lastPut_step (n : Int) (s : ByteArray) (l : List PutR) (k : Nat) (h : k < l.length) : lastPut n s (l.take (k + 1)) = if l[k].sec = n then l[k].text else lastPut n s (l.take k) := by
  unfold lastPut; rw [List.take_succ_eq_append_getElem h, List.foldl_append]; rfl
/-- Behind k, none is the sector's. -/
def NoneFrom (n : Int) (l : List PutR) (k : Nat) : Prop := ∀ i (h : i < l.length), k ≤ i → l[i].sec ≠ n
theorem lastPut_none {n : Int} {s : ByteArray} {l : List PutR} {k : Nat} (hk : k ≤ l.length) (h : NoneFrom n l k) : lastPut n s l = lastPut n s (l.take k) := by
  have : ∀ j, k + j ≤ l.length → lastPut n s (l.take (k + j)) = lastPut n s (l.take k) := by
    intro j
    induction j with
    | zero => intro _; rfl
    | succ j ih =>
      intro hj
      have hlt : k + j < l.length := by omega
      rw [show k + (j + 1) = (k + j) + 1 from rfl, lastPut_step n s l (k + j) hlt, if_neg (h (k + j) hlt (by omega))]
      exact ih (by omega)
  have h2 := this (l.length - k) (by omega)
  rw [show k + (l.length - k) = l.length from by omega, List.take_length] at h2
  exact h2
theorem devRead_in {d : DevR} {m : Nat} (h : devIn d (m : Int) = true) (hm : m < d.sectors.length) : devRead d m = lastPut m d.sectors[m] d.cached := by
  unfold devRead; rw [if_pos h]; simp [hm]
theorem devRead_out {d : DevR} {n : Int} (h : devIn d n = false) : devRead d n = ByteArray.empty := by unfold devRead; rw [if_neg (by simp [h])]
end Sp

set_option maxRecDepth 100000 in
set_option maxHeartbeats 1600000 in
theorem implDevRead (v : Value) (d : DevR) (n : Int) (w : World) (h : IsDev w v d) (l0 : (d.sectors.length : Int) ≤ 1048576) (l1 : (d.cached.length : Int) ≤ 1048576) :
    Calls Try.prog 30 #[v, .int .i64 n] w fun e w' => e = .returned (.tuple #[.string (devRead d n), .bool (devIn d n)]) ∧ Below w.heap.size w w' := by
  have hcopy := h
  obtain ⟨s0, s1, hv, h0, h1⟩ := hcopy
  obtain ⟨ao, cap, hv0, hlc, hcm, hsh⟩ := h0.shape
  obtain ⟨bo, cbp, hv1, hlc1, hcm1, hsh1⟩ := h1.shape
  subst hv hv0 hv1
  have hbox : ∀ o : Obj, RowKit.Below w.heap.size w (w.alloc o) := fun o => (Below.refl _ _).alloc (Nat.le_refl _) _
  by_cases hn : inB n 0 ((d.sectors.length : Int) - 1) = true
  · by_cases hm : devB d = true
    · have hin : devIn d n = true := by simp [devIn, hm, hn]
      have hlo : (0 : Int) ≤ n := by simp [inB] at hn; omega
      have hhi : n < d.sectors.length := by simp [inB] at hn; omega
      obtain ⟨m, rfl⟩ : ∃ m : Nat, n = m := ⟨n.toNat, by omega⟩
      have hmn : m < d.sectors.length := by omega
      have HR := Lib.hid (devRead_in hin hmn)
      obtain ⟨b, off, rfl, hb, hc⟩ := hsh (by omega)
      have hs0 := str_cell hc m hmn
      clear hsh hc
      go_enter Try.func30, Try.ntmps30
      go_wp2_with (first | (go_at_call 105; refine (inRange_any _ _ _ _).mono ?_; rintro e w' ⟨rfl, rfl⟩; rw [hn]) | (go_at_call 111; refine (implDevOk _ d _ (h.below (hbox _)) l0 l1).mono ?_; rintro e w1 ⟨rfl, b1⟩; rw [hm]; have x1 := Below.trans (hbox _) (b1.mono (Below.size (hbox _))); have ca := fun o => (bcell b1).1 w.heap.size o (by simp <;> omega); have hs1 := (x1.cell (by exact hb)).trans hs0))
      go_loop [6] (fun i => ∃ k : Nat, k ≤ d.cached.length ∧ i = .int .i64 ((k : Int) - 1) ∧ NoneFrom m d.cached k) (fun i => (intOf i + 1).toNat)
      case atStart => exact ⟨d.cached.length, Nat.le_refl _, by go_num, fun i h1 h2 => by omega⟩
      case round =>
        obtain ⟨k, hk, rfl, hno⟩ := hrel
        by_cases hlt : 0 < k
        · have hltn : k - 1 < d.cached.length := by omega
          obtain ⟨b', off', rfl, hb', hc'⟩ := hsh1 (by omega)
          obtain ⟨j, rfl⟩ : ∃ j, k = j + 1 := ⟨k - 1, (Nat.sub_add_cancel hlt).symm⟩
          simp only [Nat.add_sub_cancel] at hltn
          have c0 : w1.cell? ⟨b', off' + j * 2, none⟩ = some (.int .i64 d.cached[j].sec) := (x1.cell (by exact hb')).trans (hc' j hltn 0 _ rfl)
          have c1 : w1.cell? ⟨b', off' + j * 2 + 1, none⟩ = some (.string d.cached[j].text) := (x1.cell (by exact hb')).trans (hc' j hltn 1 _ rfl)
          have hj1 : (((j + 1 : Nat) : Int) - 1) = (j : Int) := by omega
          rw [hj1]
          by_cases he : d.cached[j].sec = m
          · have HL := Lib.hid ((lastPut_none (s := d.sectors[m]) hk hno).trans ((lastPut_step m d.sectors[m] d.cached j hltn).trans (if_pos he)))
            clear hno hsh1 hc'
            go_wp2
            go_ret2
            exact ⟨by rw [HR.out, HL.out] <;> first | rfl | (rw [hin]; rfl), x1⟩
          · have hno2 : NoneFrom m d.cached j := fun i h1 h2 => by
              by_cases hi : i = j
              · subst hi; exact he
              · exact hno i h1 (by omega)
            have he' : (d.cached[j].sec == (m : Int)) = false := by simp [he]
            clear hno hsh1 hc'
            go_wp2
            go_round
            case rel => exact ⟨j, by omega, by go_num, hno2⟩
            case measure => simp [intOf] <;> omega
        · obtain rfl : k = 0 := by omega
          have HL := Lib.hid (lastPut_none (s := d.sectors[m]) hk hno)
          clear hno hsh1
          go_wp2
          go_ret2
          exact ⟨by rw [HR.out, HL.out] <;> first | rfl | (rw [hin]; rfl), x1⟩
    · have hm' : devB d = false := by simpa using hm
      have hin : devIn d n = false := by simp [devIn, hm']
      have HR := Lib.hid (devRead_out hin)
      clear hsh hsh1
      go_enter Try.func30, Try.ntmps30
      go_wp2_with (first | (go_at_call 105; refine (inRange_any _ _ _ _).mono ?_; rintro e w' ⟨rfl, rfl⟩; rw [hn]) | (go_at_call 111; refine (implDevOk _ d _ (h.below (hbox _)) l0 l1).mono ?_; rintro e w1 ⟨rfl, b1⟩; rw [hm']; have x1 := Below.trans (hbox _) (b1.mono (Below.size (hbox _)))))
      go_ret2
      exact ⟨by rw [HR.out] <;> first | rfl | (rw [hin]; rfl), x1⟩
  · have hn' : inB n 0 ((d.sectors.length : Int) - 1) = false := by simpa using hn
    have hin : devIn d n = false := by simp [devIn, hn']
    have HR := Lib.hid (devRead_out hin)
    clear hsh hsh1
    go_enter Try.func30, Try.ntmps30
    go_wp2_with (go_at_call 105; refine (inRange_any _ _ _ _).mono ?_; rintro e w' ⟨rfl, rfl⟩; rw [hn'])
    go_ret2
    exact ⟨by rw [HR.out] <;> first | rfl | (rw [hin]; rfl), hbox _⟩
end Go.Proofs.Ytmbmflhcimkjpaa

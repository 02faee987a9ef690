
/- Walks: MemRange of the reference and of the program. -/
import Derived.Test.YtmbmflhcimkjpaaMemI
set_option linter.unusedVariables false
set_option linter.unusedSimpArgs false
namespace Go.Proofs.Ytmbmflhcimkjpaa
open Go.RowKit Sp Go.Sort
namespace Sp
def withinB (k a b : ByteArray) : Bool := !less k a && (b.toList.isEmpty || less k b)
def betw (m : List KV) (a b : ByteArray) : List KV := m.filter (fun x => withinB x.key a b)
theorem betw_hit {m : List KV} {a b : ByteArray} {k : Nat} (hk : k < m.length) (h : withinB m[k].key a b = true) : betw (m.take (k + 1)) a b = betw (m.take k) a b ++ [m[k]] := by
  unfold betw; rw [List.take_succ_eq_append_getElem hk, List.filter_append]; simp [h]
theorem betw_miss {m : List KV} {a b : ByteArray} {k : Nat} (hk : k < m.length) (h : withinB m[k].key a b = false) : betw (m.take (k + 1)) a b = betw (m.take k) a b := by
  unfold betw; rw [List.take_succ_eq_append_getElem hk, List.filter_append]; simp [h]
theorem betw_len (m : List KV) (a b : ByteArray) : (betw m a b).length ≤ m.length := List.length_filter_le _ _
def memRange (l : List EntR) (a b : ByteArray) (seq : Int) : List KV := betw (memMap l seq) a b
end Sp
set_option maxRecDepth 100000 in
theorem within_any (k a b : ByteArray) (w : World) : Calls Try.prog 182 #[.string k, .string a, .string b] w fun e w' => e = .returned (.bool (withinB k a b)) ∧ w = w' := by
  go_enter Try.func182, Try.ntmps182
  go_wp2
  all_goals
    go_ret
    exact ⟨by simp [withinB, less, *], rfl⟩
set_option maxRecDepth 100000 in
set_option maxHeartbeats 1600000 in
theorem between_any (v : Value) (m : List KV) (fr tt : ByteArray) (w : World) (h : SlT KV.cells 2 w v m) (hl : (m.length : Int) ≤ 1048576) :
    Calls Try.prog 121 #[v, .string fr, .string tt] w fun e w' => ∃ v', e = .returned v' ∧ w'.ownsRow w.heap.size 77 2 v' (betw m fr tt).length ((betw m fr tt).map KV.cells).flatten ∧ Below w.heap.size w w' := by
  obtain ⟨ao, cap, rfl, hlc, hcm, hsh⟩ := h.shape
  go_enter Try.func121, Try.ntmps121
  go_wp2
  go_loopw [7, 12] (fun o i wr => ∃ k : Nat, k ≤ m.length ∧ i = .int .i64 k ∧ wr.ownsRow w.heap.size 77 2 o (betw (m.take k) fr tt).length ((betw (m.take k) fr tt).map KV.cells).flatten ∧ RowKit.Below w.heap.size w wr) (fun _ i _ => m.length - (intOf i).toNat)
  case atStart => exact ⟨0, by omega, rfl, by simpa [betw] using World.ownsRow_nil w w.heap.size 77 2, Below.refl _ _⟩
  case round =>
    obtain ⟨k, hk, rfl, hr, hbl⟩ := hrel
    obtain ⟨oo, co, rfl⟩ := (Row.of_own hr rfl).form
    by_cases hlt : k < m.length
    · obtain ⟨b, off, hbb, hbs, hcc⟩ := hsh (by omega)
      subst hbb
      have e0 : wr.cell? ⟨b, off + k * 2, none⟩ = some (.string m[k].key) := (hbl.cell (p := ⟨b, off + k * 2, none⟩) hbs).trans (hcc k hlt 0 _ rfl)
      have e1 : wr.cell? ⟨b, off + k * 2 + 1, none⟩ = some (.string m[k].val) := (hbl.cell (p := ⟨b, off + k * 2 + 1, none⟩) hbs).trans (hcc k hlt 1 _ rfl)
      have hlen := betw_len (m.take k) fr tt
      rw [List.length_take] at hlen
      have rB := hr.alloc (.cells #[.string m[k].key, .string m[k].val] 77)
      have xB := hbl.alloc hbl.size (.cells #[.string m[k].key, .string m[k].val] 77)
      clear hcc hsh
      rcases hw : withinB m[k].key fr tt with _ | _
      · have HM := Lib.hid (betw_miss hlt hw)
        go_wp2_with (go_at_call 182; refine (within_any _ _ _ _).mono ?_; rintro e w' ⟨rfl, rfl⟩; rw [hw])
        go_roundw
        case rel => exact ⟨k + 1, by omega, by go_num, by rw [HM.out]; exact rB, xB⟩
        case measure => simp [intOf]; omega
      · have HH := Lib.hid (betw_hit hlt hw)
        go_wp2_with (first | (go_at_call 182; refine (within_any _ _ _ _).mono ?_; rintro e w' ⟨rfl, rfl⟩; rw [hw]) | (at_builtin; refine app_new rfl rfl Try.underlying73 info_KV rfl (by decide) rB rfl 1 (by simp [Act.eval]) rfl (by simp [Value.oneCell']) (by omega) xB (Nat.le_refl _) xB.size ?_; intro v4 w4 r4 x4 g4))
        go_roundw
        case rel => exact ⟨k + 1, by omega, by go_num, by rw [HH.out]; simpa [KV.cells] using r4, x4⟩
        case measure => simp [intOf]; omega
    · obtain rfl : k = m.length := by omega
      rw [List.take_length] at hr ⊢
      go_wp2
      go_ret
      exact ⟨_, rfl, hr, hbl⟩

set_option maxRecDepth 100000 in
set_option maxHeartbeats 400000 in
theorem implMemRange (ad : Option Addr) (cap : Nat) (l : List EntR) (fr tt : ByteArray) (seq : Int) (w : World) (h : SlT EntR.cells 4 w (.slice ad l.length cap) l) (hl : (l.length : Int) ≤ 1048576) :
    Calls Try.prog 42 #[.slice ad l.length cap, .string fr, .string tt, .int .i64 seq] w fun e w' => ∃ v', e = .returned v' ∧ Row KV.cells 77 2 w.heap.size w'.heap.size w' v' (memRange l fr tt seq) ∧ Below w.heap.size w w' := by
  have hml := memMap_len l seq
  go_enter Try.func42, Try.ntmps42
  go_wp2_with (go_at_call 43; refine (implMemMap ad cap l seq _ h hl).mono ?_; rintro e w1 ⟨v1, rfl, r1, b1⟩)
  go_wp2_with (go_at_call 121; refine (between_any v1 _ fr tt _ (r1.slT (fun _ => rfl) (by decide)) (by omega)).mono ?_; rintro e w2 ⟨v2, rfl, r2, b2⟩)
  go_ret
  exact ⟨_, rfl, Row.of_own (own_mono r2 b1.size) rfl, b1.trans (b2.mono b1.size)⟩

end Go.Proofs.Ytmbmflhcimkjpaa


/- Walks: MemMap of the program. -/
import Derived.Test.YtmbmflhcimkjpaaMemM
set_option linter.unusedVariables false
set_option linter.unusedSimpArgs false
namespace Go.Proofs.Ytmbmflhcimkjpaa
open Go.RowKit Sp Go.Sort

set_option maxRecDepth 100000 in
set_option maxHeartbeats 1600000 in
theorem visible_any (ad : Option Addr) (cap : Nat) (l : List EntR) (seq : Int) (w : World) (h : SlT EntR.cells 4 w (.slice ad l.length cap) l) (hl : (l.length : Int) ≤ 1048576) (hm : memB l = true) :
    Calls Try.prog 122 #[.slice ad l.length cap, .int .i64 seq] w fun e w' => ∃ v', e = .returned v' ∧ w'.ownsRow w.heap.size 77 2 v' (mapTo l seq l.length).length ((mapTo l seq l.length).map KV.cells).flatten ∧ Below w.heap.size w w' := by
  have hln := memB_len hm
  go_enter Try.func122, Try.ntmps122
  go_wp2
  go_loopw [5, 6, 7, 12] (fun o s b i wr => ∃ k : Nat, ∃ lb : ByteArray, ∃ hb : Bool, k ≤ l.length ∧ i = .int .i64 k ∧ s = .string lb ∧ b = .bool hb ∧ Seen l seq k lb hb ∧ wr.ownsRow w.heap.size 77 2 o (mapTo l seq k).length ((mapTo l seq k).map KV.cells).flatten ∧ RowKit.Below w.heap.size w wr) (fun _ _ _ i _ => l.length - (intOf i).toNat)
  case atStart => exact ⟨0, _, false, by omega, rfl, rfl, rfl, Seen.start _ _ _, by simpa [mapTo] using World.ownsRow_nil w w.heap.size 77 2, Below.refl _ _⟩
  case round =>
    obtain ⟨k, lb, hb, hk, rfl, rfl, rfl, hseen, hr, hbl⟩ := hrel
    obtain ⟨oo, co, rfl⟩ := (Row.of_own hr rfl).form
    by_cases hlt : k < l.length
    · obtain ⟨bo', cp', hv, hlc, hcm, hsh⟩ := h.shape
      obtain ⟨b, off, hbb, hbs, hcc⟩ := hsh (by omega)
      obtain rfl : ad = some ⟨b, off, none⟩ := by simp at hv; rw [hbb] at hv; simpa using hv.1
      have e0 : wr.cell? ⟨b, off + k * 4, none⟩ = some (.string l[k].key) := (hbl.cell (p := ⟨b, off + k * 4, none⟩) hbs).trans (hcc k hlt 0 _ rfl)
      have e1 : wr.cell? ⟨b, off + k * 4 + 1, none⟩ = some (.int .i64 l[k].seq) := (hbl.cell (p := ⟨b, off + k * 4 + 1, none⟩) hbs).trans (hcc k hlt 1 _ rfl)
      have e2 : wr.cell? ⟨b, off + k * 4 + 2, none⟩ = some (.bool l[k].del) := (hbl.cell (p := ⟨b, off + k * 4 + 2, none⟩) hbs).trans (hcc k hlt 2 _ rfl)
      have e3 : wr.cell? ⟨b, off + k * 4 + 3, none⟩ = some (.string l[k].val) := (hbl.cell (p := ⟨b, off + k * 4 + 3, none⟩) hbs).trans (hcc k hlt 3 _ rfl)
      have hlen := mapTo_len l seq k
      have HH := Lib.hid (fun h => mapTo_hit (seq := seq) hlt h)
      have HM := Lib.hid (fun h => mapTo_miss (seq := seq) hlt h)
      have HN := Lib.hid (fun (hs : l[k].seq ≤ seq) => hseen.new hm hlt hs)
      clear hcc hsh hv hbb
      by_cases hs : l[k].seq ≤ seq
      · cases hb with
        | false =>
          have hvis := vis_new hm hseen hlt hs (by simp)
          rcases hdel : l[k].del with _ | _
          · have hv : (visB l seq k l[k] && !l[k].del) = true := by rw [hvis, hdel]; rfl
            have rB := hr.alloc (.cells #[.string l[k].key, .int .i64 l[k].seq, .bool false, .string l[k].val] 30)
            have xB := hbl.alloc hbl.size (.cells #[.string l[k].key, .int .i64 l[k].seq, .bool false, .string l[k].val] 30)
            rw [hdel] at e2
            clear hdel
            go_wp2_with (at_builtin; refine app_new rfl rfl Try.underlying73 info_KV rfl (by decide) rB rfl 1 (by simp [Act.eval]) rfl (by simp [Value.oneCell']) (by omega) xB (Nat.le_refl _) xB.size ?_; intro v4 w4 r4 x4 g4)
            go_roundw
            case rel => exact ⟨k + 1, _, _, by omega, by go_num, rfl, rfl, HN.out hs, by rw [HH.out hv]; simpa [KV.cells] using r4, x4⟩
            case measure => simp [intOf]; omega
          · have hv : (visB l seq k l[k] && !l[k].del) = false := by rw [hvis, hdel]; rfl
            have rB := hr.alloc (.cells #[.string l[k].key, .int .i64 l[k].seq, .bool true, .string l[k].val] 30)
            have xB := hbl.alloc hbl.size (.cells #[.string l[k].key, .int .i64 l[k].seq, .bool true, .string l[k].val] 30)
            rw [hdel] at e2
            clear hdel
            go_wp2
            go_roundw
            case rel => exact ⟨k + 1, _, _, by omega, by go_num, rfl, rfl, HN.out hs, by rw [HM.out hv]; exact rB, xB⟩
            case measure => simp [intOf]; omega
        | true =>
          rcases hke : (l[k].key.toList == lb.toList) with _ | _
          · have hne : l[k].key.toList ≠ lb.toList := by simpa using hke
            have hvis := vis_new hm hseen hlt hs (fun h => hne h.2)
            rcases hdel : l[k].del with _ | _
            · have hv : (visB l seq k l[k] && !l[k].del) = true := by rw [hvis, hdel]; rfl
              have rB := hr.alloc (.cells #[.string l[k].key, .int .i64 l[k].seq, .bool false, .string l[k].val] 30)
              have xB := hbl.alloc hbl.size (.cells #[.string l[k].key, .int .i64 l[k].seq, .bool false, .string l[k].val] 30)
              rw [hdel] at e2
              clear hdel
              go_wp2_with (at_builtin; refine app_new rfl rfl Try.underlying73 info_KV rfl (by decide) rB rfl 1 (by simp [Act.eval]) rfl (by simp [Value.oneCell']) (by omega) xB (Nat.le_refl _) xB.size ?_; intro v4 w4 r4 x4 g4)
              go_roundw
              case rel => exact ⟨k + 1, _, _, by omega, by go_num, rfl, rfl, HN.out hs, by rw [HH.out hv]; simpa [KV.cells] using r4, x4⟩
              case measure => simp [intOf]; omega
            · have hv : (visB l seq k l[k] && !l[k].del) = false := by rw [hvis, hdel]; rfl
              have rB := hr.alloc (.cells #[.string l[k].key, .int .i64 l[k].seq, .bool true, .string l[k].val] 30)
              have xB := hbl.alloc hbl.size (.cells #[.string l[k].key, .int .i64 l[k].seq, .bool true, .string l[k].val] 30)
              rw [hdel] at e2
              clear hdel
              go_wp2
              go_roundw
              case rel => exact ⟨k + 1, _, _, by omega, by go_num, rfl, rfl, HN.out hs, by rw [HM.out hv]; exact rB, xB⟩
              case measure => simp [intOf]; omega
          · have heq : l[k].key.toList = lb.toList := by simpa using hke
            have hv : (visB l seq k l[k] && !l[k].del) = false := by rw [vis_same hseen hlt rfl heq]; rfl
            have hsn := hseen.same hlt rfl heq
            have rB := hr.alloc (.cells #[.string l[k].key, .int .i64 l[k].seq, .bool l[k].del, .string l[k].val] 30)
            have xB := hbl.alloc hbl.size (.cells #[.string l[k].key, .int .i64 l[k].seq, .bool l[k].del, .string l[k].val] 30)
            clear heq
            go_wp2
            go_roundw
            case rel => exact ⟨k + 1, _, _, by omega, by go_num, rfl, rfl, hsn, by rw [HM.out hv]; exact rB, xB⟩
            case measure => simp [intOf]; omega
      · have hs' : seq < l[k].seq := by omega
        have hv : (visB l seq k l[k] && !l[k].del) = false := by rw [vis_old hlt hs']; rfl
        have hsn := hseen.skip hlt hs'
        have rB := hr.alloc (.cells #[.string l[k].key, .int .i64 l[k].seq, .bool l[k].del, .string l[k].val] 30)
        have xB := hbl.alloc hbl.size (.cells #[.string l[k].key, .int .i64 l[k].seq, .bool l[k].del, .string l[k].val] 30)
        go_wp2
        go_roundw
        case rel => exact ⟨k + 1, _, _, by omega, by go_num, rfl, rfl, hsn, by rw [HM.out hv]; exact rB, xB⟩
        case measure => simp [intOf]; omega
    · obtain rfl : k = l.length := by omega
      go_wp2
      go_ret
      exact ⟨_, rfl, hr, hbl⟩

set_option maxRecDepth 100000 in
set_option maxHeartbeats 400000 in
theorem implMemMap (ad : Option Addr) (cap : Nat) (l : List EntR) (seq : Int) (w : World) (h : SlT EntR.cells 4 w (.slice ad l.length cap) l) (hl : (l.length : Int) ≤ 1048576) :
    Calls Try.prog 43 #[.slice ad l.length cap, .int .i64 seq] w fun e w' => ∃ v', e = .returned v' ∧ Row KV.cells 77 2 w.heap.size w'.heap.size w' v' (memMap l seq) ∧ Below w.heap.size w w' := by
  rcases hm : memB l with _ | _
  · have HR := Lib.hid (memMap_not seq hm)
    go_enter Try.func43, Try.ntmps43
    go_wp2_with (go_at_call 96; refine (implMemOk _ l _ h hl).mono ?_; rintro e w1 ⟨rfl, b1⟩; rw [hm])
    go_ret
    exact ⟨_, rfl, by rw [HR.out]; exact Row.nil _ _ _, b1⟩
  · have HR := Lib.hid (memMap_ok seq hm)
    go_enter Try.func43, Try.ntmps43
    go_wp2_with (go_at_call 96; refine (implMemOk _ l _ h hl).mono ?_; rintro e w1 ⟨rfl, b1⟩; rw [hm])
    go_wp2_with (go_at_call 122; refine (visible_any ad cap l seq _ (h.below b1) hl hm).mono ?_; rintro e w2 ⟨v2, rfl, r2, b2⟩)
    go_ret
    exact ⟨_, rfl, by rw [HR.out]; exact Row.of_own (own_mono r2 b1.size) rfl, b1.trans (b2.mono b1.size)⟩
end Go.Proofs.Ytmbmflhcimkjpaa

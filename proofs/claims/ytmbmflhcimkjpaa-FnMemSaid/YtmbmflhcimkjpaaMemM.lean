
/- Walks: MemMap of the reference and of the program. -/
import Derived.Test.YtmbmflhcimkjpaaMemR
import Derived.Test.YtmbmflhcimkjpaaKKVR
import Derived.Test.YtmbmflhcimkjpaaOwn
import Derived.Test.YtmbmflhcimkjpaaKKVE
import Derived.Lib.Hide
import Derived.StillTailTactics
import Derived.Deep.DeepCutAuto
set_option linter.unusedVariables false
set_option linter.unusedSimpArgs false
namespace Go.Proofs.Ytmbmflhcimkjpaa
open Go.RowKit Sp Go.Sort

set_option maxRecDepth 100000 in
set_option maxHeartbeats 1600000 in
theorem l9Map_any (ad : Option Addr) (cap : Nat) (l : List EntR) (seq : Int) (w : World) (h : SlT EntR.cells 4 w (.slice ad l.length cap) l) (hl : (l.length : Int) ≤ 1048576) (hm : memB l = true) :
    Calls Try.prog 123 #[.slice ad l.length cap, .int .i64 seq] w fun e w' => ∃ v', e = .returned v' ∧ w'.ownsRow w.heap.size 77 2 v' (mapTo l seq l.length).length ((mapTo l seq l.length).map KV.cells).flatten ∧ Below w.heap.size w w' := by
  have hln := memB_len hm
  have oZ : (w.alloc (.cells #[] 77)).ownsRow w.heap.size 77 2 (.slice (some ⟨w.heap.size, 0, none⟩) 0 0) 0 [] := own0 rfl (Nat.le_refl _)
  have bZ : RowKit.Below w.heap.size w (w.alloc (.cells #[] 77)) := (Below.refl _ _).alloc (Nat.le_refl _) _
  go_enter Try.func123, Try.ntmps123
  go_wp2
  go_loopw [5, 6] (fun o i wr => ∃ k : Nat, k ≤ l.length ∧ i = .int .i64 k ∧ wr.ownsRow w.heap.size 77 2 o (mapTo l seq k).length ((mapTo l seq k).map KV.cells).flatten ∧ RowKit.Below w.heap.size w wr) (fun _ i _ => l.length - (intOf i).toNat)
  case atStart => exact ⟨0, by omega, rfl, by simpa [mapTo] using oZ, bZ⟩
  case round =>
    obtain ⟨k, hk, rfl, hr, hbl⟩ := hrel
    obtain ⟨oo, co, rfl⟩ := (Row.of_own hr rfl).form
    by_cases hlt : k < l.length
    · obtain ⟨bo', cp', hv, hlc, hcm, hsh⟩ := h.shape
      obtain ⟨b, off, hb, hbs, hcc⟩ := hsh (by omega)
      obtain rfl : ad = some ⟨b, off, none⟩ := by simp at hv; rw [hb] at hv; simpa using hv.1
      have e0 : wr.cell? ⟨b, off + k * 4, none⟩ = some (.string l[k].key) := (hbl.cell (p := ⟨b, off + k * 4, none⟩) hbs).trans (hcc k hlt 0 _ rfl)
      have e1 : w.cell? ⟨b, off + k * 4 + 1, none⟩ = some (.int .i64 l[k].seq) := hcc k hlt 1 _ rfl
      have hlen := mapTo_len l seq k
      obtain ⟨r, hrr⟩ : ∃ r, getE l[k].key seq l = r := ⟨_, rfl⟩
      have hP := getE_vis (seq := seq) hm hlt
      rw [hrr] at hP
      have HP := Lib.hid hP
      have HH := Lib.hid (fun h => mapTo_hit (seq := seq) hlt h)
      have HM := Lib.hid (fun h => mapTo_miss (seq := seq) hlt h)
      have hz := hbl.size
      clear hcc hsh hv hb hP
      obtain ⟨⟨rk, rs, rd, rv⟩, rb⟩ := r
      cases rb with
      | false =>
        have hv : (visB l seq k l[k] && !l[k].del) = false := by rw [← HP.out.1]; rfl
        go_upto_region 6 with (go_at_call 85; refine (specGet_any _ l l[k].key seq _ (h.below hbl) hl).mono ?_; rintro e w1 ⟨rfl, b1⟩; rw [hrr]; have x1 := hbl.trans (b1.mono hbl.size); have r1 := own_below hr b1; have e1' := (x1.cell (p := ⟨b, off + k * 4 + 1, none⟩) hbs).trans e1)
        have hz1 := x1.size
        have hb1 : b < w1.heap.size := by omega
        have f0 : (w1.alloc (.cells #[.string rk, .int .i64 rs, .bool rd, .string rv] 30)).cell? ⟨w1.heap.size, 0, none⟩ = some (.string rk) := by simp [go_sem]
        have f1 : (w1.alloc (.cells #[.string rk, .int .i64 rs, .bool rd, .string rv] 30)).cell? ⟨w1.heap.size, 1, none⟩ = some (.int .i64 rs) := by simp [go_sem]
        have f2 : (w1.alloc (.cells #[.string rk, .int .i64 rs, .bool rd, .string rv] 30)).cell? ⟨w1.heap.size, 2, none⟩ = some (.bool rd) := by simp [go_sem]
        have f3 : (w1.alloc (.cells #[.string rk, .int .i64 rs, .bool rd, .string rv] 30)).cell? ⟨w1.heap.size, 3, none⟩ = some (.string rv) := by simp [go_sem]
        have f4 : (w1.alloc (.cells #[.string rk, .int .i64 rs, .bool rd, .string rv] 30)).cell? ⟨b, off + k * 4 + 1, none⟩ = some (.int .i64 l[k].seq) := by rw [World.cell?_alloc_past _ _ _ hb1]; exact e1'
        have r2 := r1.alloc (.cells #[.string rk, .int .i64 rs, .bool rd, .string rv] 30)
        have x2 := x1.alloc x1.size (.cells #[.string rk, .int .i64 rs, .bool rd, .string rv] 30)
        generalize (w1.alloc (.cells #[.string rk, .int .i64 rs, .bool rd, .string rv] 30)) = W at f0 f1 f2 f3 f4 r2 x2 ⊢
        clear e0 e1 e1' b1 r1 x1 hr hbl
        go_quiet (fail)
        have r3 : (W.drewN nq).ownsRow w.heap.size 77 2 (.slice oo (mapTo l seq k).length co) (mapTo l seq k).length ((mapTo l seq k).map KV.cells).flatten := r2
        have x3 := below_drewN x2 nq
        have g0 : (W.drewN nq).cell? ⟨w1.heap.size, 0, none⟩ = some (.string rk) := f0
        have g3 : (W.drewN nq).cell? ⟨w1.heap.size, 3, none⟩ = some (.string rv) := f3
        generalize W.drewN nq = W2 at r3 x3 g0 g3 ⊢
        clear f0 f1 f2 f3 f4 r2 x2
        go_wp2
        go_roundw
        case rel => exact ⟨k + 1, by omega, by go_num, by rw [HM.out hv]; exact r3, x3⟩
        case measure => simp [intOf]; omega
      | true =>
        cases rd with
        | true =>
          have hv : (visB l seq k l[k] && !l[k].del) = false := by rw [← HP.out.1]; rfl
          go_upto_region 6 with (go_at_call 85; refine (specGet_any _ l l[k].key seq _ (h.below hbl) hl).mono ?_; rintro e w1 ⟨rfl, b1⟩; rw [hrr]; have x1 := hbl.trans (b1.mono hbl.size); have r1 := own_below hr b1; have e1' := (x1.cell (p := ⟨b, off + k * 4 + 1, none⟩) hbs).trans e1)
          have hz1 := x1.size
          have hb1 : b < w1.heap.size := by omega
          have f0 : (w1.alloc (.cells #[.string rk, .int .i64 rs, .bool true, .string rv] 30)).cell? ⟨w1.heap.size, 0, none⟩ = some (.string rk) := by simp [go_sem]
          have f1 : (w1.alloc (.cells #[.string rk, .int .i64 rs, .bool true, .string rv] 30)).cell? ⟨w1.heap.size, 1, none⟩ = some (.int .i64 rs) := by simp [go_sem]
          have f2 : (w1.alloc (.cells #[.string rk, .int .i64 rs, .bool true, .string rv] 30)).cell? ⟨w1.heap.size, 2, none⟩ = some (.bool true) := by simp [go_sem]
          have f3 : (w1.alloc (.cells #[.string rk, .int .i64 rs, .bool true, .string rv] 30)).cell? ⟨w1.heap.size, 3, none⟩ = some (.string rv) := by simp [go_sem]
          have f4 : (w1.alloc (.cells #[.string rk, .int .i64 rs, .bool true, .string rv] 30)).cell? ⟨b, off + k * 4 + 1, none⟩ = some (.int .i64 l[k].seq) := by rw [World.cell?_alloc_past _ _ _ hb1]; exact e1'
          have r2 := r1.alloc (.cells #[.string rk, .int .i64 rs, .bool true, .string rv] 30)
          have x2 := x1.alloc x1.size (.cells #[.string rk, .int .i64 rs, .bool true, .string rv] 30)
          generalize (w1.alloc (.cells #[.string rk, .int .i64 rs, .bool true, .string rv] 30)) = W at f0 f1 f2 f3 f4 r2 x2 ⊢
          clear e0 e1 e1' b1 r1 x1 hr hbl
          go_quiet (fail)
          have r3 : (W.drewN nq).ownsRow w.heap.size 77 2 (.slice oo (mapTo l seq k).length co) (mapTo l seq k).length ((mapTo l seq k).map KV.cells).flatten := r2
          have x3 := below_drewN x2 nq
          have g0 : (W.drewN nq).cell? ⟨w1.heap.size, 0, none⟩ = some (.string rk) := f0
          have g3 : (W.drewN nq).cell? ⟨w1.heap.size, 3, none⟩ = some (.string rv) := f3
          generalize W.drewN nq = W2 at r3 x3 g0 g3 ⊢
          clear f0 f1 f2 f3 f4 r2 x2
          go_wp2
          go_roundw
          case rel => exact ⟨k + 1, by omega, by go_num, by rw [HM.out hv]; exact r3, x3⟩
          case measure => simp [intOf]; omega
        | false =>
          rcases hsq : (rs == l[k].seq) with _ | _
          · have hv : (visB l seq k l[k] && !l[k].del) = false := by rw [← HP.out.1]; simp [hsq]
            go_upto_region 6 with (go_at_call 85; refine (specGet_any _ l l[k].key seq _ (h.below hbl) hl).mono ?_; rintro e w1 ⟨rfl, b1⟩; rw [hrr]; have x1 := hbl.trans (b1.mono hbl.size); have r1 := own_below hr b1; have e1' := (x1.cell (p := ⟨b, off + k * 4 + 1, none⟩) hbs).trans e1)
            have hz1 := x1.size
            have hb1 : b < w1.heap.size := by omega
            have f0 : (w1.alloc (.cells #[.string rk, .int .i64 rs, .bool false, .string rv] 30)).cell? ⟨w1.heap.size, 0, none⟩ = some (.string rk) := by simp [go_sem]
            have f1 : (w1.alloc (.cells #[.string rk, .int .i64 rs, .bool false, .string rv] 30)).cell? ⟨w1.heap.size, 1, none⟩ = some (.int .i64 rs) := by simp [go_sem]
            have f2 : (w1.alloc (.cells #[.string rk, .int .i64 rs, .bool false, .string rv] 30)).cell? ⟨w1.heap.size, 2, none⟩ = some (.bool false) := by simp [go_sem]
            have f3 : (w1.alloc (.cells #[.string rk, .int .i64 rs, .bool false, .string rv] 30)).cell? ⟨w1.heap.size, 3, none⟩ = some (.string rv) := by simp [go_sem]
            have f4 : (w1.alloc (.cells #[.string rk, .int .i64 rs, .bool false, .string rv] 30)).cell? ⟨b, off + k * 4 + 1, none⟩ = some (.int .i64 l[k].seq) := by rw [World.cell?_alloc_past _ _ _ hb1]; exact e1'
            have r2 := r1.alloc (.cells #[.string rk, .int .i64 rs, .bool false, .string rv] 30)
            have x2 := x1.alloc x1.size (.cells #[.string rk, .int .i64 rs, .bool false, .string rv] 30)
            generalize (w1.alloc (.cells #[.string rk, .int .i64 rs, .bool false, .string rv] 30)) = W at f0 f1 f2 f3 f4 r2 x2 ⊢
            clear e0 e1 e1' b1 r1 x1 hr hbl
            go_quiet (fail)
            have r3 : (W.drewN nq).ownsRow w.heap.size 77 2 (.slice oo (mapTo l seq k).length co) (mapTo l seq k).length ((mapTo l seq k).map KV.cells).flatten := r2
            have x3 := below_drewN x2 nq
            have g0 : (W.drewN nq).cell? ⟨w1.heap.size, 0, none⟩ = some (.string rk) := f0
            have g3 : (W.drewN nq).cell? ⟨w1.heap.size, 3, none⟩ = some (.string rv) := f3
            generalize W.drewN nq = W2 at r3 x3 g0 g3 ⊢
            clear f0 f1 f2 f3 f4 r2 x2
            go_wp2
            go_roundw
            case rel => exact ⟨k + 1, by omega, by go_num, by rw [HM.out hv]; exact r3, x3⟩
            case measure => simp [intOf]; omega
          · have hv : (visB l seq k l[k] && !l[k].del) = true := by rw [← HP.out.1]; simp [hsq]
            have hek := HP.out.2 hv
            have hk1 : l[k].key = rk := by rw [← hek]
            have hk2 : l[k].val = rv := by rw [← hek]
            have HK := Lib.hid (And.intro hk1 hk2)
            clear hek hk1 hk2
            go_upto_region 6 with (go_at_call 85; refine (specGet_any _ l l[k].key seq _ (h.below hbl) hl).mono ?_; rintro e w1 ⟨rfl, b1⟩; rw [hrr]; have x1 := hbl.trans (b1.mono hbl.size); have r1 := own_below hr b1; have e1' := (x1.cell (p := ⟨b, off + k * 4 + 1, none⟩) hbs).trans e1)
            have hz1 := x1.size
            have hb1 : b < w1.heap.size := by omega
            have f0 : (w1.alloc (.cells #[.string rk, .int .i64 rs, .bool false, .string rv] 30)).cell? ⟨w1.heap.size, 0, none⟩ = some (.string rk) := by simp [go_sem]
            have f1 : (w1.alloc (.cells #[.string rk, .int .i64 rs, .bool false, .string rv] 30)).cell? ⟨w1.heap.size, 1, none⟩ = some (.int .i64 rs) := by simp [go_sem]
            have f2 : (w1.alloc (.cells #[.string rk, .int .i64 rs, .bool false, .string rv] 30)).cell? ⟨w1.heap.size, 2, none⟩ = some (.bool false) := by simp [go_sem]
            have f3 : (w1.alloc (.cells #[.string rk, .int .i64 rs, .bool false, .string rv] 30)).cell? ⟨w1.heap.size, 3, none⟩ = some (.string rv) := by simp [go_sem]
            have f4 : (w1.alloc (.cells #[.string rk, .int .i64 rs, .bool false, .string rv] 30)).cell? ⟨b, off + k * 4 + 1, none⟩ = some (.int .i64 l[k].seq) := by rw [World.cell?_alloc_past _ _ _ hb1]; exact e1'
            have r2 := r1.alloc (.cells #[.string rk, .int .i64 rs, .bool false, .string rv] 30)
            have x2 := x1.alloc x1.size (.cells #[.string rk, .int .i64 rs, .bool false, .string rv] 30)
            generalize (w1.alloc (.cells #[.string rk, .int .i64 rs, .bool false, .string rv] 30)) = W at f0 f1 f2 f3 f4 r2 x2 ⊢
            clear e0 e1 e1' b1 r1 x1 hr hbl
            go_quiet (fail)
            have r3 : (W.drewN nq).ownsRow w.heap.size 77 2 (.slice oo (mapTo l seq k).length co) (mapTo l seq k).length ((mapTo l seq k).map KV.cells).flatten := r2
            have x3 := below_drewN x2 nq
            have g0 : (W.drewN nq).cell? ⟨w1.heap.size, 0, none⟩ = some (.string rk) := f0
            have g3 : (W.drewN nq).cell? ⟨w1.heap.size, 3, none⟩ = some (.string rv) := f3
            generalize W.drewN nq = W2 at r3 x3 g0 g3 ⊢
            clear f0 f1 f2 f3 f4 r2 x2
            go_wp2_with (at_builtin; refine app_new rfl rfl Try.underlying73 info_KV rfl (by decide) r3 rfl 1 rfl rfl (by simp [Value.oneCell']) (by omega) x3 (Nat.le_refl _) x3.size ?_; intro v4 w4 r4 x4 g4)
            go_roundw
            case rel => exact ⟨k + 1, by omega, by go_num, by rw [HH.out hv]; simpa [KV.cells, HK.out.1, HK.out.2] using r4, x4⟩
            case measure => simp [intOf]; omega
    · obtain rfl : k = l.length := by omega
      go_wp2
      go_ret
      exact ⟨_, rfl, hr, hbl⟩

set_option maxRecDepth 100000 in
set_option maxHeartbeats 400000 in
theorem specMemMap (ad : Option Addr) (cap : Nat) (l : List EntR) (seq : Int) (w : World) (h : SlT EntR.cells 4 w (.slice ad l.length cap) l) (hl : (l.length : Int) ≤ 1048576) :
    Calls Try.prog 45 #[.slice ad l.length cap, .int .i64 seq] w fun e w' => ∃ v', e = .returned v' ∧ SlT KV.cells 2 w' v' (memMap l seq) ∧ Below w.heap.size w w' := by
  rcases hm : memB l with _ | _
  · have HR := Lib.hid (memMap_not seq hm)
    go_enter Try.func45, Try.ntmps45
    go_wp2_with (go_at_call 38; refine (specMemOk _ l _ h hl).mono ?_; rintro e w1 ⟨rfl, b1⟩; rw [hm])
    go_ret
    exact ⟨_, rfl, by rw [HR.out]; exact SlT.of_own (base := w1.heap.size) (e := 77) (n := 0) (own0 rfl (Nat.le_refl _)) (fun _ => rfl) (by decide), b1.alloc b1.size _⟩
  · have HR := Lib.hid (memMap_ok seq hm)
    go_enter Try.func45, Try.ntmps45
    go_wp2_with (go_at_call 38; refine (specMemOk _ l _ h hl).mono ?_; rintro e w1 ⟨rfl, b1⟩; rw [hm])
    go_wp2_with (go_at_call 123; refine (l9Map_any ad cap l seq _ (h.below b1) hl hm).mono ?_; rintro e w2 ⟨v2, rfl, r2, b2⟩)
    go_ret
    exact ⟨_, rfl, by rw [HR.out]; exact SlT.of_own r2 (fun _ => rfl) (by decide), b1.trans (b2.mono b1.size)⟩
end Go.Proofs.Ytmbmflhcimkjpaa

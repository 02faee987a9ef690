/- Walks: IterNew of the reference and of the program: a row of one's own. -/
import Derived.Test.YtcdcpdbolakfaaaSIterR
import Derived.Test.YtcdcpdbolakfaaaMapS
import Derived.Test.YtcdcpdbolakfaaaMapW
import Derived.Test.YtcdcpdbolakfaaaCKV
import Derived.Deep.DeepCutAuto
import Derived.Lib.Hide
set_option linter.unusedVariables false
set_option linter.unusedSimpArgs false
namespace Go.Proofs.Ytcdcpdbolakfaaa
open Go.RowKit Sp Go.Sort
namespace Sp
def noIter : IterR := ⟨[], ByteArray.empty, ByteArray.empty, 0⟩
def iterNew (l : List KV) (a b : ByteArray) : IterR := if mapB l then ⟨l, a, b, -1⟩ else noIter
end Sp
theorem KV.one : ∀ x : KV, ∀ u ∈ KV.cells x, u.oneCell' = true := by
  intro x u hu
  simp [KV.cells] at hu
  rcases hu with rfl | rfl <;> rfl

set_option maxRecDepth 100000 in
set_option maxHeartbeats 800000 in
theorem l14Copy_row (l : List KV) (fr tt : ByteArray) (n : Int) (ad : Addr) (cap : Nat) (w : World) (h : SlT KV.cells 2 w (.slice (some ad) l.length cap) l) (hl : (l.length : Int) ≤ 1048576) :
    Calls Try.prog 78 #[.agg #[.slice (some ad) l.length cap, .string fr, .string tt, .int .i64 n]] w fun e w' => ∃ v', e = .returned v' ∧ RowIter w.heap.size w'.heap.size w' v' ⟨l, fr, tt, n⟩ ∧ Below w.heap.size w w' := by
  have hb2 : ∀ o₁ o₂ : Obj, RowKit.Below w.heap.size w ((w.alloc o₁).alloc o₂) := fun o₁ o₂ => ((Below.refl _ _).alloc (Nat.le_refl _) _).alloc (by simp <;> omega) _
  have hb3 : ∀ o₁ o₂ o₃ : Obj, RowKit.Below (w.heap.size + 1 + 1) ((w.alloc o₁).alloc o₂) (((w.alloc o₁).alloc o₂).alloc o₃) := fun o₁ o₂ o₃ => (Below.refl _ _).alloc (by simp) _
  have hb4 : ∀ o₁ o₂ o₃ : Obj, RowKit.Below w.heap.size w (((w.alloc o₁).alloc o₂).alloc o₃) := fun o₁ o₂ o₃ => (hb2 o₁ o₂).alloc (by simp <;> omega) _
  have hb5 : ∀ o₁ o₂ o₃ : Obj, w.heap.size + 1 + 1 ≤ (((w.alloc o₁).alloc o₂).alloc o₃).heap.size := fun o₁ o₂ o₃ => by simp
  have h0 : ∀ o₁ o₂ : Obj, (((w.alloc o₁).alloc o₂).alloc (.cells #[] 86)).ownsRow (w.heap.size + 1 + 1) 86 2 (.slice (some ⟨w.heap.size + 1 + 1, 0, none⟩) 0 0) 0 [] := fun o₁ o₂ => by
    have e : ((w.alloc o₁).alloc o₂).heap.size = w.heap.size + 1 + 1 := by simp
    have := World.ownsRow_lit (base := w.heap.size + 1 + 1) (e := 86) (size := 2) ((w.alloc o₁).alloc o₂) #[] 0 (by simp) (by simp [maxLen]) rfl
    rw [e] at this; exact this
  go_enter Try.func78, Try.ntmps78
  go_upto_region 2 with (at_builtin; go_loud (refine app_recs rfl rfl Try.underlying25 info_KV rfl (by decide) (h0 _ _) rfl ad cap (h.below (hb4 _ _ _)) rfl (fun _ => rfl) KV.one (by omega) (hb3 _ _ _) (Nat.le_refl _) (hb5 _ _ _) ?_; intro v' w1 hr1 hbl1 hg1; have hx := (hb2 _ _).trans (hbl1.mono (show w.heap.size ≤ w.heap.size + 1 + 1 from by omega)); obtain ⟨ao, cp, rfl⟩ := (Row.of_own hr1 (by simp)).form; obtain ⟨hc, hf⟩ := bcellB hbl1; have ca0 := fun o => hc w.heap.size o (by omega); have fa0 := fun o => hf w.heap.size o (by omega); have ca1 := fun o => hc (w.heap.size + 1) o (by omega); have fa1 := fun o => hf (w.heap.size + 1) o (by omega); clear hc hf))
  have hr2 : w1.ownsRow (w.heap.size + 1 + 1) 86 2 (.slice ao l.length cp) l.length (l.map KV.cells).flatten := by simpa using hr1
  clear hr1 hg1
  go_wp2
  refine bodyPost_ret (v := .agg #[.slice ao l.length cp, .string fr, .string tt, .int .i64 n]) (by simp [results, Try.results78, go_sem, ca0, ca1]) rfl ?_
  refine ⟨_, rfl, ⟨_, rfl, Row.of_own (own_mono (base := w.heap.size + 1 + 1) ?_ (by omega)) rfl⟩, ?_⟩
  · repeat (refine own_other ?_ _ (by simp <;> omega) _)
    exact hr2
  · repeat (refine Below.setCell ?_ (by simp <;> omega) _)
    exact hx

set_option maxRecDepth 100000 in
set_option maxHeartbeats 800000 in
theorem implIterNew (ad : Addr) (cap : Nat) (l : List KV) (a b : ByteArray) (w : World) (h : SlT KV.cells 2 w (.slice (some ad) l.length cap) l) (hl : (l.length : Int) ≤ 1048576) :
    Calls Try.prog 38 #[.slice (some ad) l.length cap, .string a, .string b] w fun e w' => ∃ v', e = .returned (.tuple #[v', .bool (mapB l)]) ∧ RowIter w.heap.size w'.heap.size w' v' (iterNew l a b) ∧ Below w.heap.size w w' := by
  have hbox : ∀ o : Obj, RowKit.Below w.heap.size w (w.alloc o) := fun o => (Below.refl _ _).alloc (Nat.le_refl _) _
  by_cases hm : mapB l = true
  · go_enter Try.func38, Try.ntmps38
    go_wp2_with (go_at_call 61; refine (implMapOk _ l _ (h.below (hbox _)) hl).mono ?_; rintro e w1 ⟨rfl, b1⟩; rw [hm]; have x1 := Below.trans (hbox _) (b1.mono (Below.size (hbox _))); have hs1 : w.heap.size < w1.heap.size := Nat.lt_of_lt_of_le (by simp <;> omega) b1.size; obtain ⟨hc, hf⟩ := bcell b1; have ca1 := fun o => hc w.heap.size o (by simp <;> omega); have fa1 := fun o => hf w.heap.size o (by simp <;> omega); clear hc hf)
    go_wp2_with (go_at_call 79; refine (cloneKV_row ad cap l _ (h.below x1) hl).mono ?_; rintro e w2 ⟨v', rfl, r2, b2⟩; obtain ⟨ao, cp, rfl⟩ := r2.form; have x2 := x1.trans (b2.mono x1.size); obtain ⟨hc, hf⟩ := bcell b2; have ca2 := fun o => hc w.heap.size o hs1; have fa2 := fun o => hf w.heap.size o hs1; clear hc hf)
    go_wp2
    refine bodyPost_ret (v := .tuple #[.agg #[.slice ao l.length cp, .string a, .string b, .int .i64 (-1)], .bool true]) (by simp [results, Try.results38, go_sem, ca1, ca2]) rfl ?_
    rw [hm]
    refine ⟨_, rfl, ?_, ?_⟩
    · rw [show iterNew l a b = ⟨l, a, b, -1⟩ from by simp [iterNew, hm]]
      refine ⟨_, rfl, Row.of_own (own_mono (base := w1.heap.size) ?_ (by have := x1.size; omega)) rfl⟩
      repeat (refine own_other ?_ _ (by simp <;> omega) _)
      exact r2.1
    · repeat (refine Below.setCell ?_ (by simp <;> omega) _)
      exact x2
  · have hm' : mapB l = false := by simpa using hm
    go_enter Try.func38, Try.ntmps38
    go_wp2_with (go_at_call 61; refine (implMapOk _ l _ (h.below (hbox _)) hl).mono ?_; rintro e w1 ⟨rfl, b1⟩; rw [hm']; have x1 := Below.trans (hbox _) (b1.mono (Below.size (hbox _))); have hs1 : w.heap.size < w1.heap.size := Nat.lt_of_lt_of_le (by simp <;> omega) b1.size; obtain ⟨hc, hf⟩ := bcell b1; have ca1 := fun o => hc w.heap.size o (by simp <;> omega); have fa1 := fun o => hf w.heap.size o (by simp <;> omega); clear hc hf)
    go_wp2
    refine bodyPost_ret (v := .tuple #[.agg #[.slice none 0 0, .string ByteArray.empty, .string ByteArray.empty, .int .i64 0], .bool false]) (by simp [results, Try.results38, go_sem, ca1] <;> rfl) rfl ?_
    rw [hm']
    refine ⟨_, rfl, ?_, ?_⟩
    · rw [show iterNew l a b = noIter from by simp [iterNew, hm']]
      exact ⟨_, rfl, Row.nil _ _ _⟩
    · repeat (refine Below.setCell ?_ (by simp <;> omega) _)
      exact x1

set_option maxRecDepth 100000 in
set_option maxHeartbeats 800000 in
theorem specIterNew (ad : Addr) (cap : Nat) (l : List KV) (a b : ByteArray) (w : World) (h : SlT KV.cells 2 w (.slice (some ad) l.length cap) l) (hl : (l.length : Int) ≤ 1048576) :
    Calls Try.prog 37 #[.slice (some ad) l.length cap, .string a, .string b] w fun e w' => ∃ v', e = .returned (.tuple #[v', .bool (mapB l)]) ∧ RowIter w.heap.size w'.heap.size w' v' (iterNew l a b) ∧ Below w.heap.size w w' := by
  have hbox : ∀ o : Obj, RowKit.Below w.heap.size w (w.alloc o) := fun o => (Below.refl _ _).alloc (Nat.le_refl _) _
  by_cases hm : mapB l = true
  · go_enter Try.func37, Try.ntmps37
    go_wp2_with (go_at_call 59; refine (specMapOk _ l _ (h.below (hbox _)) hl).mono ?_; rintro e w1 ⟨rfl, b1⟩; rw [hm]; have x1 := Below.trans (hbox _) (b1.mono (Below.size (hbox _))); have hs1 : w.heap.size < w1.heap.size := Nat.lt_of_lt_of_le (by simp <;> omega) b1.size; obtain ⟨hc, hf⟩ := bcell b1; have ca1 := fun o => hc w.heap.size o (by simp <;> omega); have fa1 := fun o => hf w.heap.size o (by simp <;> omega); clear hc hf)
    go_wp2_with (go_at_call 78; refine (l14Copy_row l a b (-1) ad cap _ (h.below x1) hl).mono ?_; rintro e w2 ⟨v', rfl, r2, b2⟩; obtain ⟨s0, rfl, r2⟩ := r2; obtain ⟨ao, cp, rfl⟩ := r2.form; have x2 := x1.trans (b2.mono x1.size); obtain ⟨hc, hf⟩ := bcell b2; have ca2 := fun o => hc w.heap.size o hs1; have fa2 := fun o => hf w.heap.size o hs1; clear hc hf)
    go_wp2
    refine bodyPost_ret (v := .tuple #[.agg #[.slice ao l.length cp, .string a, .string b, .int .i64 (-1)], .bool true]) (by simp [results, Try.results37, go_sem, ca1, ca2]) rfl ?_
    rw [hm]
    refine ⟨_, rfl, ?_, ?_⟩
    · rw [show iterNew l a b = ⟨l, a, b, -1⟩ from by simp [iterNew, hm]]
      refine ⟨_, rfl, Row.of_own (own_mono (base := w1.heap.size) ?_ (by have := x1.size; omega)) rfl⟩
      repeat (refine own_other ?_ _ (by simp <;> omega) _)
      exact r2.1
    · repeat (refine Below.setCell ?_ (by simp <;> omega) _)
      exact x2
  · have hm' : mapB l = false := by simpa using hm
    go_enter Try.func37, Try.ntmps37
    go_wp2_with (go_at_call 59; refine (specMapOk _ l _ (h.below (hbox _)) hl).mono ?_; rintro e w1 ⟨rfl, b1⟩; rw [hm']; have x1 := Below.trans (hbox _) (b1.mono (Below.size (hbox _))); have hs1 : w.heap.size < w1.heap.size := Nat.lt_of_lt_of_le (by simp <;> omega) b1.size; obtain ⟨hc, hf⟩ := bcell b1; have ca1 := fun o => hc w.heap.size o (by simp <;> omega); have fa1 := fun o => hf w.heap.size o (by simp <;> omega); clear hc hf)
    go_wp2
    refine bodyPost_ret (v := .tuple #[.agg #[.slice none 0 0, .string ByteArray.empty, .string ByteArray.empty, .int .i64 0], .bool false]) (by simp [results, Try.results37, go_sem, ca1] <;> rfl) rfl ?_
    rw [hm']
    refine ⟨_, rfl, ?_, ?_⟩
    · rw [show iterNew l a b = noIter from by simp [iterNew, hm']]
      exact ⟨_, rfl, Row.nil _ _ _⟩
    · repeat (refine Below.setCell ?_ (by simp <;> omega) _)
      exact x1

end Go.Proofs.Ytcdcpdbolakfaaa

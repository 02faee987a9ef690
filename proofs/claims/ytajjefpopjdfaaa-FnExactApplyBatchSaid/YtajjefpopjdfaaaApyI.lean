/- Walks: ApplyBatch of the program. -/
import Derived.Test.YtajjefpopjdfaaaApyF
import Derived.Test.YtajjefpopjdfaaaDelK
import Derived.Test.YtajjefpopjdfaaaIKV
import Derived.Test.YtajjefpopjdfaaaCKV
import Derived.Test.YtajjefpopjdfaaaMapS
import Derived.Test.YtajjefpopjdfaaaBx
set_option linter.unusedVariables false
set_option linter.unusedSimpArgs false
namespace Go.Proofs.Ytajjefpopjdfaaa
open Go.RowKit Sp Go.Sort
namespace Sp
theorem hit_lt {l : List KV} {k : ByteArray} {q : Nat} (h : hitK l k q = true) : ∃ hq : q < l.length, l[q].key = k := by
  by_cases hq : q < l.length
  · refine ⟨hq, ?_⟩
    rw [hitK_in hq, beq_iff_eq, toList_data, toList_data] at h
    have := congrArg str h
    rwa [str_of, str_of] at this
  · rw [hitK_out hq] at h; cases h
theorem put7_del_hit {l : List KV} {o : OpR} (ho : o.del = true) (hh : hitK l o.key (posK l o.key) = true) : put7 l o = l.take (posK l o.key) ++ l.drop (posK l o.key + 1) := by
  unfold put7; rw [newK_del ho, hh]; simp [nxt]
theorem put7_del_miss {l : List KV} {o : OpR} (ho : o.del = true) (hh : hitK l o.key (posK l o.key) = false) : put7 l o = l := by
  unfold put7; rw [newK_del ho, hh]; simp [nxt]
theorem put7_put_hit {l : List KV} {o : OpR} (ho : o.del = false) (hh : hitK l o.key (posK l o.key) = true) : put7 l o = l.set (posK l o.key) ⟨o.key, o.val⟩ := by
  obtain ⟨hq, _⟩ := hit_lt hh
  rw [List.set_eq_take_append_cons_drop, if_pos hq]
  unfold put7; rw [newK_put ho, hh]; simp [nxt]
theorem put7_put_miss {l : List KV} {o : OpR} (ho : o.del = false) (hh : hitK l o.key (posK l o.key) = false) : put7 l o = l.take (posK l o.key) ++ ⟨o.key, o.val⟩ :: l.drop (posK l o.key) := by
  unfold put7; rw [newK_put ho, hh]; simp [nxt]
end Sp

set_option maxRecDepth 100000 in
set_option maxHeartbeats 1600000 in
theorem dropKey_any (v : Value) (l : List KV) (o : OpR) (lo hi : Nat) (w : World) (hlo : lo ≤ w.heap.size) (h : Row KV.cells 95 2 lo hi w v l) (hl : (l.length : Int) ≤ 1048576) (hm : mapB l = true) (ho : o.del = true) :
    Calls Try.prog 86 #[v, .string o.key] w fun r w' => ∃ v', r = .returned v' ∧ Row KV.cells 95 2 lo w'.heap.size w' v' (put7 l o) ∧ Below lo w w' := by
  have hS : SlT KV.cells 2 w v l := h.slT (fun _ => rfl) (by decide)
  obtain ⟨ao, cap, rfl⟩ := h.form
  rcases hh : hitK l o.key (posK l o.key) with _ | _
  · have HR := Lib.hid (put7_del_miss ho hh)
    have HH := Lib.hid hh
    clear hh ho
    go_enter Try.func86, Try.ntmps86
    go_wp2_with fail
    refine (findKey_any _ l o.key _ hS hl hm).mono ?_
    rintro r w1 ⟨rfl, b1⟩
    have r1 := h.below b1
    have z1 := b1.size
    rw [HH.out]
    go_wp2
    go_ret
    exact ⟨_, rfl, by rw [HR.out]; exact Row.of_own r1.1 rfl, b1.mono hlo⟩
  · have HR := Lib.hid (put7_del_hit ho hh)
    obtain ⟨hq, _⟩ := hit_lt hh
    have HH := Lib.hid hh
    clear hh ho
    have hsz : 0 < l.length := by omega
    obtain ⟨g, hv, h1, h2, h3⟩ : ∃ g, ao = some ⟨g, 0, none⟩ ∧ l.length ≤ cap ∧ cap ≤ 9223372036854775807 ∧ lo ≤ g := by
      rcases h.shape with ⟨_, h0⟩ | ⟨g, c, hv, h1, h2, h3, _⟩
      · rw [h0] at hsz; simp at hsz
      · simp at hv; obtain ⟨rfl, rfl⟩ := hv; exact ⟨g, rfl, h1, h2, h3⟩
    subst hv
    go_enter Try.func86, Try.ntmps86
    go_wp2_with fail
    refine (findKey_any _ l o.key _ hS hl hm).mono ?_
    rintro r w1 ⟨rfl, b1⟩
    have r1 := h.below b1
    have z1 := b1.size
    rw [HH.out]
    generalize posK l o.key = q at *
    clear h hS
    go_wp2_with fail
    refine (deleteK_any g cap l q hq h1 h2 lo _ r1.1).mono ?_
    rintro r w2 ⟨rfl, o2, t2⟩
    go_wp2
    go_ret
    have hlen : (l.take q ++ l.drop (q + 1)).length = l.length - 1 := by rw [List.length_append, List.length_take, List.length_drop]; omega
    exact ⟨_, rfl, by rw [HR.out]; exact Row.of_own o2 hlen.symm, below_touch (b1.mono hlo) t2 h3 (by omega)⟩

set_option maxRecDepth 100000 in
set_option maxHeartbeats 1600000 in
theorem setKey_any (v : Value) (l : List KV) (o : OpR) (lo hi : Nat) (w : World) (hlo : lo ≤ w.heap.size) (h : Row KV.cells 95 2 lo hi w v l) (hl : (l.length : Int) ≤ 1048576) (hm : mapB l = true) (ho : o.del = false) :
    Calls Try.prog 87 #[v, .string o.key, .string o.val] w fun r w' => ∃ v', r = .returned v' ∧ Row KV.cells 95 2 lo w'.heap.size w' v' (put7 l o) ∧ Below lo w w' := by
  have hS : SlT KV.cells 2 w v l := h.slT (fun _ => rfl) (by decide)
  have hqle := posK_le l o.key
  obtain ⟨ao, cap, rfl⟩ := h.form
  rcases hh : hitK l o.key (posK l o.key) with _ | _
  · have HR := Lib.hid (put7_put_miss ho hh)
    have HH := Lib.hid hh
    have hblk : ∀ k, (Value.slice ao l.length cap).ownBlock = some k → lo ≤ k ∧ k < w.heap.size := fun k hk => h.1.lt k hk
    clear hh ho
    go_enter Try.func87, Try.ntmps87
    go_wp2_with fail
    refine (findKey_any _ l o.key _ hS hl hm).mono ?_
    rintro r w1 ⟨rfl, b1⟩
    have r1 := h.below b1
    have z1 := b1.size
    rw [HH.out]
    generalize posK l o.key = q at *
    clear h hS
    have hne : (Value.slice ao l.length cap).ownBlock ≠ some w1.heap.size := fun e0 => by have := (hblk _ e0).2; omega
    have hIns := insertKV_any l _ lo (w1.alloc (.cells #[.string o.key, .string o.val] 95)) (by simp; omega) (r1.1.alloc _) (by omega) q hqle ⟨o.key, o.val⟩ w1.heap.size 2 95 (fun t u hu => by have := cells_new w1 #[.string o.key, .string o.val] 95 t u hu; rwa [add_none, Nat.zero_add] at this) (by simp) hne (by rw [World.shape?, heap_alloc_new]; rfl) (by simp [go_sem]) (by simp [go_sem])
    go_wp2_with (go_at_call 95; refine hIns.mono ?_; rintro r w4 ⟨v4, rfl, o4, g4, p4⟩; have z4 := g4.size; simp only [World.size_alloc] at z4)
    go_wp2
    go_ret
    have hlen : (l.take q ++ (⟨o.key, o.val⟩ : KV) :: l.drop q).length = l.length + 1 := by rw [List.length_append, List.length_cons, List.length_take, List.length_drop]; omega
    exact ⟨_, rfl, by rw [HR.out]; exact Row.of_own o4 hlen.symm, ((b1.mono hlo).alloc (by omega) _).grown g4 (by simp; omega) (fun j hj => (by have := (hblk j hj).1; omega))⟩
  · have HR := Lib.hid (put7_put_hit ho hh)
    obtain ⟨hq, hk⟩ := hit_lt hh
    have HK := Lib.hid hk
    have HH := Lib.hid hh
    clear hh ho hk
    have hsz : 0 < l.length := by omega
    obtain ⟨g, hv, h1, h2, h3⟩ : ∃ g, ao = some ⟨g, 0, none⟩ ∧ l.length ≤ cap ∧ cap ≤ 9223372036854775807 ∧ lo ≤ g := by
      rcases h.shape with ⟨_, h0⟩ | ⟨g, c, hv, h1, h2, h3, _⟩
      · rw [h0] at hsz; simp at hsz
      · simp at hv; obtain ⟨rfl, rfl⟩ := hv; exact ⟨g, rfl, h1, h2, h3⟩
    subst hv
    go_enter Try.func87, Try.ntmps87
    go_wp2_with fail
    refine (findKey_any _ l o.key _ hS hl hm).mono ?_
    rintro r w1 ⟨rfl, b1⟩
    have r1 := h.below b1
    have z1 := b1.size
    rw [HH.out]
    generalize posK l o.key = q at *
    clear h hS
    have hfl := flat_length (enc := KV.cells) (size := 2) (fun _ => rfl) l
    obtain ⟨x0, q0⟩ := cell_owns r1.1 (q * 2 + 1) (by omega)
    have zf := r1.1.frozenAt
    have s2 := (r1.1.stored (q * 2 + 1) (.string o.val)).1
    have x2 := below_set (b1.mono hlo) ⟨g, q * 2 + 1, none⟩ (.string o.val) h3
    have HE := Lib.hid (show (l.map KV.cells).flatten.set (q * 2 + 1) (.string o.val) = ((l.set q ⟨o.key, o.val⟩).map KV.cells).flatten by
      rw [flat_set (size := 2) (l.map KV.cells) (fun c hc => by obtain ⟨x, _, rfl⟩ := List.mem_map.1 hc; rfl) q (by simpa using hq) 1 (by omega), List.map_set]
      congr 2
      rw [List.getElem_map]
      simp [KV.cells, HK.out])
    clear hfl
    go_wp2
    go_ret
    exact ⟨_, rfl, by rw [HR.out]; exact Row.of_own (by rw [← HE.out]; exact s2) (by simp), x2⟩
end Go.Proofs.Ytajjefpopjdfaaa

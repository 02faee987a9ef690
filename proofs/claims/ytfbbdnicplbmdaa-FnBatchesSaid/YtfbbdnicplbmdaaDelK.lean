
/- Walks: slices.Delete of one element at KV, a row of one's own. -/
import Derived.Test.YtfbbdnicplbmdaaDelP
import Derived.Test.YtfbbdnicplbmdaaKKVR
import Derived.Test.YtfbbdnicplbmdaaKKVA
import Derived.Lib.Hide
set_option linter.unusedVariables false
set_option linter.unusedSimpArgs false
namespace Go.Proofs.Ytfbbdnicplbmdaa
open Go.RowKit Sp Go.Sort
theorem kvOne : ∀ x : KV, ∀ u ∈ KV.cells x, u.oneCell' = true := by
  intro x u hu
  simp [KV.cells] at hu
  rcases hu with rfl | rfl <;> rfl

set_option maxRecDepth 100000 in
set_option maxHeartbeats 1600000 in
theorem deleteK_any (g cap : Nat) (l : List KV) (i : Nat) (hi : i < l.length) (hcap : l.length ≤ cap) (hcm : cap ≤ 9223372036854775807) (base : Nat) (w : World) (h : w.ownsRow base 134 2 (.slice (some ⟨g, 0, none⟩) l.length cap) l.length (l.map KV.cells).flatten) :
    Calls Try.prog 182 #[.slice (some ⟨g, 0, none⟩) l.length cap, .int .i64 i, .int .i64 ((i : Int) + 1)] w fun e w' => e = .returned (.slice (some ⟨g, 0, none⟩) (l.length - 1) cap) ∧ w'.ownsRow base 134 2 (.slice (some ⟨g, 0, none⟩) (l.length - 1) cap) (l.length - 1) ((l.take i ++ l.drop (i + 1)).map KV.cells).flatten ∧ w.grownBy w' (some g) := by
  obtain ⟨i0, hi0, hz0, hz1, hz2⟩ := info_parts info_KV
  have hlen : ((l.map KV.cells).flatten).length = l.length * 2 := flat_length (enc := KV.cells) (size := 2) (fun _ => rfl) l
  obtain ⟨news, hnews⟩ : ∃ news, news = ((l.drop (i + 1)).map KV.cells).flatten := ⟨_, rfl⟩
  have hnl : news.length = (l.length - (i + 1)) * 2 := by rw [hnews, flat_length (enc := KV.cells) (size := 2) (fun _ => rfl)]; simp
  have hsrc : ∀ t u, news[t]? = some u → w.drew.cell? ⟨g, (i + 1) * 2 + t, none⟩ = some u := by
    intro t u hu
    show w.cell? _ = _
    refine own_cell h ?_
    have e : (l.map KV.cells).flatten = ((l.take (i + 1)).map KV.cells).flatten ++ news := by rw [hnews, ← List.flatten_append, ← List.map_append, List.take_append_drop]
    rw [e, List.getElem?_append_right (by rw [flat_length (enc := KV.cells) (size := 2) (fun _ => rfl), List.length_take]; omega), flat_length (enc := KV.cells) (size := 2) (fun _ => rfl), List.length_take, Nat.min_eq_left (by omega)]
    rw [show (i + 1) * 2 + t - (i + 1) * 2 = t from by omega]; exact hu
  have s2 : ∀ u ∈ news, u.oneCell' = true := by
    intro u hu
    rw [hnews] at hu
    obtain ⟨c, hc, hu⟩ := List.mem_flatten.1 hu
    obtain ⟨y, _, rfl⟩ := List.mem_map.1 hc
    exact kvOne y u hu
  obtain ⟨A, hA, hs2⟩ : ∃ A : Addr, (if cap = i + 1 then some (⟨g, 0, none⟩ : Addr) else some ⟨g, (i + 1) * 2, none⟩) = some A ∧ Hid (∀ t u, news[t]? = some u → w.drew.cell? (A.add t) = some u) := by
    by_cases hc : cap = i + 1
    · refine ⟨⟨g, 0, none⟩, by simp [hc], Lib.hid fun t u hu => ?_⟩
      have h0 : news.length = 0 := by rw [hnl]; omega
      rw [List.length_eq_zero_iff.1 h0] at hu
      simp at hu
    · exact ⟨⟨g, (i + 1) * 2, none⟩, by simp [hc], Lib.hid fun t u hu => by rw [add_none]; exact hsrc t u hu⟩
  have s3 : Hid (∀ t, t < news.length → (w.drew.cell? ⟨g, 0 + i * 2 + t, none⟩).isSome = true ∧ w.drew.frozen? ⟨g, 0 + i * 2 + t, none⟩ = false) := Lib.hid (by
    intro t ht
    obtain ⟨x0, q0⟩ := cell_owns h.drew (0 + i * 2 + t) (by omega)
    exact ⟨by rw [q0]; rfl, h.drew.frozenAt _⟩)
  have s1 := Lib.hid hnl
  have S2 := Lib.hid s2
  obtain ⟨W1, hW1⟩ : ∃ W1, W1 = w.drew.setCells g (0 + i * 2) news := ⟨_, rfl⟩
  have hW := Lib.hid hW1
  have o1 : W1.ownsRow base 134 2 (.slice (some ⟨g, 0, none⟩) l.length cap) l.length (setAll (l.map KV.cells).flatten (0 + i * 2) news) := by rw [hW1]; exact (own_setCells news w.drew _ _ h.drew).1
  have g1 : w.grownBy W1 (some g) := by
    rw [hW1]
    have a := (own_setCells news w.drew _ (0 + i * 2) h.drew).2
    exact ⟨a.os, a.tape, a.output, a.size, a.block⟩
  obtain ⟨Z, hZ⟩ : ∃ Z, Z = (Builtin.zeroCells (Value.agg #[.string ByteArray.empty, .string ByteArray.empty]).cells 1).toList := ⟨_, rfl⟩
  have hZl : Z.length = 2 := by rw [hZ]; simp [Builtin.zeroCells, Value.cells]
  have hZo : ∀ u ∈ Z, u.oneCell' = true := by rw [hZ]; intro u hu; simp [Builtin.zeroCells, Value.cells] at hu; first | (obtain ⟨j, hj, rfl⟩ := hu; match j, hj with | 0, _ => rfl | 1, _ => rfl) | (rcases hu with rfl | rfl <;> rfl)
  have hcl : ∀ ty, (Builtin.clear_ #[43] ty #[.slice (some ⟨g, (l.length - 1) * 2, none⟩) 1 (cap - (l.length - 1))]).run Try.prog W1 = .ok (.tuple #[]) (W1.setCells g ((l.length - 1) * 2) Z) := fun ty => by
    rw [hZ]
    refine run_clear_recs W1 _ 134 ty (.agg #[.string ByteArray.empty, .string ByteArray.empty]) Try.underlying43 (fun _ => rfl) (by rw [← hZ]; exact hZo) g _ _ (fun j hj => ?_) (fun j hj => o1.frozenAt _)
    rw [← hZ, hZl] at hj
    obtain ⟨x0, q0⟩ := cell_owns o1 ((l.length - 1) * 2 + j) (by omega)
    rw [q0]; rfl
  have o2 := own_cut (own_setCells Z W1 _ ((l.length - 1) * 2) o1).1 (m := l.length - 1) (by omega)
  have he : (setAll (setAll (l.map KV.cells).flatten (0 + i * 2) news) ((l.length - 1) * 2) Z).take ((l.length - 1) * 2) = ((l.take i ++ l.drop (i + 1)).map KV.cells).flatten := by
    rw [setAll_take _ _ _ _ (Nat.le_refl _), show (l.length - 1) * 2 = 0 + i * 2 + news.length from by omega, setAll_eq _ _ _ (by omega), hnews, show 0 + i * 2 = i * 2 from by omega, flat_take (f := KV.cells) (n := 2) (fun _ => rfl), ← List.flatten_append, ← List.map_append]
  rw [he] at o2
  have g2 := (own_setCells Z W1 _ ((l.length - 1) * 2) o1).2
  have HZ := Lib.hid hZ
  clear hZ hZo
  have hpp : i + (l.length - (i + 1)) = l.length - 1 := by omega
  have hp1 : l.length - (l.length - 1) = 1 := by omega
  have hic : i ≤ cap := by omega
  have hjc : i + 1 ≤ cap := by omega
  have hq1 : (0 : Int) ≤ (i : Int) + 1 := by omega
  have hq2 : ((i : Int) + 1).toNat = i + 1 := by omega
  have hq3 : (i : Int) + 1 ≤ l.length := by omega
  have hq4 : (i : Int) + 1 ≤ cap := by omega
  have hq5 : (l.length : Int) ≤ cap := by omega
  have hq6 : (i : Int) ≤ cap := by omega
  clear hsrc s2 hW1 hnews
  go_enter Try.func182, Try.ntmps182
  go_wp2_with fail
  go_region_law (refine step_append_room rfl (.tmp 22) (.tmp 25) 43 rfl 134 i0 2 Try.underlying43 hi0 hz1 g 0 i cap (by simp [Act.eval, Act.put]) A (l.length - (i + 1)) (cap - (i + 1)) news (by simp [Act.eval, Act.put]) s1.out hs2.out S2.out (by omega) s3.out ?_; rw [← hW.out])
  go_wp2
  go_ret
  exact ⟨rfl, o2, ⟨g2.os.trans g1.os, g2.tape.trans g1.tape, g2.output.trans g1.output, Nat.le_trans g1.size g2.size, fun k hk hne => (g2.block k (Nat.lt_of_lt_of_le hk g1.size) hne).trans (g1.block k hk hne)⟩⟩
end Go.Proofs.Ytfbbdnicplbmdaa

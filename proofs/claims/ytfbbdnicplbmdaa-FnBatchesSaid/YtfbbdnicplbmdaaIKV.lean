
/- Walks: slices.Insert of one record at KV, a row of one's own. -/
import Derived.Test.YtfbbdnicplbmdaaInsP
import Derived.Test.YtfbbdnicplbmdaaKKVA
import Derived.Test.YtfbbdnicplbmdaaKKVR
import Derived.Lib.Hide
set_option linter.unusedVariables false
set_option linter.unusedSimpArgs false
namespace Go.Proofs.Ytfbbdnicplbmdaa
open Go.RowKit Sp Go.Sort
theorem cells1KV : ∀ x : KV, ∀ u ∈ KV.cells x, u.oneCell' = true := by
  intro x u hu
  simp [KV.cells] at hu
  rcases hu with rfl | rfl <;> rfl

set_option maxRecDepth 100000 in
set_option maxHeartbeats 1600000 in
theorem insEKV (l : List KV) (ao : Option Addr) (cap : Nat) (base : Nat) (w : World) (hbase : base ≤ w.heap.size) (h : w.ownsRow base 134 2 (.slice ao l.length cap) l.length (l.map KV.cells).flatten) (hl : (l.length : Int) ≤ 1048577) (x : KV) (gx kx : Nat) (tx : TypeId) (hx : ∀ t u, (KV.cells x)[t]? = some u → w.cell? ⟨gx, t, none⟩ = some u) :
    Calls Try.prog 183 #[.slice ao l.length cap, .int .i64 l.length, .slice (some ⟨gx, 0, none⟩) 1 1] w fun e w' => ∃ v', e = .returned v' ∧ w'.ownsRow base 134 2 v' (l.length + 1) ((l ++ [x]).map KV.cells).flatten ∧ w.grownBy w' (Value.slice ao l.length cap).ownBlock ∧ (v'.ownBlock = (Value.slice ao l.length cap).ownBlock ∨ v'.ownBlock = some w.heap.size) := by
  obtain ⟨i0, hi0, hz0, hz1, hz2⟩ := info_parts info_KV
  have hnews : ∀ j u, (KV.cells x)[j]? = some u → w.cell? ((⟨gx, 0, none⟩ : Addr).add j) = some u := fun j u hu => by rw [add_none, Nat.zero_add]; exact hx j u hu
  have hcl : (KV.cells x).length = 1 * 2 := rfl
  have hf : ((l ++ [x]).map KV.cells).flatten = (l.map KV.cells).flatten ++ KV.cells x := by simp
  have hnc : l.length ≤ cap := by
    rcases (Row.of_own (l := l) h rfl).shape with ⟨hv, hn⟩ | ⟨g, c, hv, h1, _⟩
    · simp [hn]
    · simp at hv; rw [hv.2]; exact h1
  have hnci : (l.length : Int) ≤ cap := by omega
  have HF := Lib.hid hf
  have hby : (l.length + 1) * i0.bytes ≤ 140737488355328 := by rw [hz2]; omega
  have hby0 : (0 + 1) * i0.bytes ≤ 140737488355328 := by rw [hz2]; decide
  clear hf hz2
  rcases (Row.of_own (l := l) h rfl).shape with ⟨hv, hn⟩ | ⟨g, c, hv, h1, h2, _⟩
  · subst hn
    simp at hv
    obtain ⟨rfl, rfl⟩ := hv
    go_enter Try.func183, Try.ntmps183
    go_wp2_with (go_loud (at_builtin; refine wpList_append_own_at (w := w) rfl _ _ _ rfl base 134 i0 _ 2 _ Try.underlying43 hi0 hz0 hz1 rfl (by rfl) (by decide) (.slice none 0 0) 0 [] rfl h ⟨gx, 0, none⟩ 1 1 (KV.cells x) rfl hcl hnews (cells1KV x) (by decide) hby0 hbase ?_; intro v2 w2 o2 g2 _ p2))
    go_ret
    exact ⟨v2, rfl, by simpa using o2, g2, p2⟩
  · simp at hv
    obtain ⟨rfl, rfl⟩ := hv
    go_enter Try.func183, Try.ntmps183
    go_wp2_with (go_loud (at_builtin; refine wpList_append_own_at (w := w) rfl _ _ _ rfl base 134 i0 _ 2 _ Try.underlying43 hi0 hz0 hz1 rfl (by rfl) (by decide) (.slice (some ⟨g, 0, none⟩) l.length cap) l.length _ rfl h ⟨gx, 0, none⟩ 1 1 (KV.cells x) rfl hcl hnews (cells1KV x) (by simp only [maxLen]; omega) hby hbase ?_; intro v2 w2 o2 g2 _ p2))
    all_goals (go_ret; exact ⟨v2, rfl, by simpa using o2, g2, p2⟩)

set_option maxRecDepth 100000 in
set_option maxHeartbeats 1600000 in
theorem insRKV (l : List KV) (g cap : Nat) (base : Nat) (w : World) (h : w.ownsRow base 134 2 (.slice (some ⟨g, 0, none⟩) l.length cap) l.length (l.map KV.cells).flatten) (hl : (l.length : Int) ≤ 1048577) (i : Nat) (hi : i < l.length) (hroom : l.length + 1 ≤ cap) (hcm : cap ≤ 9223372036854775807) (x : KV) (gx kx : Nat) (tx : TypeId) (hx : ∀ t u, (KV.cells x)[t]? = some u → w.cell? ⟨gx, t, none⟩ = some u) (hne : gx ≠ g) (hsx : w.shape? gx = some (tx, kx)) (hfx : w.frozen? ⟨gx, 0, none⟩ = false) (hfe : w.frozen? ⟨gx, kx, none⟩ = false) :
    Calls Try.prog 183 #[(.slice (some ⟨g, 0, none⟩) l.length cap), .int .i64 i, .slice (some ⟨gx, 0, none⟩) 1 1] w fun e w' => e = .returned (.slice (some ⟨g, 0, none⟩) (l.length + 1) cap) ∧ w'.ownsRow base 134 2 (.slice (some ⟨g, 0, none⟩) (l.length + 1) cap) (l.length + 1) ((l.take i ++ x :: l.drop i).map KV.cells).flatten ∧ w.grownBy w' (some g) := by
  obtain ⟨i0, hi0, hz0, hz1, hz2⟩ := info_parts info_KV
  have hlen : ((l.map KV.cells).flatten).length = l.length * 2 := flat_length (enc := KV.cells) (size := 2) (fun _ => rfl) l
  have hcl : (KV.cells x).length = 1 * 2 := rfl
  have hsz : (Try.prog.info? 134).map (·.size) = some 2 := by rw [hi0]; simp [hz1]
  obtain ⟨ys, hyl, oY⟩ := own_more h hroom
  obtain ⟨cs, hcs⟩ : ∃ cs, cs = ((l.drop i).map KV.cells).flatten := ⟨_, rfl⟩
  have hdl : cs.length = (l.length - i) * 2 := by rw [hcs, flat_length (enc := KV.cells) (size := 2) (fun _ => rfl), List.length_drop]
  have hcell : ∀ t u, cs[t]? = some u → w.cell? ⟨g, i * 2 + t, none⟩ = some u := by
    intro t u hu
    refine own_cell h ?_
    have e := flat_drop (f := KV.cells) (n := 2) (fun _ => rfl) l i
    rw [← hcs] at e
    rw [← e, List.getElem?_drop] at hu
    exact hu
  have h1c : ∀ u ∈ cs, u.oneCell' = true := by
    intro u hu
    rw [hcs] at hu
    obtain ⟨c, hc, hu⟩ := List.mem_flatten.1 hu
    obtain ⟨y, _, rfl⟩ := List.mem_map.1 hc
    exact cells1KV y u hu
  have hsm : ∀ j, j < (l.length + 1) * 2 → (w.cell? ⟨g, j, none⟩).isSome = true ∧ w.frozen? ⟨g, j, none⟩ = false := by
    intro j hj
    obtain ⟨x0, q0⟩ := cell_owns oY j (by omega)
    exact ⟨by rw [q0]; rfl, oY.frozenAt _⟩
  have hcp1 : ∀ ty dc sc, (Builtin.copy_ #[43, 43] ty #[.slice (some ⟨g, (i + 1) * 2, none⟩) (l.length - i) dc, .slice (some ⟨g, i * 2, none⟩) (l.length + 1 - i) sc]).run Try.prog w.drew = .ok (goInt ((l.length - i : Nat) : Int)) (w.drew.setCells g ((i + 1) * 2) cs) := fun ty dc sc =>
    run_copy_recs w.drew _ _ ty 134 2 g ((i + 1) * 2) (l.length - i) dc ⟨g, i * 2, none⟩ (l.length + 1 - i) sc (l.length - i) cs Try.underlying43 hsz (by simp only [Nat.min_def]; split <;> omega) hdl
      (fun j v hj => by rw [add_none]; exact hcell j v hj)
      (fun j hj => (hsm _ (by omega)).1) (fun j hj => (hsm _ (by omega)).2) h1c
  have oZ : w.drew.ownsRow base 134 2 (.slice (some ⟨g, 0, none⟩) (l.length + 1) cap) (l.length + 1) ((l.map KV.cells).flatten ++ ys) := oY.drew
  obtain ⟨W1, hW1⟩ : ∃ W1, W1 = w.drew.setCells g ((i + 1) * 2) cs := ⟨_, rfl⟩
  have r1 := own_setCells cs w.drew _ ((i + 1) * 2) oZ
  rw [← hW1] at r1 hcp1
  have hxc : ∀ j v, (KV.cells x)[j]? = some v → W1.cell? ⟨gx, j, none⟩ = some v := by
    intro j v hj
    rw [hW1, World.cell?_setCells_out _ _ _ _ _ (fun h _ => absurd h hne)]
    exact hx j v hj
  have hcp2 : ∀ ty dc, (Builtin.copy_ #[43, 43] ty #[.slice (some ⟨g, i * 2, none⟩) (l.length + 1 - i) dc, .slice (some ⟨gx, 0, none⟩) 1 1]).run Try.prog W1 = .ok (goInt 1) (W1.setCells g (i * 2) (KV.cells x)) := fun ty dc =>
    run_copy_recs W1 _ _ ty 134 2 g (i * 2) (l.length + 1 - i) dc ⟨gx, 0, none⟩ 1 1 1 (KV.cells x) Try.underlying43 hsz (by simp only [Nat.min_def]; split <;> omega) hcl
      (fun j v hj => by rw [add_none, Nat.zero_add]; exact hxc j v hj)
      (fun j hj => by obtain ⟨x0, q0⟩ := cell_owns r1.1 (i * 2 + j) (by omega); rw [q0]; rfl) (fun j hj => r1.1.frozenAt _) (cells1KV x)
  have r2 := own_setCells (KV.cells x) W1 _ (i * 2) r1.1
  rw [hcs, ins_room (f := KV.cells) (n := 2) (fun _ => rfl) l i hi x ys hyl] at r2
  obtain ⟨oR, gR⟩ := r2
  have gA := r1.2
  have hshape : w.shape? g = some (134, cap * 2) := by
    rcases h.2 with ⟨hn, _⟩ | ⟨g', cap', cur, hv, hb', hg, hc, hcm', hcs', ht⟩
    · cases hn
    · simp only [Value.slice.injEq, Option.some.injEq, Addr.mk.injEq, and_true, true_and] at hv
      obtain ⟨rfl, rfl⟩ := hv
      simp [World.shape?, hg, hcs']
  have hov : ∀ lb cb, (callFunc 195 #[.slice (some ⟨gx, 0, none⟩) 1 1, .slice (some ⟨g, (i + 1) * 2, none⟩) lb cb]).run Try.prog w = .ok (.value (.bool false)) w := fun lb cb => by
    rw [run_callFunc_extern Try.func195 (by kernel_rfl) (by kernel_rfl) (by kernel_rfl) (e := Extern.SlicesOverlaps.overlaps #[43, 43] #[4]) (by kernel_rfl),
      Lib.run_overlaps_apart w 43 4 134 Try.underlying43 2 (fun w => by simp [sizeOf, typeInfo, hi0, hz1]) ⟨gx, 0, none⟩ ⟨g, (i + 1) * 2, none⟩ 1 1 lb cb hne tx 134 kx (cap * 2) hsx hshape (by omega) hfx hfe]
    rfl
  have hw1 : IntKind.i64.wrap ((i : Int) + 1) = (i : Int) + 1 := by rw [IntKind.wrap_i64]; omega
  have hw2 : IntKind.i64.wrap ((l.length : Int) + 1) = (l.length : Int) + 1 := by rw [IntKind.wrap_i64]; omega
  have hb1 : (0 : Int) ≤ (i : Int) + 1 := by omega
  have hb2 : (0 : Int) ≤ (l.length : Int) + 1 := by omega
  have ht1 : ((i : Int) + 1).toNat = i + 1 := by omega
  have ht2 : ((l.length : Int) + 1).toNat = l.length + 1 := by omega
  have hq1 : ¬ ((i : Int) = (l.length : Int)) := by omega
  have hq2 : ¬ ((cap : Int) < (l.length : Int) + 1) := by omega
  have hq3 : (i : Int) ≤ (l.length : Int) := by omega
  have hq4 : (i : Int) ≤ (l.length : Int) + 1 := by omega
  have hq5 : (i : Int) + 1 ≤ (l.length : Int) + 1 := by omega
  have hq6 : (l.length : Int) + 1 ≤ (cap : Int) := by omega
  have hq7 : (i : Int) ≤ (cap : Int) := by omega
  have hq8 : (i : Int) + 1 ≤ (cap : Int) := by omega
  have hq9 : (l.length : Int) ≤ (cap : Int) := by omega
  have hq10 : i ≤ cap := by omega
  have hq11 : i + 1 ≤ cap := by omega
  have hc1 : ¬ (cap = i) := by omega
  have hc2 : ¬ (cap = i + 1) := by omega
  have HW1 := Lib.hid hW1
  have HC1 := Lib.hid hcp1
  have HC2 := Lib.hid hcp2
  clear hcp1 hcp2 hW1 hcs hcell h1c hsm hxc oY oZ r1 hlen hdl hz2
  go_enter Try.func183, Try.ntmps183
  go_wp2_with (simp only [hov])
  go_region_law (refine step_copy_runI rfl _ _ 43 43 rfl (.slice (some ⟨g, (i + 1) * 2, none⟩) (l.length - i) (cap - (i + 1))) (.slice (some ⟨g, i * 2, none⟩) (l.length + 1 - i) (cap - i)) (by simp [Act.eval, Act.put]) (by simp [Act.eval, Act.put]) (HC1.out _ _ _) ?_)
  have hcp2 := HC2.out
  go_wp2
  go_ret
  exact ⟨rfl, oR, ⟨gR.os.trans gA.os, gR.tape.trans gA.tape, gR.output.trans gA.output, Nat.le_trans gA.size gR.size, fun k hk hne => (gR.block k (Nat.lt_of_lt_of_le hk gA.size) hne).trans (gA.block k hk hne)⟩⟩

set_option maxRecDepth 100000 in
set_option maxHeartbeats 1600000 in
theorem insGKV (l : List KV) (g cap : Nat) (base : Nat) (w : World) (hbase : base ≤ w.heap.size) (h : w.ownsRow base 134 2 (.slice (some ⟨g, 0, none⟩) l.length cap) l.length (l.map KV.cells).flatten) (hl : (l.length : Int) ≤ 1048577) (i : Nat) (hi : i < l.length) (hcap : l.length ≤ cap) (hroom : cap < l.length + 1) (x : KV) (gx kx : Nat) (tx : TypeId) (hx : ∀ t u, (KV.cells x)[t]? = some u → w.cell? ⟨gx, t, none⟩ = some u) (hgx : gx < w.heap.size) :
    Calls Try.prog 183 #[(.slice (some ⟨g, 0, none⟩) l.length cap), .int .i64 i, .slice (some ⟨gx, 0, none⟩) 1 1] w fun e w' => ∃ c', e = .returned (.slice (some ⟨w.heap.size, 0, none⟩) (l.length + 1) c') ∧ w'.ownsRow base 134 2 (.slice (some ⟨w.heap.size, 0, none⟩) (l.length + 1) c') (l.length + 1) ((l.take i ++ x :: l.drop i).map KV.cells).flatten ∧ w.grownBy w' (some g) := by
  obtain rfl : cap = l.length := by omega
  obtain ⟨i0, hi0, hz0, hz1, hz2⟩ := info_parts info_KV
  have hlen : ((l.map KV.cells).flatten).length = l.length * 2 := flat_length (enc := KV.cells) (size := 2) (fun _ => rfl) l
  have hcl : (KV.cells x).length = 1 * 2 := rfl
  have hsz : (Try.prog.info? 134).map (·.size) = some 2 := by rw [hi0]; simp [hz1]
  obtain ⟨cs, hcs⟩ : ∃ cs, cs = ((l.drop i).map KV.cells).flatten := ⟨_, rfl⟩
  obtain ⟨av, has⟩ : ∃ av, av = ((l.take i).map KV.cells).flatten := ⟨_, rfl⟩
  have hdl : cs.length = (l.length - i) * 2 := by rw [hcs, flat_length (enc := KV.cells) (size := 2) (fun _ => rfl), List.length_drop]
  have hal : av.length = i * 2 := by rw [has, flat_length (enc := KV.cells) (size := 2) (fun _ => rfl), List.length_take, Nat.min_eq_left (by omega)]
  have hgl : g < w.heap.size := (h.lt g rfl).2
  have hcell : ∀ t u, cs[t]? = some u → w.cell? ⟨g, i * 2 + t, none⟩ = some u := by
    intro t u hu
    refine own_cell h ?_
    have e := flat_drop (f := KV.cells) (n := 2) (fun _ => rfl) l i
    rw [← hcs] at e
    rw [← e, List.getElem?_drop] at hu
    exact hu
  have hcella : ∀ t u, av[t]? = some u → w.cell? ⟨g, t, none⟩ = some u := by
    intro t u hu
    refine own_cell h ?_
    have e := flat_take (f := KV.cells) (n := 2) (fun _ => rfl) l i
    rw [← has] at e
    rw [← e, List.getElem?_take] at hu
    split at hu
    · exact hu
    · cases hu
  have h1c : ∀ u ∈ cs, u.oneCell' = true := by
    intro u hu
    rw [hcs] at hu
    obtain ⟨c, hc, hu⟩ := List.mem_flatten.1 hu
    obtain ⟨y, _, rfl⟩ := List.mem_map.1 hc
    exact cells1KV y u hu
  have hold : (Builtin.firstCells i0.size i (.slice (some ⟨g, 0, none⟩) i l.length)).run Try.prog w.drew = .ok av.toArray w.drew := by
    rw [hz1]
    exact run_firstCells_some w.drew 2 i ⟨g, 0, none⟩ i l.length av (by first | exact hal.symm | exact hal | omega) (fun j v hj => by rw [add_none, Nat.zero_add]; exact hcella j v hj)
  obtain ⟨G, hG⟩ : ∃ G, G = grownCap w (l.length + 1) l.length 134 := ⟨_, rfl⟩
  obtain ⟨ROW, hROW⟩ : ∃ ROW : Array Value, ROW = av.toArray ++ Builtin.zeroCells (Value.agg #[.string ByteArray.empty, .string ByteArray.empty]).cells (l.length + 1 - i) ++ Builtin.zeroCells (Value.agg #[.string ByteArray.empty, .string ByteArray.empty]).cells (G - (l.length + 1)) := ⟨_, rfl⟩
  have hkk : (l.length : Int) + 1 - (i : Int) = ((l.length + 1 - i : Nat) : Int) := by omega
  have hrz : ∀ ty, (Builtin.append_ #[43, 3] ty #[.slice (some ⟨g, 0, none⟩) i l.length, .int .i64 ((l.length : Int) + 1 - (i : Int))]).run Try.prog w =
      .ok (.slice (some ⟨w.heap.size, 0, none⟩) (l.length + 1) G) (w.drew.alloc (.cells ROW 134)) := fun ty => by
    have hh := Lib.run_append_grow_zeros w 43 3 ty 134 i0 _ .i64 .i64 Try.underlying43 Try.underlying3 hi0 hz0 (some ⟨g, 0, none⟩) i l.length av hold (l.length + 1 - i) (by omega) (by omega) (by omega) (by omega) (by rw [hz2]; omega) (by rw [hz2, show i + (l.length + 1 - i) = l.length + 1 from by omega]; exact growslice_fits hroom (by omega))
    rw [show i + (l.length + 1 - i) = l.length + 1 from by omega] at hh
    rw [hkk, hROW, hG]
    exact hh
  have hzc : ∀ m, (Builtin.zeroCells (Value.agg #[.string ByteArray.empty, .string ByteArray.empty]).cells m).size = m * 2 := fun m => by simp [Builtin.zeroCells, Value.cells]
  have hGn : l.length + 1 ≤ G := by rw [hG]; exact grownCap_ge w _ _ _
  have hG63 : G ≤ 9223372036854775807 := by
    have := grownCap_le_maxLen w (l.length + 1) l.length 134 (by unfold maxLen; omega)
    rw [← hG] at this
    unfold maxLen at this
    omega
  have hRl : ROW.size = G * 2 := by
    rw [hROW, Array.size_append, Array.size_append, hzc, hzc, List.size_toArray, hal]
    omega
  obtain ⟨ys, hys, hyl⟩ : ∃ ys, ROW.toList.take ((l.length + 1) * 2) = av ++ ys ∧ ys.length = (l.length + 1 - i) * 2 := by
    refine ⟨(Builtin.zeroCells (Value.agg #[.string ByteArray.empty, .string ByteArray.empty]).cells (l.length + 1 - i)).toList, ?_, by rw [Array.length_toList, hzc]⟩
    have hvl : (av.toArray ++ Builtin.zeroCells (Value.agg #[.string ByteArray.empty, .string ByteArray.empty]).cells (l.length + 1 - i)).toList.length = (l.length + 1) * 2 := by rw [Array.length_toList, Array.size_append, hzc, List.size_toArray, hal]; omega
    rw [hROW, Array.toList_append, List.take_append_of_le_length (Nat.le_of_eq hvl.symm), List.take_of_length_le (Nat.le_of_eq hvl), Array.toList_append]
  obtain ⟨W1, hW1⟩ : ∃ W1, W1 = w.drew.alloc (.cells ROW 134) := ⟨_, rfl⟩
  have oZ : W1.ownsRow base 134 2 (.slice (some ⟨w.heap.size, 0, none⟩) (l.length + 1) G) (l.length + 1) (av ++ ys) := by
    refine ⟨by rw [List.length_append, hal, hyl]; omega, .inr ⟨w.heap.size, G, ROW, rfl, hbase, by rw [hW1]; exact heap_alloc_new w.drew _, hGn, by unfold maxLen; omega, hRl, hys⟩⟩
  have kA : ∀ b o, b < w.heap.size → W1.cell? ⟨b, o, none⟩ = w.cell? ⟨b, o, none⟩ := fun b o hb => by rw [hW1]; exact World.cell?_alloc_past (w := w.drew) _ b o hb
  have gA : w.grownBy W1 none := by rw [hW1]; exact ⟨rfl, rfl, rfl, by simp <;> omega, fun k hk _ => Below.heap_alloc w.drew _ k hk⟩
  rw [← hW1] at hrz
  have hcpA : ∀ ty dc, (Builtin.copy_ #[43, 43] ty #[.slice (some ⟨w.heap.size, i * 2, none⟩) (l.length + 1 - i) dc, .slice (some ⟨gx, 0, none⟩) 1 1]).run Try.prog W1 = .ok (goInt 1) (W1.setCells w.heap.size (i * 2) (KV.cells x)) := fun ty dc =>
    run_copy_recs W1 _ _ ty 134 2 w.heap.size (i * 2) (l.length + 1 - i) dc ⟨gx, 0, none⟩ 1 1 1 (KV.cells x) Try.underlying43 hsz (by simp only [Nat.min_def]; split <;> omega) hcl
      (fun j v hj => by rw [add_none, Nat.zero_add, kA _ _ hgx]; exact hx j v hj)
      (fun j hj => by obtain ⟨x0, q0⟩ := cell_owns oZ (i * 2 + j) (by omega); rw [q0]; rfl) (fun j hj => oZ.frozenAt _) (cells1KV x)
  have r1 := own_setCells (KV.cells x) W1 _ (i * 2) oZ
  obtain ⟨W2, hW2⟩ : ∃ W2, W2 = W1.setCells w.heap.size (i * 2) (KV.cells x) := ⟨_, rfl⟩
  rw [← hW2] at r1 hcpA
  have kB : ∀ b o, b < w.heap.size → W2.drew.cell? ⟨b, o, none⟩ = w.cell? ⟨b, o, none⟩ := fun b o hb => by
    show W2.cell? _ = _
    rw [hW2, World.cell?_setCells_out _ _ _ _ _ (fun h _ => absurd h (by simp only []; omega)), kA b o hb]
  have oW := r1.1.drew
  have hcpB : ∀ ty dc sc, (Builtin.copy_ #[43, 43] ty #[.slice (some ⟨w.heap.size, (i + 1) * 2, none⟩) (l.length - i) dc, .slice (some ⟨g, i * 2, none⟩) (l.length - i) sc]).run Try.prog W2.drew = .ok (goInt ((l.length - i : Nat) : Int)) (W2.drew.setCells w.heap.size ((i + 1) * 2) cs) := fun ty dc sc =>
    run_copy_recs W2.drew _ _ ty 134 2 w.heap.size ((i + 1) * 2) (l.length - i) dc ⟨g, i * 2, none⟩ (l.length - i) sc (l.length - i) cs Try.underlying43 hsz (by simp only [Nat.min_def]; split <;> omega) hdl
      (fun j v hj => by rw [add_none, kB _ _ hgl]; exact hcell j v hj)
      (fun j hj => by obtain ⟨x0, q0⟩ := cell_owns oW ((i + 1) * 2 + j) (by omega); rw [q0]; rfl) (fun j hj => oW.frozenAt _) h1c
  have r2 := own_setCells cs W2.drew _ ((i + 1) * 2) oW
  rw [hcs, has, ins_grow (f := KV.cells) (n := 2) (fun _ => rfl) l i (by omega) x ys hyl, ← hcs] at r2
  obtain ⟨oR, gR⟩ := r2
  obtain ⟨_, gB⟩ := r1
  have gT : w.grownBy (W2.drew.setCells w.heap.size ((i + 1) * 2) cs) (some g) := by
    refine ⟨gR.os.trans (gB.os.trans gA.os), gR.tape.trans (gB.tape.trans gA.tape), gR.output.trans (gB.output.trans gA.output), Nat.le_trans gA.size (Nat.le_trans gB.size gR.size), fun j hj hne => ?_⟩
    have hj1 : j < W1.heap.size := Nat.lt_of_lt_of_le hj gA.size
    have hj2 : j < W2.heap.size := Nat.lt_of_lt_of_le hj1 gB.size
    have hjn : some j ≠ some w.heap.size := fun e => by simp at e; omega
    exact (gR.block j hj2 hjn).trans ((gB.block j hj1 hjn).trans (gA.block j hj (by simp)))
  have hw1 : IntKind.i64.wrap ((i : Int) + 1) = (i : Int) + 1 := by rw [IntKind.wrap_i64]; omega
  have hw2 : IntKind.i64.wrap ((l.length : Int) + 1) = (l.length : Int) + 1 := by rw [IntKind.wrap_i64]; omega
  have hw3 : IntKind.i64.wrap ((l.length : Int) + 1 - (i : Int)) = (l.length : Int) + 1 - (i : Int) := by rw [IntKind.wrap_i64]; omega
  have hb1 : (0 : Int) ≤ (i : Int) + 1 := by omega
  have ht1 : ((i : Int) + 1).toNat = i + 1 := by omega
  have hq1 : ¬ ((i : Int) = (l.length : Int)) := by omega
  have hq2 : (l.length : Int) < (l.length : Int) + 1 := by omega
  have hq3 : (i : Int) ≤ (l.length : Int) := by omega
  have hq4 : (i : Int) ≤ (l.length : Int) + 1 := by omega
  have hq5 : (i : Int) + 1 ≤ (l.length : Int) + 1 := by omega
  have hq7 : (l.length : Int) + 1 ≤ (G : Int) := by omega
  have hq8 : (i : Int) ≤ (G : Int) := by omega
  have hq9 : (i : Int) + 1 ≤ (G : Int) := by omega
  have hc0 : ¬ (l.length = i) := by omega
  have hc1 : ¬ (G = i) := by omega
  have hc2 : ¬ (G = i + 1) := by omega
  have HRZ := Lib.hid hrz
  have HC1 := Lib.hid hcpA
  have HC2 := Lib.hid hcpB
  clear hrz hcpA hcpB hW2 hW1 hcs has hcell hcella h1c oZ oW hlen hdl hal hz2 hG hROW hRl hys hyl hold gA gB gR kA kB hzc hkk
  go_enter Try.func183, Try.ntmps183
  have hcp1 := HC1.out
  go_wp2_with (at_builtin; refine Lib.wpList_append_run _ rfl _ _ _ _ rfl _ _ rfl rfl _ _ (HRZ.out _) ?_)
  go_region_law (refine step_copy_runI rfl _ _ 43 43 rfl (.slice (some ⟨w.heap.size, (i + 1) * 2, none⟩) (l.length - i) (G - (i + 1))) (.slice (some ⟨g, i * 2, none⟩) (l.length - i) (l.length - i)) (by simp [Act.eval, Act.put]) (by simp [Act.eval, Act.put]) (HC2.out _ _ _) ?_)
  go_wp2
  go_ret
  exact ⟨G, rfl, oR, gT⟩

/-- slices.Insert of one record: the three roads as one. -/
theorem insertKV_any (l : List KV) (v : Value) (base : Nat) (w : World) (hbase : base ≤ w.heap.size) (h : w.ownsRow base 134 2 v l.length (l.map KV.cells).flatten) (hl : (l.length : Int) ≤ 1048577) (i : Nat) (hi : i ≤ l.length) (x : KV) (gx kx : Nat) (tx : TypeId) (hx : ∀ t u, (KV.cells x)[t]? = some u → w.cell? ⟨gx, t, none⟩ = some u) (hgx : gx < w.heap.size) (hne : v.ownBlock ≠ some gx) (hsx : w.shape? gx = some (tx, kx)) (hfx : w.frozen? ⟨gx, 0, none⟩ = false) (hfe : w.frozen? ⟨gx, kx, none⟩ = false) :
    Calls Try.prog 183 #[v, .int .i64 i, .slice (some ⟨gx, 0, none⟩) 1 1] w fun e w' => ∃ v', e = .returned v' ∧ w'.ownsRow base 134 2 v' (l.length + 1) ((l.take i ++ x :: l.drop i).map KV.cells).flatten ∧ w.grownBy w' v.ownBlock ∧ (v'.ownBlock = v.ownBlock ∨ v'.ownBlock = some w.heap.size) := by
  rcases (Row.of_own (l := l) h rfl).shape with ⟨rfl, rfl⟩ | ⟨g, c, rfl, h1, h2, _⟩
  · have hi0 : i = 0 := by simpa using hi
    subst hi0
    refine (insEKV [] none 0 base w hbase h hl x gx kx tx hx).mono ?_
    rintro e w2 ⟨v2, rfl, o2, g2, p2⟩
    exact ⟨v2, rfl, by simpa using o2, g2, p2⟩
  · have hng : gx ≠ g := fun e => hne (by rw [e]; rfl)
    rcases Nat.lt_or_ge i l.length with hlt | hge
    · rcases Nat.lt_or_ge c (l.length + 1) with hc | hc
      · refine (insGKV l g c base w hbase h hl i hlt h1 hc x gx kx tx hx hgx).mono ?_
        rintro e w2 ⟨c2, rfl, o2, g2⟩
        exact ⟨_, rfl, o2, g2, .inr rfl⟩
      · refine (insRKV l g c base w h hl i hlt hc h2 x gx kx tx hx hng hsx hfx hfe).mono ?_
        rintro e w2 ⟨rfl, o2, g2⟩
        exact ⟨_, rfl, o2, g2, .inl rfl⟩
    · obtain rfl : i = l.length := by omega
      refine (insEKV l (some ⟨g, 0, none⟩) c base w hbase h hl x gx kx tx hx).mono ?_
      rintro e w2 ⟨v2, rfl, o2, g2, p2⟩
      exact ⟨v2, rfl, by simpa using o2, g2, p2⟩
end Go.Proofs.Ytfbbdnicplbmdaa


/- Plain and walks: BloomOf of the reference and of the program. -/
import Derived.Test.YtfbbdnicplbmdaaBloomW
import Derived.Test.YtfbbdnicplbmdaaFixedW
import Derived.Test.YtfbbdnicplbmdaaKStr0
import Derived.Deep.RegionLaw
import Derived.BigQuiet
set_option linter.unusedVariables false
set_option linter.unusedSimpArgs false
namespace Go.Proofs.Ytfbbdnicplbmdaa
open Go.RowKit Sp Go.Sort
namespace Sp
def orBit (l : List UInt8) (p : Nat) : List UInt8 := l.set (p / 8) (UInt8.ofNat ((l[p / 8]?.getD 0).toNat ||| 2 ^ (p % 8)))
theorem orBit_length (l : List UInt8) (p : Nat) : (orBit l p).length = l.length := by simp [orBit]
def bloom3 (key : ByteArray) (n : Int) (l : List UInt8) : Nat → List UInt8
  | 0 => l
  | k + 1 => orBit (bloom3 key n l k) (bpos key n k).toNat
theorem bloom3_length (key : ByteArray) (n : Int) (l : List UInt8) (k : Nat) : (bloom3 key n l k).length = l.length := by
  induction k with
  | zero => rfl
  | succ k ih => rw [bloom3, orBit_length, ih]
def bloomTo (keys : List ByteArray) (n : Nat) : Nat → List UInt8
  | 0 => List.replicate n 0
  | m + 1 => bloom3 (keys[m]?.getD ByteArray.empty) n (bloomTo keys n m) 3
theorem bloomTo_length (keys : List ByteArray) (n m : Nat) : (bloomTo keys n m).length = n := by
  induction m with
  | zero => simp [bloomTo]
  | succ m ih => rw [bloomTo, bloom3_length, ih]
theorem bloomTo_step (keys : List ByteArray) (n : Nat) {m : Nat} (h : m < keys.length) : bloomTo keys n (m + 1) = bloom3 keys[m] n (bloomTo keys n m) 3 := by
  rw [bloomTo, List.getElem?_eq_getElem h]; rfl
def bloomL (keys : List ByteArray) (n : Int) : List UInt8 := if inB n 1 64 = true ∧ keys.length ≤ 60 then bloomTo keys n.toNat keys.length else []
theorem bloomL_not {keys : List ByteArray} {n : Int} (h : ¬ (inB n 1 64 = true ∧ keys.length ≤ 60)) : bloomL keys n = [] := if_neg h
theorem bloomL_yes {keys : List ByteArray} {n : Nat} (h : inB (n : Int) 1 64 = true ∧ keys.length ≤ 60) : bloomL keys n = bloomTo keys n keys.length := by
  unfold bloomL; rw [if_pos h, Int.toNat_natCast]
end Sp
theorem u8_or (a b : Nat) (ha : a < 256) (hb : b < 256) : bits .or .u8 (a : Int) (b : Int) = ((a ||| b : Nat) : Int) := by
  show IntKind.u8.wrap ((BitVec.ofInt 8 (a : Int) ||| BitVec.ofInt 8 (b : Int)).toNat : Int) = _
  have h : a ||| b < 2 ^ 8 := Nat.or_lt_two_pow ha hb
  rw [BitVec.toNat_or, BitVec.ofInt_natCast, BitVec.ofInt_natCast, BitVec.toNat_ofNat, BitVec.toNat_ofNat, IntKind.wrap_u8, Nat.mod_eq_of_lt (by omega), Nat.mod_eq_of_lt (by omega)]
  omega
theorem pow_small {r : Nat} (h : r < 8) : 2 ^ r ≤ 128 := by
  have : 2 ^ r ≤ 2 ^ 7 := Nat.pow_le_pow_right (by omega) (by omega)
  omega
theorem pow_mod (r : Nat) (h : r < 8) : (2 : Int) ^ r % 256 = ((2 ^ r : Nat) : Int) := by
  rcases (by omega : r = 0 ∨ r = 1 ∨ r = 2 ∨ r = 3 ∨ r = 4 ∨ r = 5 ∨ r = 6 ∨ r = 7) with rfl | rfl | rfl | rfl | rfl | rfl | rfl | rfl <;> rfl
theorem orBit_row {w : World} {base e g cap n : Nat} {l : List UInt8} (h : w.ownsRow base e 1 (.slice (some ⟨g, 0, none⟩) n cap) n (l.map B)) (p x : Nat) (hp : p / 8 < l.length) (hx : x = (l[p / 8]?.getD 0).toNat ||| 2 ^ (p % 8)) (hx2 : x < 256) :
    (w.setCell ⟨g, p / 8, none⟩ (.int .u8 (x : Int))).ownsRow base e 1 (.slice (some ⟨g, 0, none⟩) n cap) n ((orBit l p).map B) := by
  have := (h.stored (p / 8) (.int .u8 (x : Int))).1
  unfold orBit
  rw [List.map_set, B_ofNat, ← hx, Int.emod_eq_of_lt (by omega) (by omega)]
  exact this
theorem byte_cell {w : World} {base e g cap n : Nat} {l : List UInt8} (h : w.ownsRow base e 1 (.slice (some ⟨g, 0, none⟩) n cap) n (l.map B)) (i : Nat) (hi : i < l.length) : w.cell? ⟨g, i, none⟩ = some (.int .u8 (((l[i]?.getD 0).toNat : Nat) : Int)) := by
  have := h.cells (g := g) rfl i (B l[i]) (by simp [hi])
  rw [add_none, Nat.zero_add] at this
  rw [this, List.getElem?_eq_getElem hi]; rfl
theorem zeros_bytes (n : Nat) : (madeCells (Value.int .u8 0).cells (n * 1)).toList = (List.replicate n (0 : UInt8)).map B := by
  have h2 : (madeCells (Value.int .u8 0).cells (n * 1)).toList = (List.replicate n [Value.int .u8 0]).flatten := madeCells_rows #[.int .u8 0] n
  rw [h2]
  clear h2
  induction n with
  | zero => rfl
  | succ n ih => rw [List.replicate_succ, List.flatten_cons, ih]; rfl

set_option maxRecDepth 100000 in
set_option maxHeartbeats 1600000 in
theorem specBloomOf_ok (v : Value) (l : List ByteArray) (n : Nat) (w : World) (h : SlT strCells 1 w v l) (hok : ∀ x ∈ l, (x.size : Int) ≤ 1048576) (hl : (l.length : Int) ≤ 60) (h1 : 1 ≤ (n : Int)) (h2 : (n : Int) ≤ 64) :
    Calls Try.prog 124 #[v, .int .i64 n] w fun e w' => e = .returned (.string (str (bloomL l n))) ∧ Below w.heap.size w w' := by
  have hin : inB (n : Int) 1 64 = true := inB_iff.2 ⟨h1, h2⟩
  have HR := Lib.hid (bloomL_yes (keys := l) (n := n) ⟨hin, by omega⟩)
  obtain ⟨ao, cap, rfl, hlc, hcm, hsh⟩ := h.shape
  go_enter Try.func124, Try.ntmps124
  go_wp2_with (first | (go_at_call 104; refine (l1In_any _ _ _ _).mono ?_; rintro e w' ⟨rfl, rfl⟩; rw [hin]) | (at_make; refine mk_full rfl rfl Try.underlying22 info_u8 n rfl rfl rfl (by omega) w.heap.size (Below.refl _ _) (Nat.le_refl _) (Nat.le_refl _) ?_; intro w1 hown hb1 hg1))
  rw [zeros_bytes] at hown
  have hsz0 : w.heap.size < w1.heap.size := (hown.lt _ rfl).2
  go_wp2
  go_loopw [6] (fun i wr => ∃ m : Nat, (m : Int) ≤ l.length ∧ i = .int .i64 m ∧ wr.ownsRow w.heap.size 5 1 (.slice (some ⟨w.heap.size, 0, none⟩) n n) n ((bloomTo l n m).map B) ∧ Below w.heap.size w wr) (fun i _ => l.length - (intOf i).toNat)
  case atStart => exact ⟨0, by omega, rfl, hown, hb1⟩
  case round =>
    obtain ⟨m, hm, rfl, hr, hbl⟩ := hrel
    clear hown hb1 hg1
    by_cases hlt : (m : Int) < l.length
    · have hmn : m < l.length := by omega
      obtain ⟨b, off, rfl, hb, hc⟩ := hsh (by omega)
      have hc0 := (hbl.cell (by exact hb)).trans (str_cell hc m hmn)
      have hks := hok _ (List.getElem_mem hmn)
      have hlen := bloomTo_length l n m
      have HS := Lib.hid (bloomTo_step l n hmn)
      have hsz : w.heap.size < wr.heap.size := (hr.lt _ rfl).2
      clear hsh hc
      go_wp2_with fail
      refine (l10Bits_far _ _ _ hks h1 h2).mono ?_
      rintro e w2 ⟨g, rfl, hg, hgs, b2, hgw⟩
      have r2 := own_below hr b2
      have x2 := hbl.trans (b2.mono hbl.size)
      have hne : g ≠ w.heap.size := by omega
      clear hr b2 hc0
      generalize l[m] = key at *
      generalize bloomTo l n m = L at *
      go_wp2
      go_loopw [8] (fun i wr => ∃ k : Nat, (k : Int) ≤ 3 ∧ i = .int .i64 k ∧ wr.ownsRow w.heap.size 5 1 (.slice (some ⟨w.heap.size, 0, none⟩) n n) n ((bloom3 key n L k).map B) ∧ w2.grownBy wr (some w.heap.size)) (fun i _ => 3 - (intOf i).toNat)
      case atStart => exact ⟨0, by omega, rfl, r2, ⟨rfl, rfl, rfl, Nat.le_refl _, fun k _ _ => rfl⟩⟩
      case round =>
        obtain ⟨k, hk, rfl, hr, ht⟩ := hrel
        by_cases hlt3 : (k : Int) < 3
        · have hk3 : k < 3 := by omega
          have hl3 : (bloom3 key n L k).length = n := by rw [bloom3_length]; exact hlen
          have hq := bpos_bd key h1 k
          have hst : bloom3 key n L (k + 1) = orBit (bloom3 key n L k) (bpos key n k).toNat := rfl
          have hcell : wr.drew.cell? ⟨g, k, none⟩ = some (.int .i64 (bpos key n k)) := ht.cell (hg k hk3) (by simp; omega)
          obtain ⟨p, hp⟩ : ∃ p : Nat, bpos key n k = p := ⟨(bpos key n k).toNat, by omega⟩
          rw [hp] at hcell hq
          rw [hp, Int.toNat_natCast] at hst
          have hps : p / 8 < (bloom3 key n L k).length := by omega
          have hrd : wr.drew.ownsRow w.heap.size 5 1 (.slice (some ⟨w.heap.size, 0, none⟩) n n) n ((bloom3 key n L k).map B) := hr
          have hb0 := byte_cell hrd (p / 8) hps
          have hz := hrd.frozenAt
          have hx : ((bloom3 key n L k)[p / 8]?.getD 0).toNat < 256 := UInt8.toNat_lt _
          have hor := orBit_row hrd p _ hps rfl (Nat.or_lt_two_pow (n := 8) hx (by have := pow_small (r := p % 8) (by omega); omega))
          have htt : w2.grownBy (wr.drew.setCell ⟨w.heap.size, p / 8, none⟩ (.int .u8 (((((bloom3 key n L k)[p / 8]?.getD 0).toNat ||| 2 ^ (p % 8) : Nat)) : Int))) (some w.heap.size) := ⟨ht.os, ht.tape, ht.output, by simp [World.setCell]; exact ht.size, fun j hj hne' => (Below.heap_setCell _ _ _ _ (by intro he; exact hne' (congrArg some he))).trans (ht.block j hj hne')⟩
          rw [← hst] at hor
          generalize ((bloom3 key n L k)[p / 8]?.getD 0).toNat = x0 at *
          have hr8 : p % 8 < 8 := by omega
          have hpw := pow_small hr8
          have X : bits .or .u8 (x0 : Int) ((2 : Int) ^ (p % 8) % 256) = ((x0 ||| 2 ^ (p % 8) : Nat) : Int) := by
            rw [pow_mod (p % 8) hr8]
            exact u8_or x0 (2 ^ (p % 8)) hx (by omega)
          have d1 : IntKind.i64.wrap ((p : Int) / 8) = ((p / 8 : Nat) : Int) := by rw [IntKind.wrap_i64]; omega
          have HO := Lib.hid hor
          have HT := Lib.hid htt
          have HP := Lib.hid hst
          clear hor htt hst hr ht hrd
          generalize x0 ||| 2 ^ (p % 8) = x1 at *
          generalize p / 8 = q at *
          go_wp2
          go_region
          all_goals
            go_wp2
            go_roundw
            case rel => exact ⟨k + 1, by omega, by go_num, HO.out, HT.out⟩
            case measure => simp [intOf]; omega
        · obtain rfl : k = 3 := by omega
          have x3 : RowKit.Below w.heap.size w wr := x2.trans ⟨ht.os, ht.tape, ht.output, ht.size, fun j hj => ht.block j (Nat.lt_of_lt_of_le hj x2.size) (by intro he; have := Option.some.inj he; omega)⟩
          rw [← HS.out] at hr
          go_wp2
          go_roundw
          case rel => exact ⟨m + 1, by omega, by go_num, hr, x3⟩
          case measure => simp [intOf]; omega
    · obtain rfl : m = l.length := by omega
      have kc := conv_owns (P := Try.prog) (dst := 9) (e := 5) (src := 22) hr Try.underlying22 Try.underlying5 Try.underlying9
      go_wp2
      go_ret
      exact ⟨by rw [HR.out]; rfl, hbl⟩

set_option maxRecDepth 100000 in
set_option maxHeartbeats 800000 in
theorem specBloomOf (v : Value) (l : List ByteArray) (n : Int) (w : World) (h : SlT strCells 1 w v l) (hok : ∀ x ∈ l, (x.size : Int) ≤ 1048576) (hl : (l.length : Int) ≤ 1048576) :
    Calls Try.prog 124 #[v, .int .i64 n] w fun e w' => e = .returned (.string (str (bloomL l n))) ∧ Below w.heap.size w w' := by
  by_cases hin : inB n 1 64 = true
  · by_cases h60 : (l.length : Int) ≤ 60
    · have hi := inB_iff.1 hin
      obtain ⟨m, rfl⟩ := Int.eq_ofNat_of_zero_le (show 0 ≤ n by omega)
      exact specBloomOf_ok v l m w h hok h60 hi.1 hi.2
    · rw [bloomL_not (by intro hh; omega)]
      obtain ⟨ao, cap, rfl, hlc, hcm, hsh⟩ := h.shape
      clear hsh
      go_enter Try.func124, Try.ntmps124
      go_wp2_with (go_at_call 104; refine (l1In_any _ _ _ _).mono ?_; rintro e w' ⟨rfl, rfl⟩; rw [hin])
      go_ret
      exact ⟨rfl, Below.refl _ _⟩
  · have hin' : inB n 1 64 = false := by simpa using hin
    rw [bloomL_not (by intro hh; exact hin hh.1)]
    obtain ⟨ao, cap, rfl, hlc, hcm, hsh⟩ := h.shape
    clear hsh
    go_enter Try.func124, Try.ntmps124
    go_wp2_with (go_at_call 104; refine (l1In_any _ _ _ _).mono ?_; rintro e w' ⟨rfl, rfl⟩; rw [hin'])
    go_ret
    exact ⟨rfl, Below.refl _ _⟩

theorem ix_three {a0 a1 a2 : Int} (f : Nat → Int) (h0 : f 0 = a0) (h1 : f 1 = a1) (h2 : f 2 = a2) (k : Nat) (hk : k < 3) (w : World) : (Instr.index 165 (.agg #[.int .i64 a0, .int .i64 a1, .int .i64 a2]) (.int .i64 (k : Nat))).run Try.prog w = .ok (.int .i64 (f k)) w := by
  subst h0 h1 h2
  rcases (by omega : k = 0 ∨ k = 1 ∨ k = 2) with rfl | rfl | rfl
  all_goals kernel_rfl

set_option maxRecDepth 100000 in
set_option maxHeartbeats 1600000 in
theorem implBloomOf_ok (v : Value) (l : List ByteArray) (n : Nat) (w : World) (h : SlT strCells 1 w v l) (hok : ∀ x ∈ l, (x.size : Int) ≤ 1048576) (hl : (l.length : Int) ≤ 60) (h1 : 1 ≤ (n : Int)) (h2 : (n : Int) ≤ 64) :
    Calls Try.prog 87 #[v, .int .i64 n] w fun e w' => e = .returned (.string (str (bloomL l n))) ∧ Below w.heap.size w w' := by
  have hin : inB (n : Int) 1 64 = true := inB_iff.2 ⟨h1, h2⟩
  have HR := Lib.hid (bloomL_yes (keys := l) (n := n) ⟨hin, by omega⟩)
  obtain ⟨ao, cap, rfl, hlc, hcm, hsh⟩ := h.shape
  go_enter Try.func87, Try.ntmps87
  go_wp2_with (first | (go_at_call 108; refine (inRange_any _ _ _ _).mono ?_; rintro e w' ⟨rfl, rfl⟩; rw [hin]) | (at_make; refine mk_full rfl rfl Try.underlying22 info_u8 n rfl rfl rfl (by omega) w.heap.size (Below.refl _ _) (Nat.le_refl _) (Nat.le_refl _) ?_; intro w1 hown hb1 hg1))
  rw [zeros_bytes] at hown
  have hsz0 : w.heap.size < w1.heap.size := (hown.lt _ rfl).2
  go_wp2
  go_loopw [22] (fun i wr => ∃ m : Nat, (m : Int) ≤ l.length ∧ i = .int .i64 m ∧ wr.ownsRow w.heap.size 5 1 (.slice (some ⟨w.heap.size, 0, none⟩) n n) n ((bloomTo l n m).map B) ∧ Below w.heap.size w wr) (fun i _ => l.length - (intOf i).toNat)
  case atStart => exact ⟨0, by omega, rfl, hown, hb1⟩
  case round =>
    obtain ⟨m, hm, rfl, hr, hbl⟩ := hrel
    clear hown hb1 hg1
    by_cases hlt : (m : Int) < l.length
    · have hmn : m < l.length := by omega
      obtain ⟨b, off, rfl, hb, hc⟩ := hsh (by omega)
      have hc0 := (hbl.cell (by exact hb)).trans (str_cell hc m hmn)
      have hks := hok _ (List.getElem_mem hmn)
      have hlen := bloomTo_length l n m
      have HS := Lib.hid (bloomTo_step l n hmn)
      have hsz : w.heap.size < wr.heap.size := (hr.lt _ rfl).2
      clear hsh hc
      go_wp2_with fail
      refine (bloomBits_any _ _ _ hks h1 h2).mono ?_
      rintro e w2 ⟨rfl, b2⟩
      have r2 := own_below hr b2
      have x2 := hbl.trans (b2.mono hbl.size)
      clear hr b2 hc0
      generalize l[m] = key at *
      generalize bloomTo l n m = L at *
      have q0 := bpos_bd key h1 0
      have q1 := bpos_bd key h1 1
      have q2 := bpos_bd key h1 2
      have hix := fun k hk w => @ix_three (bpos key n 0) (bpos key n 1) (bpos key n 2) (fun i => bpos key n i) rfl rfl rfl k hk w
      go_wp2
      go_loopw [29] (fun i wr => ∃ k : Nat, (k : Int) ≤ 3 ∧ i = .int .i64 k ∧ wr.ownsRow w.heap.size 5 1 (.slice (some ⟨w.heap.size, 0, none⟩) n n) n ((bloom3 key n L k).map B) ∧ Below w.heap.size w wr) (fun i _ => 3 - (intOf i).toNat)
      case atStart => exact ⟨0, by omega, rfl, r2, x2⟩
      case round =>
        obtain ⟨k, hk, rfl, hr, ht⟩ := hrel
        clear q0 q1 q2
        by_cases hlt3 : (k : Int) < 3
        · have hk3 : k < 3 := by omega
          have hl3 : (bloom3 key n L k).length = n := by rw [bloom3_length]; exact hlen
          have hq := bpos_bd key h1 k
          have hi0 := hix k hk3
          have hst : bloom3 key n L (k + 1) = orBit (bloom3 key n L k) (bpos key n k).toNat := rfl
          obtain ⟨p, hp⟩ : ∃ p : Nat, bpos key n k = p := ⟨(bpos key n k).toNat, by omega⟩
          rw [hp] at hq hi0
          rw [hp, Int.toNat_natCast] at hst
          have hps : p / 8 < (bloom3 key n L k).length := by omega
          have hrd : wr.ownsRow w.heap.size 5 1 (.slice (some ⟨w.heap.size, 0, none⟩) n n) n ((bloom3 key n L k).map B) := hr
          have hb0 := byte_cell hrd (p / 8) hps
          have hz := hrd.frozenAt
          have hx : ((bloom3 key n L k)[p / 8]?.getD 0).toNat < 256 := UInt8.toNat_lt _
          have hor := orBit_row hrd p _ hps rfl (Nat.or_lt_two_pow (n := 8) hx (by have := pow_small (r := p % 8) (by omega); omega))
          have htt : Below w.heap.size w (wr.setCell ⟨w.heap.size, p / 8, none⟩ (.int .u8 (((((bloom3 key n L k)[p / 8]?.getD 0).toNat ||| 2 ^ (p % 8) : Nat)) : Int))) := Below.setCell ht (p := ⟨w.heap.size, p / 8, none⟩) (Nat.le_refl _) _
          rw [← hst] at hor
          generalize ((bloom3 key n L k)[p / 8]?.getD 0).toNat = x0 at *
          have hr8 : p % 8 < 8 := by omega
          have hpw := pow_small hr8
          have X : bits .or .u8 (x0 : Int) ((2 : Int) ^ (p % 8) % 256) = ((x0 ||| 2 ^ (p % 8) : Nat) : Int) := by
            rw [pow_mod (p % 8) hr8]
            exact u8_or x0 (2 ^ (p % 8)) hx (by omega)
          have d1 : IntKind.i64.wrap ((p : Int) / 8) = ((p / 8 : Nat) : Int) := by rw [IntKind.wrap_i64]; omega
          have HO := Lib.hid hor
          have HT := Lib.hid htt
          have HP := Lib.hid hst
          clear hor htt hst hr ht hrd hix
          generalize x0 ||| 2 ^ (p % 8) = x1 at *
          generalize p / 8 = q at *
          go_wp2
          exact ⟨⟨k + 1, by omega, by go_num, HO.out, HT.out⟩, by simp [intOf]; omega⟩
        · obtain rfl : k = 3 := by omega
          rw [← HS.out] at hr
          go_wp2
          exact ⟨⟨m + 1, by omega, by go_num, hr, ht⟩, by simp [intOf]; omega⟩
    · obtain rfl : m = l.length := by omega
      have kc := conv_owns (P := Try.prog) (dst := 9) (e := 5) (src := 22) hr Try.underlying22 Try.underlying5 Try.underlying9
      go_wp2
      go_ret
      exact ⟨by rw [HR.out]; rfl, hbl⟩

set_option maxRecDepth 100000 in
set_option maxHeartbeats 800000 in
theorem implBloomOf (v : Value) (l : List ByteArray) (n : Int) (w : World) (h : SlT strCells 1 w v l) (hok : ∀ x ∈ l, (x.size : Int) ≤ 1048576) (hl : (l.length : Int) ≤ 1048576) :
    Calls Try.prog 87 #[v, .int .i64 n] w fun e w' => e = .returned (.string (str (bloomL l n))) ∧ Below w.heap.size w w' := by
  by_cases hin : inB n 1 64 = true
  · by_cases h60 : (l.length : Int) ≤ 60
    · have hi := inB_iff.1 hin
      obtain ⟨m, rfl⟩ := Int.eq_ofNat_of_zero_le (show 0 ≤ n by omega)
      exact implBloomOf_ok v l m w h hok h60 hi.1 hi.2
    · rw [bloomL_not (by intro hh; omega)]
      obtain ⟨ao, cap, rfl, hlc, hcm, hsh⟩ := h.shape
      clear hsh
      go_enter Try.func87, Try.ntmps87
      go_wp2_with (go_at_call 108; refine (inRange_any _ _ _ _).mono ?_; rintro e w' ⟨rfl, rfl⟩; rw [hin])
      go_ret
      exact ⟨rfl, Below.refl _ _⟩
  · have hin' : inB n 1 64 = false := by simpa using hin
    rw [bloomL_not (by intro hh; exact hin hh.1)]
    obtain ⟨ao, cap, rfl, hlc, hcm, hsh⟩ := h.shape
    clear hsh
    go_enter Try.func87, Try.ntmps87
    go_wp2_with (go_at_call 108; refine (inRange_any _ _ _ _).mono ?_; rintro e w' ⟨rfl, rfl⟩; rw [hin'])
    go_ret
    exact ⟨rfl, Below.refl _ _⟩
end Go.Proofs.Ytfbbdnicplbmdaa

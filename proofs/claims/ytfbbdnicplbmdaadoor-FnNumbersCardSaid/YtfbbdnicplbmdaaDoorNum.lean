
/- Plain lemmas on numbers and strings of bytes, with no program in sight. -/
import Derived.WalkKit
set_option linter.unusedVariables false
set_option linter.unusedSimpArgs false
namespace Go.Proofs.YtfbbdnicplbmdaaDoor
namespace Sp

/-- A list of bytes as a string value. -/
def str (l : List UInt8) : ByteArray := ⟨l.toArray⟩
theorem str_toList (l : List UInt8) : (str l).toList = l := ByteArray.toList_mk l
theorem str_data (l : List UInt8) : (str l).data.toList = l := by simp [str]
theorem str_size (l : List UInt8) : (str l).size = l.length := rfl
theorem str_append (a b : List UInt8) : str a ++ str b = str (a ++ b) := ByteArray.mk_append_mk a b
theorem str_of (s : ByteArray) : str s.data.toList = s := by simp [str]

theorem u8_mod (q : Nat) : UInt8.ofNat (q % 256) = UInt8.ofNat q := by apply UInt8.toNat_inj.1; simp
/-- The test for a range, as a Bool that the walk does not take apart. -/
def inB (x a b : Int) : Bool := decide (a ≤ x ∧ x ≤ b)
theorem inB_true {x a b : Int} (h : a ≤ x ∧ x ≤ b) : inB x a b = true := by simp [inB, h]
theorem inB_false {x a b : Int} (h : ¬ (a ≤ x ∧ x ≤ b)) : inB x a b = false := by unfold inB; exact decide_eq_false h
theorem inB_iff {x a b : Int} : inB x a b = true ↔ a ≤ x ∧ x ≤ b := by simp [inB]
theorem take_snoc (s : ByteArray) (k : Nat) (h : k < s.size) : s.data.toList.take (k + 1) = s.data.toList.take k ++ [s[k]] := by
  rw [List.take_succ_eq_append_getElem (by simpa using h)]; rfl
/-- The last k bytes of n, the most significant first. -/
def beB : Nat → Nat → List UInt8
  | 0, _ => []
  | k + 1, n => beB k (n / 256) ++ [UInt8.ofNat n]
theorem beB_length (k : Nat) : ∀ n, (beB k n).length = k := by
  induction k with
  | zero => intro n; rfl
  | succ k ih => intro n; simp [beB, ih]
theorem beB_front (k : Nat) : ∀ n, beB (k + 1) n = UInt8.ofNat (n / 256 ^ k) :: beB k n := by
  induction k with
  | zero => intro n; simp [beB]
  | succ k ih =>
    intro n
    rw [beB, ih (n / 256), Nat.div_div_eq_div_mul, beB]
    rw [show 256 * 256 ^ k = 256 ^ (k + 1) from by rw [Nat.pow_succ, Nat.mul_comm]]
    rfl

theorem beB_zeros (k n : Nat) (h : k ≤ n) (x : UInt8) (l : List UInt8) (hl : l.length = k) (hk : k < n) : (List.replicate (n - k) (0 : UInt8) ++ l).set (n - 1 - k) x = List.replicate (n - (k + 1)) 0 ++ (x :: l) := by
  rw [List.set_append_left _ _ (by simp; omega)]
  rw [show n - k = (n - (k + 1)) + 1 from by omega, List.replicate_succ', show n - 1 - k = (List.replicate (n - (k + 1)) (0 : UInt8)).length from by simp; omega]
  rw [List.set_append_right _ _ (Nat.le_refl _)]
  simp
theorem shr_ne (m d : Nat) (h : m / 256 ^ d = 0) : ((m : Int) / 2 ^ (8 * d) != 0) = false := by
  have e : (256 : Nat) ^ d = 2 ^ (8 * d) := by rw [show (256 : Nat) = 2 ^ 8 from rfl, ← Nat.pow_mul]
  rw [e] at h
  have : ((m : Int) / 2 ^ (8 * d)) = ((m / 2 ^ (8 * d) : Nat) : Int) := by simp
  rw [this, h]; rfl
theorem shr_ne' (m d : Nat) (h : 0 < m / 256 ^ d) : ((m : Int) / 2 ^ (8 * d) != 0) = true := by
  have e : (256 : Nat) ^ d = 2 ^ (8 * d) := by rw [show (256 : Nat) = 2 ^ 8 from rfl, ← Nat.pow_mul]
  rw [e] at h
  have : ((m : Int) / 2 ^ (8 * d)) = ((m / 2 ^ (8 * d) : Nat) : Int) := by simp
  rw [this]
  rw [bne_iff_ne]; omega
/-- The result of Fixed, for a width from 1 to 7. -/
def fixedN (n : Int) (k : Nat) : List UInt8 := if 0 ≤ n ∧ n.toNat / 256 ^ k = 0 then beB k n.toNat else []
theorem fixedN_zero {m k : Nat} (h : m / 256 ^ k = 0) : fixedN (m : Int) k = beB k m := by
  unfold fixedN; rw [if_pos ⟨by omega, by rw [Int.toNat_natCast]; exact h⟩, Int.toNat_natCast]
theorem fixedN_pos {m k : Nat} (h : 0 < m / 256 ^ k) : fixedN (m : Int) k = [] := by
  unfold fixedN; rw [if_neg (by rw [Int.toNat_natCast]; omega)]
theorem fixedN_neg {n : Int} {k : Nat} (h : n < 0) : fixedN n k = [] := by
  unfold fixedN; rw [if_neg (by omega)]
theorem fixedN_length_le (n : Int) (k : Nat) : (fixedN n k).length ≤ k := by
  unfold fixedN; split
  · rw [beB_length]; exact Nat.le_refl _
  · simp
def fixedL (n w : Int) : List UInt8 := if 1 ≤ w ∧ w ≤ 7 then fixedN n w.toNat else []
theorem fixedL_length_le (n w : Int) : (fixedL n w).length ≤ 7 := by
  unfold fixedL; split
  · have := fixedN_length_le n w.toNat; omega
  · simp
end Sp
open Sp Go.RowKit

/-- A byte as a value. -/
def B (x : UInt8) : Value := .int .u8 (x.toNat : Int)

theorem B_ofNat (q : Nat) : B (UInt8.ofNat q) = .int .u8 ((q : Int) % 256) := by simp [B]
theorem map_B_set (l : List UInt8) (j q : Nat) : (l.map B).set j (.int .u8 ((q : Int) % 256)) = (l.set j (UInt8.ofNat q)).map B := by rw [List.map_set, B_ofNat]

/-- One byte more behind owned bytes. -/
theorem own_snoc {w : World} {base e n : Nat} {v : Value} {l : List UInt8} {x : Int} (q : Nat) (h : w.ownsRow base e 1 v n (l.map B ++ #[Value.int .u8 x].toList)) (hx : x = (q : Int)) (hq : q < 256) : w.ownsRow base e 1 v n ((l ++ [UInt8.ofNat q]).map B) := by
  have e1 : (l.map B ++ #[Value.int .u8 x].toList) = (l ++ [UInt8.ofNat q]).map B := by
    rw [List.map_append]; show _ = _ ++ [B (UInt8.ofNat q)]; rw [B_ofNat, hx]; simp; omega
  rwa [e1] at h

section
variable {P : Program}
theorem cell_owns {w : World} {base e size g n cap : Nat} {xs : List Value} (h : w.ownsRow base e size (.slice (some ⟨g, 0, none⟩) n cap) n xs) (j : Nat) (hj : j < n * size) : ∃ v, w.cell? ⟨g, j, none⟩ = some v := by
  have hl : j < xs.length := by rw [h.1]; exact hj
  exact ⟨xs[j], by rw [h.cellAt j hj, List.getElem?_eq_getElem hl]⟩
theorem add_none (b o j : Nat) : (⟨b, o, none⟩ : Addr).add j = ⟨b, o + j, none⟩ := by unfold Addr.add; split <;> simp_all

/-- string([]byte) of a slice that the call owns. -/
theorem conv_owns {w : World} {base e src dst : Nat} {v : Value} {n : Nat} {l : List UInt8} (h : w.ownsRow base e 1 v n (l.map B)) (hs : P.underlying src = some (.slice e)) (he : P.underlying e = some (.int .u8)) (hd : P.underlying dst = some .string) :
    (convert src dst v).run P w = .ok (.string (str l)) w := by
  have hn : n = l.length := by have := h.1; simp at this; omega
  rcases h.2 with ⟨rfl, hz⟩ | ⟨g, cap, cur, rfl, _, hg, _, _, _, ht⟩
  · have : l = [] := List.eq_nil_of_length_eq_zero (by omega)
    subst this
    exact run_convert_bytes_nil w src e hs he 0 0 dst hd
  · subst hn
    refine run_convert_bytes_back w src dst e ⟨g, 0, none⟩ cap l hs he hd fun j hj => ?_
    rw [add_none, cell_of_row w g _ cur e (0, 0) hg]
    have hh : (cur.toList.take (l.length * 1))[j]? = (l.map B)[j]? := by rw [ht]
    rw [List.getElem?_take, if_pos (by omega)] at hh
    simp only [Array.getElem?_toList] at hh
    rw [Nat.zero_add, hh]
    simp [hj, B]

/-- string([]byte{x}) of a block that has just been made. -/
theorem conv_one {e src dst : Nat} (hs : P.underlying src = some (.slice e)) (he : P.underlying e = some (.int .u8)) (hd : P.underlying dst = some .string) (w : World) (x : Int) :
    (convert src dst (.slice (some ⟨w.heap.size, 0, none⟩) 1 1)).run P (w.alloc (.cells #[.int .u8 x] e)) = .ok (.string (str [UInt8.ofNat x.toNat])) (w.alloc (.cells #[.int .u8 x] e)) :=
  run_convert_bytes_arg (w.alloc (.cells #[.int .u8 x] e)) src e hs he w.heap.size 0 1 1 [x] rfl (fun i hi => by
    match i, hi with
    | 0, _ => rw [World.cell?_alloc_at _ _ _ _ rfl]; rfl) dst hd
end
end Go.Proofs.YtfbbdnicplbmdaaDoor

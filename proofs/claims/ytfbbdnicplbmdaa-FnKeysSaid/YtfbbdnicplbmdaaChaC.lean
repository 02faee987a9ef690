
/- Walks: what both blocks need: rows of words, rows of bytes. -/
import Derived.Test.YtfbbdnicplbmdaaChaL
import Derived.Test.YtfbbdnicplbmdaaApp
set_option linter.unusedVariables false
set_option linter.unusedSimpArgs false
namespace Go.Proofs.Ytfbbdnicplbmdaa
open Go.RowKit Sp
namespace Sp
def wI (f : Nat → Nat) (n : Nat) : List Value := (List.range n).map fun i => Value.int .i64 ((f i : Nat) : Int)
theorem wI_snoc (f : Nat → Nat) (n : Nat) : wI f (n + 1) = wI f n ++ [Value.int .i64 ((f n : Nat) : Int)] := by simp [wI, List.range_succ]
theorem wI_16 (f : Nat → Nat) : wI f 16 = W64 f := rfl
theorem wI_add4 (f : Nat → Nat) (n : Nat) : wI f (n + 4) = wI f n ++ [Value.int .i64 ((f n : Nat) : Int), Value.int .i64 ((f (n + 1) : Nat) : Int), Value.int .i64 ((f (n + 2) : Nat) : Int), Value.int .i64 ((f (n + 3) : Nat) : Int)] := by
  rw [show n + 4 = n + 1 + 1 + 1 + 1 from rfl, wI_snoc, wI_snoc, wI_snoc, wI_snoc]; simp
theorem chaW_lit (key nonce : List UInt8) (c : Nat) : wI (chaW key nonce c) 4 = [Value.int .i64 1634760805, Value.int .i64 857760878, Value.int .i64 2036477234, Value.int .i64 1797285236] := rfl
theorem chaW_key (key nonce : List UInt8) (c : Nat) {k : Nat} (h : k < 8) : chaW key nonce c (4 + k) = leW key (4 * k) := by
  unfold chaW; rw [if_neg (by omega), if_pos (by omega), Nat.add_sub_cancel_left]
theorem chaW_count (key nonce : List UInt8) (c : Nat) : chaW key nonce c 12 = c := rfl
theorem chaW_nonce (key nonce : List UInt8) (c : Nat) {k : Nat} (h : k < 3) : chaW key nonce c (13 + k) = leW nonce (4 * k) := by
  unfold chaW; rw [if_neg (by omega), if_neg (by omega), if_neg (by omega), if_pos (by omega), Nat.add_sub_cancel_left]
theorem le4_map (x : Nat) : (le4 x).map B = [Value.int .u8 ((x % 256 : Nat) : Int), Value.int .u8 ((x / 256 % 256 : Nat) : Int), Value.int .u8 ((x / 65536 % 256 : Nat) : Int), Value.int .u8 ((x / 16777216 % 256 : Nat) : Int)] := by
  unfold le4
  rw [List.map_cons, List.map_cons, List.map_cons, List.map_cons, List.map_nil, B_ofNat, B_ofNat, B_ofNat, B_ofNat]
  congr 2 <;> first | rfl | (congr 1; omega) | (congr 2; congr 1; omega) | skip
  all_goals (try (congr 1 <;> first | rfl | omega))
theorem le4_vals (x : Nat) (hx : x < 4294967296) : #[Value.int .u8 ((x : Int) % 256), Value.int .u8 ((x : Int) / 256 % 256), Value.int .u8 ((x : Int) / 65536 % 256), Value.int .u8 ((x : Int) / 16777216)].toList = (le4 x).map B := by
  rw [le4_map, show x / 16777216 % 256 = x / 16777216 by omega]; rfl
end Sp
theorem own_slice {w : World} {base e size n : Nat} {v : Value} {xs : List Value} (h : w.ownsRow base e size v n xs) (hn : 0 < n) : ∃ g cap, v = .slice (some ⟨g, 0, none⟩) n cap := by
  rcases h.2 with ⟨_, h0⟩ | ⟨g, cap, cur, hv, _⟩
  · omega
  · exact ⟨g, cap, hv⟩
theorem words_flat (f : Nat → Nat) : ((((List.range 16).map f).map fun x : Nat => [Value.int .i64 (x : Int)]).flatten) = W64 f := rfl
theorem touch_trans {a b c : World} {g : Nat} (h : a.grownBy b (some g)) (h' : b.grownBy c (some g)) : a.grownBy c (some g) :=
  ⟨h'.os.trans h.os, h'.tape.trans h.tape, h'.output.trans h.output, Nat.le_trans h.size h'.size, fun k hk hne => (h'.block k (Nat.lt_of_lt_of_le hk h.size) hne).trans (h.block k hk hne)⟩
end Go.Proofs.Ytfbbdnicplbmdaa


/- Plain: the stream's bytes; a row of bytes that a conversion has laid. -/
import Derived.Test.YtfbbdnicplbmdaaChaC
import Derived.Test.YtfbbdnicplbmdaaChaK
import Derived.Lib.ConvBytes
set_option linter.unusedVariables false
set_option linter.unusedSimpArgs false
namespace Go.Proofs.Ytfbbdnicplbmdaa
open Go.RowKit Sp
namespace Sp
def streamAt (key nonce : ByteArray) (c : Nat) (t : List UInt8) (i : Nat) : UInt8 := (t[i]?.getD 0) ^^^ ((chaG key nonce (c + i / 64))[i % 64]?.getD 0)
def stT (key nonce : ByteArray) (c : Nat) (t : List UInt8) : Nat → List UInt8
  | 0 => []
  | n + 1 => stT key nonce c t n ++ [streamAt key nonce c t n]
theorem stT_length (key nonce : ByteArray) (c : Nat) (t : List UInt8) (n : Nat) : (stT key nonce c t n).length = n := by
  induction n with
  | zero => rfl
  | succ n ih => simp [stT, ih]
def chaFits (c : Int) (n : Nat) : Bool := decide (c + ((n + 63) / 64 : Nat) ≤ 4294967296)
def chaS (key : ByteArray) (c : Int) (nonce text : ByteArray) : List UInt8 :=
  if chaOk key c nonce && chaFits c text.size then stT key nonce c.toNat text.data.toList text.size else []
theorem chaS_length_le (key : ByteArray) (c : Int) (nonce text : ByteArray) : (chaS key c nonce text).length ≤ text.size := by
  unfold chaS; split
  · rw [stT_length]; exact Nat.le_refl _
  · exact Nat.zero_le _
/-- The row half way: n bytes of the stream, then the text's own. -/
def stMid (key nonce : ByteArray) (c : Nat) (t : List UInt8) (n : Nat) : List UInt8 := stT key nonce c t n ++ t.drop n
theorem stMid_zero (key nonce : ByteArray) (c : Nat) (t : List UInt8) : stMid key nonce c t 0 = t := rfl
theorem stMid_length (key nonce : ByteArray) (c : Nat) (t : List UInt8) {n : Nat} (h : n ≤ t.length) : (stMid key nonce c t n).length = t.length := by
  simp [stMid, stT_length]; omega
theorem stMid_full (key nonce : ByteArray) (c : Nat) (t : List UInt8) : stMid key nonce c t t.length = stT key nonce c t t.length := by
  simp [stMid]
theorem stMid_at (key nonce : ByteArray) (c : Nat) (t : List UInt8) {n : Nat} (h : n < t.length) : (stMid key nonce c t n)[n]? = some t[n] := by
  unfold stMid
  rw [List.getElem?_append_right (by rw [stT_length]; exact Nat.le_refl _), stT_length, Nat.sub_self]
  simp [h]
theorem stMid_step (key nonce : ByteArray) (c : Nat) (t : List UInt8) {n : Nat} (h : n < t.length) : (stMid key nonce c t n).set n (streamAt key nonce c t n) = stMid key nonce c t (n + 1) := by
  unfold stMid
  rw [List.set_append_right _ _ (by rw [stT_length]; exact Nat.le_refl _), stT_length, Nat.sub_self, List.drop_eq_getElem_cons h, List.set_cons_zero]
  simp [stT]
theorem streamAt_nat (key nonce text : ByteArray) (c i : Nat) (h : i < text.size) (blk : ByteArray) (hb : blk.data.toList = chaG key nonce (c + i / 64)) (h2 : i % 64 < blk.size) :
    (streamAt key nonce c text.data.toList i).toNat = text[i].toNat ^^^ blk[i % 64].toNat := by
  have hx : i < text.data.toList.length := by simpa using h
  have hy : i % 64 < blk.data.toList.length := by simpa using h2
  unfold streamAt
  rw [← hb, List.getElem?_eq_getElem hx, List.getElem?_eq_getElem hy, UInt8.toNat_xor]
  rfl
end Sp
theorem u8_xor (a b : Nat) (ha : a < 256) (hb : b < 256) : bits .xor .u8 (a : Int) (b : Int) = ((a ^^^ b : Nat) : Int) := by
  show IntKind.u8.wrap ((BitVec.ofInt 8 (a : Int) ^^^ BitVec.ofInt 8 (b : Int)).toNat : Int) = _
  have h : a ^^^ b < 2 ^ 8 := Nat.xor_lt_two_pow ha hb
  rw [BitVec.toNat_xor, BitVec.ofInt_natCast, BitVec.ofInt_natCast, BitVec.toNat_ofNat, BitVec.toNat_ofNat, IntKind.wrap_u8, Nat.mod_eq_of_lt (by omega), Nat.mod_eq_of_lt (by omega)]
  omega

/-- The block g begins with the bytes l; none of them is frozen. -/
def ByteRow (w : World) (g : Nat) (l : List UInt8) : Prop := ∃ (cur : Array Value) (e : TypeId), w.heap[g]? = some (.cells cur e (cur.size, cur.size + 1)) ∧ l.length ≤ cur.size ∧ cur.toList.take l.length = l.map B
theorem ByteRow.lt {w : World} {g : Nat} {l : List UInt8} (h : ByteRow w g l) : g < w.heap.size := by
  obtain ⟨cur, e, hg, _⟩ := h
  exact (Array.getElem?_eq_some_iff.1 hg).1
theorem ByteRow.new (w : World) (e : TypeId) (s : ByteArray) : ByteRow (Lib.bytesWorld w e s) w.heap.size s.data.toList := by
  refine ⟨_, _, Lib.bytesWorld_at_new w e s, by simp [Lib.bytesCells], ?_⟩
  have : (Lib.bytesCells w e s).toList = s.data.toList.map B ++ (Array.replicate (grownCap w s.size 0 e - s.size) (Value.int .u8 0)).toList := by
    simp only [Lib.bytesCells, Array.toList_append, Array.toList_map]; rfl
  rw [this, List.take_append_of_le_length (by simp), List.take_of_length_le (by simp)]
theorem ByteRow.cell {w : World} {g : Nat} {l : List UInt8} (h : ByteRow w g l) (i : Nat) (x : UInt8) (hx : l[i]? = some x) : w.cell? ⟨g, i, none⟩ = some (.int .u8 (x.toNat : Int)) := by
  obtain ⟨cur, e, hg, hl, ht⟩ := h
  have hi := (List.getElem?_eq_some_iff.1 hx).1
  have : (cur.toList.take l.length)[i]? = (l.map B)[i]? := by rw [ht]
  rw [List.getElem?_take, if_pos hi, List.getElem?_map, hx] at this
  simp only [World.cell?, hg]
  simpa [B] using this
theorem ByteRow.free {w : World} {g : Nat} {l : List UInt8} (h : ByteRow w g l) (i : Nat) (hi : i < l.length) : w.frozen? ⟨g, i, none⟩ = false := by
  obtain ⟨cur, e, hg, hl, ht⟩ := h
  simp only [World.frozen?, hg]
  simp; omega
theorem ByteRow.below {w w' : World} {g : Nat} {l : List UInt8} (h : ByteRow w g l) (hb : Below w.heap.size w w') : ByteRow w' g l := by
  have hlt := h.lt
  obtain ⟨cur, e, hg, hl, ht⟩ := h
  exact ⟨cur, e, (hb.block g hlt).trans hg, hl, ht⟩
theorem ByteRow.set {w : World} {g : Nat} {l : List UInt8} (h : ByteRow w g l) (i : Nat) (hi : i < l.length) (x : UInt8) : ByteRow (w.setCell ⟨g, i, none⟩ (.int .u8 (x.toNat : Int))) g (l.set i x) := by
  have hlt := h.lt
  obtain ⟨cur, e, hg, hl, ht⟩ := h
  obtain ⟨hlt', hge⟩ := Array.getElem?_eq_some_iff.1 hg
  refine ⟨cur.setIfInBounds i (.int .u8 (x.toNat : Int)), e, ?_, by simpa using hl, ?_⟩
  · simp only [World.setCell]
    rw [Array.getElem?_modify, if_pos rfl, hg]
    simp
  · rw [List.length_set, Array.toList_setIfInBounds, List.take_set, ht, List.map_set]; rfl
theorem ByteRow.conv {P : Program} {w : World} {g cap src dst e : Nat} {l : List UInt8} (h : ByteRow w g l) (n : Nat) (hn : n = l.length) (hs : P.underlying src = some (.slice e)) (he : P.underlying e = some (.int .u8)) (hd : P.underlying dst = some .string) :
    (convert src dst (.slice (some ⟨g, 0, none⟩) n cap)).run P w = .ok (.string (str l)) w := by
  subst hn
  refine run_convert_bytes_back w src dst e ⟨g, 0, none⟩ cap l hs he hd fun j hj => ?_
  rw [add_none, Nat.zero_add]
  have := h.cell j l[j] (by simp [hj])
  rw [this]
theorem below_bytes (w : World) (e : TypeId) (s : ByteArray) : Below w.heap.size w (Lib.bytesWorld w e s) :=
  ⟨rfl, rfl, rfl, by rw [Lib.bytesWorld_size]; omega, fun k hk => Lib.bytesWorld_at_old w e s k hk⟩
end Go.Proofs.Ytfbbdnicplbmdaa

/- Plain words of sixty-four signs: what the bytes' sextets are. No program in sight, no condition. -/
import Derived.Laws.BitsLemmas
import Derived.Lib.Bytealg
set_option linter.unusedVariables false
set_option linter.unusedSimpArgs false
set_option maxRecDepth 20000
namespace Go.Proofs.Ytekpdkjkkglcjaa.B64
def vol (l : List UInt8) : Nat := (l.getD 0 0).toNat * 65536 + (l.getD 1 0).toNat * 256 + (l.getD 2 0).toNat
def sxt (l : List UInt8) (k : Nat) : Nat := vol l / 64 ^ (3 - k) % 64
theorem byte_lt (l : List UInt8) (k : Nat) : (l.getD k 0).toNat < 256 := by have := (l.getD k 0).toNat_lt; omega
theorem sxt_lt (l : List UInt8) (k : Nat) : sxt l k < 64 := Nat.mod_lt _ (by decide)
theorem sxt0 (l : List UInt8) : ((l.getD 0 0).toNat : Int) / 4 = ((sxt l 0 : Nat) : Int) := by
  have := byte_lt l 0; have := byte_lt l 1; have := byte_lt l 2
  simp only [sxt, vol, Nat.reducePow, Nat.reduceSub]; omega
theorem sxt1 (l : List UInt8) : bits .or .u8 (((l.getD 0 0).toNat : Int) * 16 % 64) (((l.getD 1 0).toNat : Int) / 16) = ((sxt l 1 : Nat) : Int) := by
  have := byte_lt l 0; have := byte_lt l 1; have := byte_lt l 2
  rw [bits_join .u8 8 (by decide) wraps_u8 4 _ _ (by omega) (by omega) (by omega) (by omega) (by omega) (by omega)]
  simp only [sxt, vol, Nat.reducePow, Nat.reduceSub]; omega
theorem sxt2 (l : List UInt8) : bits .or .u8 (((l.getD 1 0).toNat : Int) * 4 % 64) (((l.getD 2 0).toNat : Int) / 64) = ((sxt l 2 : Nat) : Int) := by
  have := byte_lt l 0; have := byte_lt l 1; have := byte_lt l 2
  rw [bits_join .u8 8 (by decide) wraps_u8 2 _ _ (by omega) (by omega) (by omega) (by omega) (by omega) (by omega)]
  simp only [sxt, vol, Nat.reducePow, Nat.reduceSub]; omega
theorem sxt3 (l : List UInt8) : bits .and .u8 ((l.getD 2 0).toNat : Int) 63 = ((sxt l 3 : Nat) : Int) := by
  have := byte_lt l 0; have := byte_lt l 1; have := byte_lt l 2
  rw [u8_and63 _ (by omega) (by omega)]
  simp only [sxt, vol, Nat.reducePow, Nat.reduceSub]; omega
def signs : List UInt8 := [65, 66, 67, 68, 69, 70, 71, 72, 73, 74, 75, 76, 77, 78, 79, 80, 81, 82, 83, 84, 85, 86, 87, 88, 89, 90, 97, 98, 99, 100, 101, 102, 103, 104, 105, 106, 107, 108, 109, 110, 111, 112, 113, 114, 115, 116, 117, 118, 119, 120, 121, 122, 48, 49, 50, 51, 52, 53, 54, 55, 56, 57, 45, 95]
def sgn (k : Nat) : UInt8 := signs.getD k 0
def chunk (l : List UInt8) : List UInt8 := (List.range (l.length + 1)).map fun k => sgn (sxt l k)
def enc : List UInt8 → List UInt8
  | [] => []
  | [a] => chunk [a]
  | [a, b] => chunk [a, b]
  | a :: b :: c :: r => chunk [a, b, c] ++ enc r
theorem chunk_length (l : List UInt8) : (chunk l).length = l.length + 1 := by simp [chunk]
theorem enc_le : ∀ l : List UInt8, (enc l).length ≤ 2 * l.length
  | [] => by simp [enc]
  | [a] => by simp [enc, chunk]
  | [a, b] => by simp [enc, chunk]
  | a :: b :: c :: r => by have := enc_le r; simp [enc, chunk]; omega
theorem enc_append : ∀ (a b : List UInt8), a.length % 3 = 0 → enc (a ++ b) = enc a ++ enc b
  | [], b, _ => rfl
  | [_], _, h => by simp at h
  | [_, _], _, h => by simp at h
  | x :: y :: z :: r, b, h => by
    have ih := enc_append r b (by simp at h; omega)
    simp [enc, ih]
theorem enc_small (l : List UInt8) (h0 : l ≠ []) (h3 : l.length ≤ 3) : enc l = chunk l := by
  match l, h0, h3 with
  | [a], _, _ => rfl
  | [a, b], _, _ => rfl
  | [a, b, c], _, _ => simp [enc]
  | a :: b :: c :: d :: r, _, h => simp at h
def encTo (l : List UInt8) (k j : Nat) : List UInt8 := enc (l.take k) ++ (List.range j).map fun i => sgn (sxt ((l.drop k).take 3) i)
theorem encTo_zero (l : List UInt8) (k : Nat) : encTo l k 0 = enc (l.take k) := by simp [encTo]
theorem encTo_all (l : List UInt8) (k : Nat) (h : k = l.length) : encTo l k 0 = enc l := by subst h; simp [encTo]
theorem encTo_le (l : List UInt8) (k j : Nat) : (encTo l k j).length ≤ 2 * l.length + j := by
  have := enc_le (l.take k)
  simp only [encTo, List.length_append, List.length_map, List.length_range]
  have : (l.take k).length ≤ l.length := List.length_take_le' _ _
  omega
theorem encTo_succ (l : List UInt8) (k j : Nat) : encTo l k (j + 1) = encTo l k j ++ [sgn (sxt ((l.drop k).take 3) j)] := by
  simp [encTo, List.range_succ]
theorem encTo_next (l : List UInt8) (k n : Nat) (hk : k < l.length) (h3 : k = l.length ∨ k % 3 = 0) (hn : n = min 3 (l.length - k)) : encTo l k (n + 1) = encTo l (k + n) 0 := by
  have hn3 : n ≤ 3 := by omega
  have hnk : n ≤ l.length - k := by omega
  have hn0 : 0 < n := by omega
  have hk3 : k % 3 = 0 := by omega
  have e1 : l.take (k + n) = l.take k ++ (l.drop k).take n := List.take_add
  have hlen : ((l.drop k).take n).length = n := by rw [List.length_take, List.length_drop]; omega
  have htk : (l.take k).length = k := by rw [List.length_take]; omega
  have e2 : (l.drop k).take 3 = (l.drop k).take n := by
    rcases Nat.lt_or_ge 3 (l.length - k) with h | h
    · rw [show n = 3 by omega]
    · rw [List.take_of_length_le (by rw [List.length_drop]; omega), List.take_of_length_le (by rw [List.length_drop]; omega)]
  rw [encTo_zero, e1, enc_append _ _ (by rw [htk]; exact hk3), enc_small ((l.drop k).take n) (fun h => by rw [h] at hlen; simp at hlen; omega) (by rw [hlen]; exact hn3)]
  simp only [encTo, chunk, e2, hlen]
def thr (x0 x1 x2 x3 k : Nat) : Nat := (x0 * 262144 + x1 * 4096 + x2 * 64 + x3) / 256 ^ (2 - k) % 256
theorem thr0 (x0 x1 x2 x3 : Nat) (h0 : x0 < 64) (h1 : x1 < 64) (h2 : x2 < 64) (h3 : x3 < 64) : bits .or .u8 ((x0 : Int) * 4) ((x1 : Int) / 16) = ((thr x0 x1 x2 x3 0 : Nat) : Int) := by
  rw [bits_join .u8 8 (by decide) wraps_u8 2 _ _ (by omega) (by omega) (by omega) (by omega) (by omega) (by omega)]
  simp only [thr, Nat.reducePow, Nat.reduceSub]; omega
theorem thr1 (x0 x1 x2 x3 : Nat) (h1 : x1 < 64) (h2 : x2 < 64) (h3 : x3 < 64) : bits .or .u8 ((x1 : Int) * 16 % 256) ((x2 : Int) / 4) = ((thr x0 x1 x2 x3 1 : Nat) : Int) := by
  rw [bits_join .u8 8 (by decide) wraps_u8 4 _ _ (by omega) (by omega) (by omega) (by omega) (by omega) (by omega)]
  simp only [thr, Nat.reducePow, Nat.reduceSub]; omega
theorem thr2 (x0 x1 x2 x3 : Nat) (h2 : x2 < 64) (h3 : x3 < 64) : bits .or .u8 ((x2 : Int) * 64 % 256) (x3 : Int) = ((thr x0 x1 x2 x3 2 : Nat) : Int) := by
  rw [bits_join .u8 8 (by decide) wraps_u8 6 _ _ (by omega) (by omega) (by omega) (by omega) (by omega) (by omega)]
  simp only [thr, Nat.reducePow, Nat.reduceSub]; omega
theorem thr_lt (x0 x1 x2 x3 k : Nat) : thr x0 x1 x2 x3 k < 256 := Nat.mod_lt _ (by decide)
/-- the number of a sign, nought where it is none -/
def num (c : UInt8) : Nat := (Lib.indexByte signs c).toNat
def isSign (c : UInt8) : Bool := decide (0 ≤ Lib.indexByte signs c)
theorem index_lt (c : UInt8) : Lib.indexByte signs c < 64 := by
  have : ∀ c : Fin 256, Lib.indexByte signs (UInt8.ofNat c.val) < 64 := by decide +kernel
  have h := this ⟨c.toNat, c.toNat_lt⟩
  simpa using h
theorem num_lt (c : UInt8) : num c < 64 := by have := index_lt c; unfold num; omega
theorem num_sgn : ∀ k, k < 64 → num (sgn k) = k ∧ isSign (sgn k) = true := by decide +kernel
theorem sgn_num (c : UInt8) (h : isSign c = true) : sgn (num c) = c := by
  have : ∀ c : Fin 256, isSign (UInt8.ofNat c.val) = true → sgn (num (UInt8.ofNat c.val)) = UInt8.ofNat c.val := by decide +kernel
  have h' := this ⟨c.toNat, c.toNat_lt⟩
  simp at h'
  exact h' h
/-- the numbers of up to four signs -/
def nm (l : List UInt8) (k : Nat) : Nat := if k < l.length then num (l.getD k 0) else 0
def thrL (l : List UInt8) : List UInt8 := (List.range (l.length - 1)).map fun k => UInt8.ofNat (thr (nm l 0) (nm l 1) (nm l 2) (nm l 3) k)
def partOk (l : List UInt8) : Bool := l.all isSign && decide (1 < l.length) && decide (sxt (thrL l) 0 = nm l 0 ∧ sxt (thrL l) 1 = nm l 1 ∧ sxt (thrL l) 2 = nm l 2 ∧ sxt (thrL l) 3 = nm l 3)
theorem thrL_length (l : List UInt8) : (thrL l).length = l.length - 1 := by simp [thrL]
def dec : List UInt8 → Option (List UInt8)
  | [] => some []
  | [a] => if partOk [a] = true then some (thrL [a]) else none
  | [a, b] => if partOk [a, b] = true then some (thrL [a, b]) else none
  | [a, b, c] => if partOk [a, b, c] = true then some (thrL [a, b, c]) else none
  | a :: b :: c :: d :: r => if partOk [a, b, c, d] = true then (dec r).map (thrL [a, b, c, d] ++ ·) else none
theorem dec_step (t : List UInt8) (h : t ≠ []) : dec t = if partOk (t.take 4) = true then (dec (t.drop 4)).map (thrL (t.take 4) ++ ·) else none := by
  match t, h with
  | [a], _ => simp [dec]
  | [a, b], _ => simp [dec]
  | [a, b, c], _ => simp [dec]
  | a :: b :: c :: d :: r, _ => rw [dec]; rfl
end Go.Proofs.Ytekpdkjkkglcjaa.B64

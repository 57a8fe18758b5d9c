/- Marks: base64, Text, inner, Read. No condition of its own. -/
import Derived.Test.YtieppmppdmcleaaGreatDoorWk
import Derived.Deep.DeepCutAuto
set_option linter.unusedVariables false
set_option linter.unusedSimpArgs false
set_option maxRecDepth 20000
set_option maxHeartbeats 2000000
namespace Go.Proofs.YtieppmppdmcleaaGreatDoor
namespace K9
section
open Go.RowKit
def BytesIn (w : World) (A : Option Addr) (c : Nat) (l : List UInt8) : Prop :=
 l.length ≤ c ∧ c ≤ 9223372036854775807 ∧ Reads w w.heap.size 1 A l.length (Lib.byteCells l)
theorem BytesIn.below {w w' : World} {A : Option Addr} {c : Nat} {l : List UInt8} (h : BytesIn w A c l) (hb : Below w.heap.size w w') : BytesIn w' A c l :=
 ⟨h.1, h.2.1, (h.2.2.below hb).more hb.size⟩
theorem own_cap {w : World} {base : Nat} {e : TypeId} {size n c : Nat} {A : Option Addr} {xs : List Value} (h : w.ownsRow base e size (.slice A n c) n xs) : c ≤ 9223372036854775807 := by
 rcases h.2 with ⟨h, _⟩ | ⟨_, _, _, h, _, _, _, h2, _⟩
 ·
  injection h with _ _ h; omega
 ·
  injection h with _ _ h; subst h; simpa [maxLen] using h2
section
variable {P : Program} (w : World)
end
end
section
open Go.RowKit
theorem below_then {w0 w1 w2 : World} (h : Below w0.heap.size w0 w1) (k : Below w1.heap.size w1 w2) : Below w0.heap.size w0 w2 := h.trans (k.mono h.size)
def Keeps (W : World) (P : World → Prop) : Prop := ∀ W', Below W.heap.size W W' → P W'
section
variable {W W1 w : World} {P Q : World → Prop}
theorem Keeps.next (h : Keeps W P) (hb : Below W.heap.size W W1) (hq : Keeps W1 Q) : Keeps W1 (fun X => P X ∧ Q X) := fun W' hb' => ⟨h W' (below_then hb hb'), hq W' hb'⟩
theorem Keeps.and (h : Keeps W P) (hq : Keeps W Q) : Keeps W (fun X => P X ∧ Q X) := fun W' hb' => ⟨h W' hb', hq W' hb'⟩
theorem Keeps.on (h : Keeps W P) (hb : Below W.heap.size W W1) : Keeps W1 P := fun W' hb' => h W' (below_then hb hb')
theorem Keeps.alloc (h : Keeps W P) (o : Obj) : Keeps (W.alloc o) P := h.on ((Below.refl _ _).alloc (Nat.le_refl _) o)
theorem Keeps.drewN (h : Keeps W P) (n : Nat) : Keeps (W.drewN n) P := h.on (below_drewN (Below.refl _ _) n)
theorem Keeps.drew (h : Keeps W P) : Keeps W.drew P := h.on (Below.refl _ _).drew
theorem Keeps.mono (h : Keeps W P) (hpq : ∀ X, P X → Q X) : Keeps W Q := fun W' hb' => hpq W' (h W' hb')
end
theorem BytesIn.of_own {w : World} {base n c : Nat} {e : TypeId} {A : Option Addr} {l : List UInt8} (h : w.ownsRow base e 1 (.slice A n c) n (Lib.byteCells l)) : n = l.length ∧ BytesIn w A c l := by
 obtain ⟨A', c', e', hc, hr⟩ := own_reads h (Nat.le_refl _)
 injection e' with e1 _ e3
 subst e1 e3
 have hl := hr.get
 subst hl
 exact ⟨rfl, hc, own_cap h, hr⟩
section
variable {P : Program}
end
end
section
open Go.RowKit
section
variable {P : Program} {ops : Array Oper} {Q : Exit → Act → World → Prop} {md : Region.Mode} {S S' : World → Prop}
end
end
section
open Go.RowKit
def RRd (w : World) (g : Nat) (l : List UInt8) (p n : Nat) : Prop :=
 l.length ≤ 1000000 ∧ p ≤ l.length ∧ n ≤ 64 ∧ ∃ A c, l.length ≤ c ∧ c ≤ 9223372036854775807 ∧ Blk w g 148 #[.slice A l.length c, .int .i64 (p : Int), .int .i64 (64 - (n : Int)), .int .i64 0] ∧ Reads w g 1 A l.length (Lib.byteCells l)
def RErr (w : World) (g : Nat) (e : Int) : Prop := ∃ (v : Value) (a b : Int), Blk w g 148 #[v, .int .i64 a, .int .i64 b, .int .i64 e]
theorem RRd.lt {w : World} {g : Nat} {l : List UInt8} {p n : Nat} (h : RRd w g l p n) : g < w.heap.size := by
 obtain ⟨_, _, _, A, c, _, _, hb, _⟩ := h
 exact hb.lt
theorem RRd.grown {w w' : World} {g : Nat} {row : Option Nat} {l : List UInt8} {p n : Nat} (h : RRd w g l p n) (hb : w.grownBy w' row) (hr : ∀ q, row = some q → g < q) : RRd w' g l p n := by
 have hl := h.lt
 obtain ⟨h1, h2, h3, A, c, hc, hc2, hk, hd⟩ := h
 exact ⟨h1, h2, h3, A, c, hc, hc2, hk.grown hb (fun e => by have := hr g e.symm; omega), hd.grown hb (by omega) (fun q e => by have := hr q e; omega)⟩
theorem RErr.grown {w w' : World} {g : Nat} {row : Option Nat} {e : Int} (h : RErr w g e) (hb : w.grownBy w' row) (hr : ∀ q, row = some q → g < q) : RErr w' g e := by
 obtain ⟨v, a, b, hk⟩ := h
 exact ⟨v, a, b, hk.grown hb (fun e => by have := hr g e.symm; omega)⟩
end
section
open Go.RowKit
end
section
open Go.RowKit
def KidsSt (lo : Nat) (wr : World) (v : Value) (i : Nat) (ts : List Tm) (vs : List (List Value)) : Prop :=
 TmsV wr lo ts vs ∧ (i ≤ 1 → ∃ wk : World, TmsV wk lo ts vs ∧ wk.heap.size ≤ wr.heap.size ∧ (∀ p : Addr, p.block < wk.heap.size → lo ≤ p.block → wr.cell? p = wk.cell? p) ∧ (∀ gb, v.ownBlock = some gb → wk.heap.size ≤ gb)) ∧ (i = 0 → v.ownBlock = none)
theorem KidsSt.next {lo : Nat} {wr w5 w6 w' : World} {v v' : Value} {i g : Nat} {ts : List Tm} {vs : List (List Value)} {t : Tm} {cs : List Value} (h : KidsSt lo wr v i ts vs) (hi : i ≤ 1)
  (hg : wr.grownBy w5 (some g)) (hgl : g < lo) (hlo : lo ≤ wr.heap.size) (ht : TmV w5 wr.heap.size t cs) (h56 : Below w5.heap.size w5 w6) (hg6 : w6.grownBy w' v.ownBlock) (hat : v'.ownBlock = v.ownBlock ∨ v'.ownBlock = some w6.heap.size) (hlt : ∀ gb, v.ownBlock = some gb → gb < wr.heap.size) : KidsSt lo w' v' (i + 1) (ts ++ [t]) (vs ++ [cs]) := by
 obtain ⟨wk, h1, h2, h3, h4⟩ := h.2.1 hi
 have s5 := hg.size
 have s6 := h56.size
 have s7 := hg6.size
 have c65 : ∀ p : Addr, p.block < w5.heap.size → w6.cell? p = w5.cell? p := fun p hp => h56.cell hp
 have c76 : ∀ p : Addr, p.block < w6.heap.size → some p.block ≠ v.ownBlock → w'.cell? p = w6.cell? p := fun p hp hne => World.cell?_of_block (hg6.block _ hp hne)
 have c5r : ∀ p : Addr, p.block < wr.heap.size → lo ≤ p.block → w5.cell? p = wr.cell? p := fun p hp hl => World.cell?_of_block (hg.block _ hp (fun e => by injection e with e; omega))
 have ck : ∀ p : Addr, p.block < wk.heap.size → lo ≤ p.block → w'.cell? p = wk.cell? p := fun p hp hl =>
  (c76 p (by omega) (fun e => by have := h4 _ e.symm; omega)).trans ((c65 p (by omega)).trans ((c5r p (by omega) hl).trans (h3 p hp hl)))
 have k1 : TmsV w' lo ts vs := TmsV.keep ck (Nat.le_refl _) (by omega) ts vs h1
 have k2 : TmV w' lo t cs := TmV.keep (fun p hp hl => (c76 p (by omega) (fun e => by have := hlt _ e.symm; omega)).trans (c65 p hp)) hlo (by omega) t cs ht
 refine ⟨TmsV.snoc k2 k1, fun h01 => ?_, fun e => by omega⟩
 have hi0 : i = 0 := by omega
 have hv := h.2.2 hi0
 refine ⟨w5, ?_, by omega, fun p hp hl => (c76 p (by omega) (fun e => by rw [hv] at e; cases e)).trans (c65 p hp), fun gb e => ?_⟩
 ·
  exact TmsV.snoc (ht.low hlo) (TmsV.keep (fun p hp hl => (c5r p (by omega) hl).trans (h3 p hp hl)) (Nat.le_refl _) (by omega) ts vs h1)
 ·
  rcases hat with h | h
  ·
   rw [h, hv] at e; cases e
  ·
   rw [h] at e; injection e with e; omega
theorem RRd.fail {w : World} {g : Nat} {l : List UInt8} {p n : Nat} (h : RRd w g l p n) (e : Int) : RErr (w.setCell ⟨g, 3, none⟩ (.int .i64 e)) g e := by
 obtain ⟨_, _, _, A, c, _, _, hk, _⟩ := h
 exact ⟨_, _, _, hk.set_ 3 (.int .i64 e)⟩
theorem RErr.drewN {w : World} {g : Nat} {e : Int} (h : RErr w g e) (q : Nat) : RErr (w.drewN q) g e := h
theorem RRd.drewN {w : World} {g : Nat} {l : List UInt8} {p n : Nat} (h : RRd w g l p n) (q : Nat) : RRd (w.drewN q) g l p n := h
end
section
open Go.RowKit
end
namespace B64
def vol (l : List UInt8) : Nat := (l.getD 0 0).toNat * 65536 + (l.getD 1 0).toNat * 256 + (l.getD 2 0).toNat
def sxt (l : List UInt8) (k : Nat) : Nat := vol l / 64 ^ (3 - k) % 64
theorem byte_lt (l : List UInt8) (k : Nat) : (l.getD k 0).toNat < 256 := by have := (l.getD k 0).toNat_lt; omega
theorem sxt_lt (l : List UInt8) (k : Nat) : sxt l k < 64 := Nat.mod_lt _ (by decide)
theorem sxt0 (l : List UInt8) : ((l.getD 0 0).toNat : Int) / 4 = ((sxt l 0 : Nat) : Int) := by
 have := byte_lt l 0; have := byte_lt l 1; have := byte_lt l 2
 simp only [sxt, vol, Nat.reducePow, Nat.reduceSub]; omega
theorem sxt1 (l : List UInt8) : bits .or .u8 (((l.getD 0 0).toNat : Int) * 16 % 64) (((l.getD 1 0).toNat : Int) / 16) = ((sxt l 1 : Nat) : Int) := by
 have := byte_lt l 0; have := byte_lt l 1; have := byte_lt l 2
 rw [bits_join .u8 8 (by decide) wraps_u8 4 _ _ (by omega) (by omega) (by omega) (by omega) (by omega) (by omega)]
 simp only [sxt, vol, Nat.reducePow, Nat.reduceSub]; omega
theorem sxt2 (l : List UInt8) : bits .or .u8 (((l.getD 1 0).toNat : Int) * 4 % 64) (((l.getD 2 0).toNat : Int) / 64) = ((sxt l 2 : Nat) : Int) := by
 have := byte_lt l 0; have := byte_lt l 1; have := byte_lt l 2
 rw [bits_join .u8 8 (by decide) wraps_u8 2 _ _ (by omega) (by omega) (by omega) (by omega) (by omega) (by omega)]
 simp only [sxt, vol, Nat.reducePow, Nat.reduceSub]; omega
theorem sxt3 (l : List UInt8) : bits .and .u8 ((l.getD 2 0).toNat : Int) 63 = ((sxt l 3 : Nat) : Int) := by
 have := byte_lt l 0; have := byte_lt l 1; have := byte_lt l 2
 rw [u8_and63 _ (by omega) (by omega)]
 simp only [sxt, vol, Nat.reducePow, Nat.reduceSub]; omega
def signs : List UInt8 := [65, 66, 67, 68, 69, 70, 71, 72, 73, 74, 75, 76, 77, 78, 79, 80, 81, 82, 83, 84, 85, 86, 87, 88, 89, 90, 97, 98, 99, 100, 101, 102, 103, 104, 105, 106, 107, 108, 109, 110, 111, 112, 113, 114, 115, 116, 117, 118, 119, 120, 121, 122, 48, 49, 50, 51, 52, 53, 54, 55, 56, 57, 45, 95]
def sgn (k : Nat) : UInt8 := signs.getD k 0
def chunk (l : List UInt8) : List UInt8 := (List.range (l.length + 1)).map fun k => sgn (sxt l k)
def enc : List UInt8 → List UInt8
 | [] => []
 | [a] => chunk [a]
 | [a, b] => chunk [a, b]
 | a :: b :: c :: r => chunk [a, b, c] ++ enc r
theorem chunk_length (l : List UInt8) : (chunk l).length = l.length + 1 := by simp [chunk]
theorem enc_le : ∀ l : List UInt8, (enc l).length ≤ 2 * l.length
 | [] => by simp [enc]
 | [a] => by simp [enc, chunk]
 | [a, b] => by simp [enc, chunk]
 | a :: b :: c :: r => by have := enc_le r; simp [enc, chunk]; omega
theorem enc_append : ∀ (a b : List UInt8), a.length % 3 = 0 → enc (a ++ b) = enc a ++ enc b
 | [], b, _ => rfl
 | [_], _, h => by simp at h
 | [_, _], _, h => by simp at h
 | x :: y :: z :: r, b, h => by
  have ih := enc_append r b (by simp at h; omega)
  simp [enc, ih]
theorem enc_small (l : List UInt8) (h0 : l ≠ []) (h3 : l.length ≤ 3) : enc l = chunk l := by
 match l, h0, h3 with
 | [a], _, _ => rfl
 | [a, b], _, _ => rfl
 | [a, b, c], _, _ => simp [enc]
 | a :: b :: c :: d :: r, _, h => simp at h
def encTo (l : List UInt8) (k j : Nat) : List UInt8 := enc (l.take k) ++ (List.range j).map fun i => sgn (sxt ((l.drop k).take 3) i)
theorem encTo_zero (l : List UInt8) (k : Nat) : encTo l k 0 = enc (l.take k) := by simp [encTo]
theorem encTo_all (l : List UInt8) (k : Nat) (h : k = l.length) : encTo l k 0 = enc l := by subst h; simp [encTo]
theorem encTo_le (l : List UInt8) (k j : Nat) : (encTo l k j).length ≤ 2 * l.length + j := by
 have := enc_le (l.take k)
 simp only [encTo, List.length_append, List.length_map, List.length_range]
 have : (l.take k).length ≤ l.length := List.length_take_le' _ _
 omega
theorem encTo_succ (l : List UInt8) (k j : Nat) : encTo l k (j + 1) = encTo l k j ++ [sgn (sxt ((l.drop k).take 3) j)] := by
 simp [encTo, List.range_succ]
theorem encTo_next (l : List UInt8) (k n : Nat) (hk : k < l.length) (h3 : k = l.length ∨ k % 3 = 0) (hn : n = min 3 (l.length - k)) : encTo l k (n + 1) = encTo l (k + n) 0 := by
 have hn3 : n ≤ 3 := by omega
 have hnk : n ≤ l.length - k := by omega
 have hn0 : 0 < n := by omega
 have hk3 : k % 3 = 0 := by omega
 have e1 : l.take (k + n) = l.take k ++ (l.drop k).take n := List.take_add
 have hlen : ((l.drop k).take n).length = n := by rw [List.length_take, List.length_drop]; omega
 have htk : (l.take k).length = k := by rw [List.length_take]; omega
 have e2 : (l.drop k).take 3 = (l.drop k).take n := by
  rcases Nat.lt_or_ge 3 (l.length - k) with h | h
  ·
   rw [show n = 3 by omega]
  ·
   rw [List.take_of_length_le (by rw [List.length_drop]; omega), List.take_of_length_le (by rw [List.length_drop]; omega)]
 rw [encTo_zero, e1, enc_append _ _ (by rw [htk]; exact hk3), enc_small ((l.drop k).take n) (fun h => by rw [h] at hlen; simp at hlen; omega) (by rw [hlen]; exact hn3)]
 simp only [encTo, chunk, e2, hlen]
def thr (x0 x1 x2 x3 k : Nat) : Nat := (x0 * 262144 + x1 * 4096 + x2 * 64 + x3) / 256 ^ (2 - k) % 256
theorem thr0 (x0 x1 x2 x3 : Nat) (h0 : x0 < 64) (h1 : x1 < 64) (h2 : x2 < 64) (h3 : x3 < 64) : bits .or .u8 ((x0 : Int) * 4) ((x1 : Int) / 16) = ((thr x0 x1 x2 x3 0 : Nat) : Int) := by
 rw [bits_join .u8 8 (by decide) wraps_u8 2 _ _ (by omega) (by omega) (by omega) (by omega) (by omega) (by omega)]
 simp only [thr, Nat.reducePow, Nat.reduceSub]; omega
theorem thr1 (x0 x1 x2 x3 : Nat) (h1 : x1 < 64) (h2 : x2 < 64) (h3 : x3 < 64) : bits .or .u8 ((x1 : Int) * 16 % 256) ((x2 : Int) / 4) = ((thr x0 x1 x2 x3 1 : Nat) : Int) := by
 rw [bits_join .u8 8 (by decide) wraps_u8 4 _ _ (by omega) (by omega) (by omega) (by omega) (by omega) (by omega)]
 simp only [thr, Nat.reducePow, Nat.reduceSub]; omega
theorem thr2 (x0 x1 x2 x3 : Nat) (h2 : x2 < 64) (h3 : x3 < 64) : bits .or .u8 ((x2 : Int) * 64 % 256) (x3 : Int) = ((thr x0 x1 x2 x3 2 : Nat) : Int) := by
 rw [bits_join .u8 8 (by decide) wraps_u8 6 _ _ (by omega) (by omega) (by omega) (by omega) (by omega) (by omega)]
 simp only [thr, Nat.reducePow, Nat.reduceSub]; omega
theorem thr_lt (x0 x1 x2 x3 k : Nat) : thr x0 x1 x2 x3 k < 256 := Nat.mod_lt _ (by decide)
def num (c : UInt8) : Nat := (Lib.indexByte signs c).toNat
def isSign (c : UInt8) : Bool := decide (0 ≤ Lib.indexByte signs c)
theorem index_lt (c : UInt8) : Lib.indexByte signs c < 64 := by
 have : ∀ c : Fin 256, Lib.indexByte signs (UInt8.ofNat c.val) < 64 := by decide +kernel
 have h := this ⟨c.toNat, c.toNat_lt⟩
 simpa using h
theorem num_lt (c : UInt8) : num c < 64 := by have := index_lt c; unfold num; omega
theorem num_sgn : ∀ k, k < 64 → num (sgn k) = k ∧ isSign (sgn k) = true := by decide +kernel
theorem sgn_num (c : UInt8) (h : isSign c = true) : sgn (num c) = c := by
 have : ∀ c : Fin 256, isSign (UInt8.ofNat c.val) = true → sgn (num (UInt8.ofNat c.val)) = UInt8.ofNat c.val := by decide +kernel
 have h' := this ⟨c.toNat, c.toNat_lt⟩
 simp at h'
 exact h' h
def nm (l : List UInt8) (k : Nat) : Nat := if k < l.length then num (l.getD k 0) else 0
def thrL (l : List UInt8) : List UInt8 := (List.range (l.length - 1)).map fun k => UInt8.ofNat (thr (nm l 0) (nm l 1) (nm l 2) (nm l 3) k)
def partOk (l : List UInt8) : Bool := l.all isSign && decide (1 < l.length) && decide (sxt (thrL l) 0 = nm l 0 ∧ sxt (thrL l) 1 = nm l 1 ∧ sxt (thrL l) 2 = nm l 2 ∧ sxt (thrL l) 3 = nm l 3)
theorem thrL_length (l : List UInt8) : (thrL l).length = l.length - 1 := by simp [thrL]
def dec : List UInt8 → Option (List UInt8)
 | [] => some []
 | [a] => if partOk [a] = true then some (thrL [a]) else none
 | [a, b] => if partOk [a, b] = true then some (thrL [a, b]) else none
 | [a, b, c] => if partOk [a, b, c] = true then some (thrL [a, b, c]) else none
 | a :: b :: c :: d :: r => if partOk [a, b, c, d] = true then (dec r).map (thrL [a, b, c, d] ++ ·) else none
theorem dec_step (t : List UInt8) (h : t ≠ []) : dec t = if partOk (t.take 4) = true then (dec (t.drop 4)).map (thrL (t.take 4) ++ ·) else none := by
 match t, h with
 | [a], _ => simp [dec]
 | [a, b], _ => simp [dec]
 | [a, b, c], _ => simp [dec]
 | a :: b :: c :: d :: r, _ => rw [dec]; rfl
end B64
namespace B64
theorem index_at : ∀ (l : List UInt8) (c : UInt8) (i : Nat), i < l.length → l.getD i 0 = c → (∀ j, j < i → l.getD j 0 ≠ c) → Lib.indexByte l c = i
 | [], _, i, h, _, _ => by simp at h
 | b :: l, c, 0, _, h, _ => by simp at h; simp [Lib.indexByte, h]
 | b :: l, c, i + 1, h, h1, h2 => by
  have hb : (b == c) = false := by have := h2 0 (by omega); simpa using this
  have ih := index_at l c i (by simpa using h) (by simpa using h1) (fun j hj => by have := h2 (j + 1) (by omega); simpa using this)
  rw [Lib.indexByte, hb, ih]
  simp
theorem index_none : ∀ (l : List UInt8) (c : UInt8), (∀ j, j < l.length → l.getD j 0 ≠ c) → Lib.indexByte l c = -1
 | [], _, _ => rfl
 | b :: l, c, h => by
  have hb : (b == c) = false := by have := h 0 (by simp); simpa using this
  have ih := index_none l c (fun j hj => by have := h (j + 1) (by simpa using hj); simpa using this)
  rw [Lib.indexByte, hb, ih]
  simp
def volTo (l : List UInt8) : Nat → Nat
 | 0 => 0
 | k + 1 => volTo l k * 256 + (l.getD k 0).toNat
theorem volTo_lt (l : List UInt8) : ∀ k, volTo l k < 256 ^ k
 | 0 => by simp [volTo]
 | k + 1 => by
  have := volTo_lt l k
  have := byte_lt l k
  rw [volTo, Nat.pow_succ]
  omega
theorem volTo_three (l : List UInt8) : volTo l 3 = vol l := by simp only [volTo, vol]; omega
theorem vol_take (l : List UInt8) : vol (l.take 3) = vol l := by
 match l with
 | [] => rfl
 | [a] => rfl
 | [a, b] => rfl
 | a :: b :: c :: r => rfl
theorem sxt_take (l : List UInt8) (k : Nat) : sxt (l.take 3) k = sxt l k := by rw [sxt, vol_take, sxt]
theorem encTo_more (l : List UInt8) (k n : Nat) (hk : k < l.length) (hn : n = min 3 (l.length - k)) : encTo l (k + n) 0 = encTo l (k + 3) 0 := by
 rw [encTo_zero, encTo_zero]
 rcases Nat.lt_or_ge (l.length - k) 3 with h | h
 ·
  rw [List.take_of_length_le (by omega), List.take_of_length_le (by omega)]
 ·
  rw [show n = 3 by omega]
def sxv (v k : Nat) : Nat := v / 64 ^ (3 - k) % 64
theorem sxv_vol (l : List UInt8) (k : Nat) : sxv (volTo l 3) k = sxt (l.take 3) k := by rw [volTo_three, sxt_take]; rfl
theorem and63 (x : Nat) (h : x < 4611686018427387904) : bits .and .i64 (x : Int) 63 = ((x % 64 : Nat) : Int) := by
 have := bits_mask .i64 62 (by decide) (fun n h0 h1 => by rw [IntKind.wrap_i64]; have : (2:Int)^62 = 4611686018427387904 := (by decide); omega) 6 (by decide) (x : Int) (by omega) (by have : (2:Int)^62 = 4611686018427387904 := (by decide); omega)
 simpa using this
theorem shr_and (v j : Nat) (hj : j ≤ 3) (hv : v < 16777216) : bits .and .i64 ((v : Int) / 2 ^ (18 - 6 * j)) 63 = ((sxv v j : Nat) : Int) := by
 have e : (v : Int) / 2 ^ (18 - 6 * j) = ((v / 64 ^ (3 - j) : Nat) : Int) := by
  rw [show (64 : Nat) = 2 ^ 6 from rfl, ← Nat.pow_mul, show 6 * (3 - j) = 18 - 6 * j by omega]
  simp
 have : v / 64 ^ (3 - j) ≤ v := Nat.div_le_self _ _
 rw [e, and63 _ (by omega)]
 rfl
theorem and_mask (x i : Nat) (hi : i ≤ 62) (h : x < 4611686018427387904) : bits .and .i64 (x : Int) ((2 : Int) ^ i - 1) = ((x % 2 ^ i : Nat) : Int) := by
 have := bits_mask .i64 62 (by decide) (fun n h0 h1 => by
  rw [IntKind.wrap_i64]
  have : (2:Int)^62 = 4611686018427387904 := by decide
  omega) i hi (x : Int) (by omega) (by
  have : (2:Int)^62 = 4611686018427387904 := by decide
  omega)
 simpa using this
theorem and0 (x : Nat) (h : x < 4611686018427387904) : bits .and .i64 (x : Int) 0 = ((0 : Nat) : Int) := by
 have := and_mask x 0 (by decide) h
 simpa [Nat.mod_one] using this
theorem and3 (x : Nat) (h : x < 4611686018427387904) : bits .and .i64 (x : Int) 3 = ((x % 4 : Nat) : Int) := and_mask x 2 (by decide) h
theorem and15 (x : Nat) (h : x < 4611686018427387904) : bits .and .i64 (x : Int) 15 = ((x % 16 : Nat) : Int) := and_mask x 4 (by decide) h
structure RS where
 out : List UInt8
 v : Nat
 bits : Nat
def rstep (s : RS) (c : UInt8) : RS :=
 if s.bits + 6 ≥ 8 then ⟨s.out ++ [UInt8.ofNat ((s.v * 64 + num c) / 2 ^ (s.bits - 2))], (s.v * 64 + num c) % 2 ^ (s.bits - 2), s.bits - 2⟩
 else ⟨s.out, s.v * 64 + num c, s.bits + 6⟩
def rst (l : List UInt8) : RS := l.foldl rstep ⟨[], 0, 0⟩
def RS.ok (s : RS) : Prop := s.v < 2 ^ s.bits ∧ (s.bits = 0 ∨ s.bits = 2 ∨ s.bits = 4 ∨ s.bits = 6)
theorem rstep_ok {s : RS} (h : s.ok) (c : UInt8) : (rstep s c).ok := by
 have hn := num_lt c
 obtain ⟨o, v, b⟩ := s
 obtain ⟨h1, h2⟩ := h
 simp only at h1 h2
 rcases h2 with rfl | rfl | rfl | rfl
 ·
  simp [rstep, RS.ok]; omega
 ·
  simp [rstep, RS.ok, Nat.mod_one]
 ·
  simp [rstep, RS.ok]; omega
 ·
  simp [rstep, RS.ok]; omega
theorem rst_ok (l : List UInt8) : (rst l).ok := by
 have : ∀ (l : List UInt8) (s : RS), s.ok → (l.foldl rstep s).ok := by
  intro l
  induction l with
  | nil => exact fun s h => h
  | cons c l ih => exact fun s h => ih _ (rstep_ok h c)
 exact this l _ ⟨by decide, .inl rfl⟩
theorem rst_snoc (l : List UInt8) (c : UInt8) : rst (l ++ [c]) = rstep (rst l) c := by simp [rst]
theorem rst_le (l : List UInt8) : (rst l).out.length ≤ l.length := by
 have : ∀ (l : List UInt8) (s : RS), (l.foldl rstep s).out.length ≤ s.out.length + l.length := by
  intro l
  induction l with
  | nil => exact fun s => by simp
  | cons c l ih =>
   intro s
   have := ih (rstep s c)
   have h2 : (rstep s c).out.length ≤ s.out.length + 1 := by unfold rstep; split <;> simp
   simp only [List.foldl_cons, List.length_cons]
   omega
 simpa [rst] using this l ⟨[], 0, 0⟩
def rdec (l : List UInt8) : Option (List UInt8) := if l.all isSign = true ∧ enc (rst l).out = l then some (rst l).out else none
theorem sxv_lt (v k : Nat) : sxv v k < 64 := Nat.mod_lt _ (by decide)
end B64
section
open Go.RowKit
theorem info5 : (Tryz.prog.info? 5).map (fun i => (i.zero, i.size, i.bytes)) = some (some (.int .u8 0), 1, 1) := by kernel_rfl

theorem four_walk (A : Option Addr) (m c : Nat) (l : List UInt8) (w : World) (hr : Reads w w.heap.size 1 A m (Lib.byteCells l)) (hm : m ≤ 3) :
  Calls Tryz.prog 90 #[.slice A m c] w fun e w' => e = .returned (.agg #[.int .u8 (B64.sxt l 0 : Nat), .int .u8 (B64.sxt l 1 : Nat), .int .u8 (B64.sxt l 2 : Nat), .int .u8 (B64.sxt l 3 : Nat)]) ∧ Below w.heap.size w w' := by
 have hl := hr.get
 go_enter Tryz.func90, Tryz.ntmps90
 go_wp2_with (with_reducible refine wpList_copy_splice rfl (.tmp 4) (.tmp 5) 31 31 rfl 5 Tryz.underlying31 (by kernel_rfl) _ _ _ _ _ _ rfl rfl (w.heap.size+1) 0 [.int .u8 0, .int .u8 0, .int .u8 0] 134 ?heap (Lib.byteCells l) ?hn ?hpos ?hfit ?h1 (w.heap.size+1) (w.alloc (.cells #[.int .u8 0, .int .u8 0, .int .u8 0, .int .u8 0] 121)) ?hb ?hB ?_)
 case heap => exact (by simp : (w.alloc (.cells #[.int .u8 0, .int .u8 0, .int .u8 0, .int .u8 0] 121)).heap.size = w.heap.size + 1) ▸ heap_alloc_new _ _
 case hn => rw [hr.1]; simp [Nat.min_def]; omega
 case hpos =>
  intro h0
  obtain ⟨ad, rfl, hb, hc⟩ := ((hr.alloc (Nat.le_refl _) _).alloc (by simp) _).2 (by have := hr.1; omega)
  exact ⟨ad, rfl, hc⟩
 case hfit => have := hr.1; simp at this ⊢; omega
 case h1 => exact Lib.byteCells_one l
 case hb => exact (Below.refl _ _).alloc (by simp) _
 case hB => exact Nat.le_refl _
 intro w1 hw1 hb1
 have key : Blk w1 (w.heap.size + 1) 134 #[.int .u8 ((l.getD 0 0).toNat : Int), .int .u8 ((l.getD 1 0).toNat : Int), .int .u8 ((l.getD 2 0).toNat : Int)] := by
  have h := hw1.out
  match l, hl with
  | [], _ => exact h
  | [a], _ => exact h
  | [a, b], _ => exact h
  | [a, b, d], _ => exact h
  | a :: b :: d :: e :: r, hl => simp at hl; omega
 have c0 := key.cell 0
 have c1 := key.cell 1
 have c2 := key.cell 2
 have r0 : Blk w1 w.heap.size 121 #[.int .u8 0, .int .u8 0, .int .u8 0, .int .u8 0] := (hb1.block _ (by simp)).trans (heap_alloc_new w _)
 have d0 := r0.cell 0
 have d1 := r0.cell 1
 have d2 := r0.cell 2
 have d3 := r0.cell 3
 have f0 := r0.frozen 0
 have f1 := r0.frozen 1
 have f2 := r0.frozen 2
 have f3 := r0.frozen 3
 clear hw1
 have hB0 : Below w.heap.size w w1 := ((Below.refl _ _).alloc (Nat.le_refl _) _).trans (hb1.mono (by omega))
 clear hb1 key r0 hr
 simp only [List.getElem?_toArray, List.getElem?_cons_zero, List.getElem?_cons_succ] at c0 c1 c2 d0 d1 d2 d3
 go_wp2
 simp only [← List.getD_eq_getElem?_getD, B64.sxt0, B64.sxt1, B64.sxt2, B64.sxt3]
 refine bodyPost_ret (v := .agg #[.int .u8 (B64.sxt l 0 : Nat), .int .u8 (B64.sxt l 1 : Nat), .int .u8 (B64.sxt l 2 : Nat), .int .u8 (B64.sxt l 3 : Nat)]) (by simp [results, Tryz.results90, go_sem, d0, d1, d2, d3]) rfl ⟨rfl, ?_⟩
 exact (((hB0.setCell (by simp) _).setCell (by simp) _).setCell (by simp) _).setCell (by simp) _
end
section
open Go.RowKit B64
theorem sl38 (n : Nat) (hn : n ≤ 3) (a : Addr) (w : World) : (Instr.sliceAt 121 (.pointer (some a)) none (some (.int .i64 ((n : Int) + 1))) none).run Tryz.prog w = .ok (.slice (some a) (n + 1) 4) w := by
 have al38 : Tryz.prog.arrayLen 121 = 4 := by kernel_rfl
 rw [run_sliceAt_array_h w 121 a Tryz.underlying121 .i64 _ (by omega) (by rw [al38]; omega)]
 have : ((sizeOf (Tryz.prog.elem 121)).run Tryz.prog w) = .ok 1 w := by kernel_rfl
 rw [this, al38]
 simp [Result.andThen, slicedAt, Addr.add]
theorem sign_at (q : Nat) (hq : q < 64) (w : World) : (Instr.index 9 (.string ⟨#[65, 66, 67, 68, 69, 70, 71, 72, 73, 74, 75, 76, 77, 78, 79, 80, 81, 82, 83, 84, 85, 86, 87, 88, 89, 90, 97, 98, 99, 100, 101, 102, 103, 104, 105, 106, 107, 108, 109, 110, 111, 112, 113, 114, 115, 116, 117, 118, 119, 120, 121, 122, 48, 49, 50, 51, 52, 53, 54, 55, 56, 57, 45, 95]⟩) (.int .u8 (q : Int))).run Tryz.prog w = .ok (.int .u8 ((sgn q).toNat : Int)) w := by
 have key : ∀ q : Fin 64, (ByteArray.mk #[65, 66, 67, 68, 69, 70, 71, 72, 73, 74, 75, 76, 77, 78, 79, 80, 81, 82, 83, 84, 85, 86, 87, 88, 89, 90, 97, 98, 99, 100, 101, 102, 103, 104, 105, 106, 107, 108, 109, 110, 111, 112, 113, 114, 115, 116, 117, 118, 119, 120, 121, 122, 48, 49, 50, 51, 52, 53, 54, 55, 56, 57, 45, 95])[q.val]'(by have := q.isLt; exact this) = sgn q.val := by decide
 rw [run_index_string w 9 _ .u8 _ Tryz.underlying9, dif_pos ⟨by omega, by have : (ByteArray.mk #[65, 66, 67, 68, 69, 70, 71, 72, 73, 74, 75, 76, 77, 78, 79, 80, 81, 82, 83, 84, 85, 86, 87, 88, 89, 90, 97, 98, 99, 100, 101, 102, 103, 104, 105, 106, 107, 108, 109, 110, 111, 112, 113, 114, 115, 116, 117, 118, 119, 120, 121, 122, 48, 49, 50, 51, 52, 53, 54, 55, 56, 57, 45, 95]).size = 64 := rfl; omega⟩]
 have := key ⟨q, hq⟩
 simp only [Int.toNat_natCast]
 rw [this]
theorem sign_ix (q : Nat) (hq : q < 64) (w : World) : (Instr.index 9 (.string ⟨#[65, 66, 67, 68, 69, 70, 71, 72, 73, 74, 75, 76, 77, 78, 79, 80, 81, 82, 83, 84, 85, 86, 87, 88, 89, 90, 97, 98, 99, 100, 101, 102, 103, 104, 105, 106, 107, 108, 109, 110, 111, 112, 113, 114, 115, 116, 117, 118, 119, 120, 121, 122, 48, 49, 50, 51, 52, 53, 54, 55, 56, 57, 45, 95]⟩) (.int .i64 (q : Int))).run Tryz.prog w = .ok (.int .u8 ((sgn q).toNat : Int)) w := by
 have key : ∀ q : Fin 64, (ByteArray.mk #[65, 66, 67, 68, 69, 70, 71, 72, 73, 74, 75, 76, 77, 78, 79, 80, 81, 82, 83, 84, 85, 86, 87, 88, 89, 90, 97, 98, 99, 100, 101, 102, 103, 104, 105, 106, 107, 108, 109, 110, 111, 112, 113, 114, 115, 116, 117, 118, 119, 120, 121, 122, 48, 49, 50, 51, 52, 53, 54, 55, 56, 57, 45, 95])[q.val]'(by have := q.isLt; exact this) = sgn q.val := by decide
 rw [run_index_string w 9 _ .i64 _ Tryz.underlying9, dif_pos ⟨by omega, by have : (ByteArray.mk #[65, 66, 67, 68, 69, 70, 71, 72, 73, 74, 75, 76, 77, 78, 79, 80, 81, 82, 83, 84, 85, 86, 87, 88, 89, 90, 97, 98, 99, 100, 101, 102, 103, 104, 105, 106, 107, 108, 109, 110, 111, 112, 113, 114, 115, 116, 117, 118, 119, 120, 121, 122, 48, 49, 50, 51, 52, 53, 54, 55, 56, 57, 45, 95]).size = 64 := rfl; omega⟩]
 have := key ⟨q, hq⟩
 simp only [Int.toNat_natCast]
 rw [this]
theorem enc_walk (A : Option Addr) (m c : Nat) (l : List UInt8) (w : World) (hr : Reads w w.heap.size 1 A m (Lib.byteCells l)) (hm : m ≤ 1000000) (hc : m ≤ c) :
  Calls Tryz.prog 57 #[.slice A m c] w fun e w' => e = .returned (.string ⟨(enc l).toArray⟩) ∧ Below w.heap.size w w' := by
 have hl := hr.get
 go_enter Tryz.func57, Tryz.ntmps57
 go_wp2_with fail
 go_loopw [0] (fun b wr => ∃ (k : Nat) (A' : Option Addr) (c' : Nat), k ≤ m ∧ m - k ≤ c' ∧ b = .slice A' (m - k) c' ∧ Reads w w.heap.size 1 A' (m - k) (Lib.byteCells (l.drop k)) ∧ (k = m ∨ k % 3 = 0) ∧ Lib.IsBuilderF 111 5 w.heap.size w.heap.size (Lib.byteCells (encTo l k 0)) wr ∧ Below w.heap.size w wr) (fun b wr => vLen b)
 case atStart => exact ⟨0, A, c, by omega, by omega, rfl, hr, by omega, builder_new 111 5 w, (Below.refl _ _).alloc (Nat.le_refl _) _⟩
 case round =>
  obtain ⟨k, A', c', hk, hc', rfl, hr', hk3, hb, hbl⟩ := hrel
  have HK3 : Hid (k = m ∨ k % 3 = 0) := hk3
  clear hk3
  by_cases h : m - k = 0
  ·
   go_wp2_with fail
   have e := encTo_all l k (by omega)
   rw [e] at hb
   refine (Tryz.Builder_String_any_k w.heap.size w.heap.size (enc l) wr hb hbl.size).mono ?_
   rintro e w1 ⟨rfl, hb1, hbl1, _⟩
   go_wp2_with fail
   go_ret
   exact ⟨rfl, hbl.trans hbl1⟩
  ·
   obtain ⟨n, hn, hn1, hn3, hnk, hn4⟩ : ∃ n : Nat, (min 3 ((m - k : Nat) : Int) = (n : Int)) ∧ 1 ≤ n ∧ n ≤ 3 ∧ n ≤ m - k ∧ Hid (n = min 3 (m - k)) := ⟨min 3 (m - k), by omega, by omega, by omega, by omega, rfl⟩
   have hsl := sl38 n hn3
   go_wp2_with fail
   have hf := four_walk A' n n ((l.drop k).take 3) wr (by
    have h1 := hr'.below hbl
    have h2 := hr'.get
    have e : (l.drop k).take 3 = (l.drop k).take n := by
     have := hn4.out
     rcases Nat.lt_or_ge 3 (m - k) with h | h
     ·
      rw [show n = 3 by omega]
     ·
      rw [List.take_of_length_le (by rw [h2]; omega), List.take_of_length_le (by rw [h2]; omega)]
    rw [e]
    exact (h1.frontB hnk).more hbl.size) hn3
   refine hf.mono ?_
   rintro e w1 ⟨rfl, hb1⟩
   clear hf
   go_wp2_with fail
   have hb2 := IsBuilderF.below (IsBuilderF.below hb hb1) ((Below.refl _ _).alloc (Nat.le_refl _) (.cells #[.int .u8 (B64.sxt ((l.drop k).take 3) 0 : Nat), .int .u8 (B64.sxt ((l.drop k).take 3) 1 : Nat), .int .u8 (B64.sxt ((l.drop k).take 3) 2 : Nat), .int .u8 (B64.sxt ((l.drop k).take 3) 3 : Nat)] 121))
   have hx := Blk.new w1 121 #[.int .u8 (B64.sxt ((l.drop k).take 3) 0 : Nat), .int .u8 (B64.sxt ((l.drop k).take 3) 1 : Nat), .int .u8 (B64.sxt ((l.drop k).take 3) 2 : Nat), .int .u8 (B64.sxt ((l.drop k).take 3) 3 : Nat)]
   have hbl2 : Below w.heap.size w (w1.alloc (.cells #[.int .u8 (B64.sxt ((l.drop k).take 3) 0 : Nat), .int .u8 (B64.sxt ((l.drop k).take 3) 1 : Nat), .int .u8 (B64.sxt ((l.drop k).take 3) 2 : Nat), .int .u8 (B64.sxt ((l.drop k).take 3) 3 : Nat)] 121)) := (hbl.trans (hb1.mono hbl.size)).alloc (Nat.le_trans hbl.size hb1.size) _
   obtain ⟨gx, hgxe, hgx⟩ : ∃ gx, w1.heap.size = gx ∧ w.heap.size < gx := ⟨_, rfl, by
    have := hb1.size
    rcases hb with hb | hb <;> (have := hb.lt; omega)⟩
   generalize w1.alloc (.cells #[.int .u8 (B64.sxt ((l.drop k).take 3) 0 : Nat), .int .u8 (B64.sxt ((l.drop k).take 3) 1 : Nat), .int .u8 (B64.sxt ((l.drop k).take 3) 2 : Nat), .int .u8 (B64.sxt ((l.drop k).take 3) 3 : Nat)] 121) = w2 at *
   rw [hgxe] at *
   clear hgxe hb1 hb hbl
   go_loopw [23] (fun i w3 => ∃ j : Nat, j ≤ n + 1 ∧ i = .int .i64 j ∧ Lib.IsBuilderF 111 5 w.heap.size w.heap.size (Lib.byteCells (encTo l k j)) w3 ∧ Blk w3 gx 121 #[.int .u8 (B64.sxt ((l.drop k).take 3) 0 : Nat), .int .u8 (B64.sxt ((l.drop k).take 3) 1 : Nat), .int .u8 (B64.sxt ((l.drop k).take 3) 2 : Nat), .int .u8 (B64.sxt ((l.drop k).take 3) 3 : Nat)] ∧ Below w.heap.size w w3) (fun i w3 => n + 1 - (intOf i).toNat)
   case atStart => exact ⟨0, by omega, rfl, hb2, hx, hbl2⟩
   case round =>
    clear hb2 hx hbl2
    obtain ⟨j, hj, rfl, hb2, hx, hbl2⟩ := hrel
    by_cases hlt : j < n + 1
    ·
     have cj : wr.cell? ⟨gx, j, none⟩ = some (.int .u8 (B64.sxt ((l.drop k).take 3) j : Nat)) := by
      rw [hx.cell j]
      match j, hlt with
      | 0, _ => rfl
      | 1, _ => rfl
      | 2, _ => rfl
      | 3, _ => rfl
      | j + 4, h => omega
     have hsg := sign_at (B64.sxt ((l.drop k).take 3) j) (B64.sxt_lt _ _)
     have hle := encTo_le l k j
     have hwb := Tryz.Builder_WriteByte_k w.heap.size w.heap.size (Lib.byteCells (encTo l k j)) ((sgn (B64.sxt ((l.drop k).take 3) j)).toNat : Int) wr hb2 (by rw [Lib.byteCells_length]; omega) hbl2.size
     go_wp2_with fail
     refine hwb.mono ?_
     rintro e w4 ⟨rfl, hb4, hbl4, hoth⟩
     have hb4' : Lib.IsBuilderF 111 5 w.heap.size w.heap.size (Lib.byteCells (encTo l k (j + 1))) w4 := by
      rw [encTo_succ, Lib.byteCells_append]
      exact .inr hb4
     have hx4 := hx.others hoth (by simp; omega) (by decide)
     have hbl5 := hbl2.trans hbl4
     clear hwb hb4 hbl4 hoth hx hb2 hbl2 cj hsg hle
     go_wp2_with fail
     go_roundw
     case rel => exact ⟨j + 1, by omega, by go_num, hb4', hx4, hbl5⟩
     case measure => simp [intOf]; omega
    ·
     have hj1 : j = n + 1 := by omega
     go_wp2_with fail
     have hcut := hr'.cutB hnk hc'
     have e1 := encTo_next l k n (by omega) (by rw [hl]; exact HK3.out) (by rw [hl]; exact hn4.out)
     rw [hj1, e1] at hb2
     have h3 := hn4.out
     have h4 := HK3.out
     refine ⟨⟨k + n, _, _, by omega, ?_, by rw [show m - (k + n) = m - k - n by omega], by rw [show m - (k + n) = m - k - n by omega]; rw [List.drop_drop] at hcut; exact hcut, by omega, hb2, hbl2⟩, by show m - k - n < m - k; omega⟩
     omega
end
section
open Go.RowKit B64
theorem three_walk (x0 x1 x2 x3 : Nat) (w : World) (h0 : x0 < 64) (h1 : x1 < 64) (h2 : x2 < 64) (h3 : x3 < 64) :
  Calls Tryz.prog 104 #[.agg #[.int .u8 x0, .int .u8 x1, .int .u8 x2, .int .u8 x3]] w fun e w' => e = .returned (.agg #[.int .u8 (thr x0 x1 x2 x3 0 : Nat), .int .u8 (thr x0 x1 x2 x3 1 : Nat), .int .u8 (thr x0 x1 x2 x3 2 : Nat)]) ∧ Below w.heap.size w w' := by
 go_enter Tryz.func104, Tryz.ntmps104
 go_wp2
 rw [thr0 x0 x1 x2 x3 h0 h1 h2 h3, thr1 x0 x1 x2 x3 h1 h2 h3, thr2 x0 x1 x2 x3 h2 h3]
 exact bodyPost_ret (v := .agg #[.int .u8 (thr x0 x1 x2 x3 0 : Nat), .int .u8 (thr x0 x1 x2 x3 1 : Nat), .int .u8 (thr x0 x1 x2 x3 2 : Nat)]) (by simp [results, Tryz.results104, go_sem]) rfl ⟨rfl, ((Below.refl _ _).alloc (Nat.le_refl _) _).alloc (by simp) _⟩
end
section
open Go.RowKit B64
def partCells (l : List UInt8) (i : Nat) : Array Value := #[.int .u8 ((if 0 < i then nm l 0 else 0 : Nat) : Int), .int .u8 ((if 1 < i then nm l 1 else 0 : Nat) : Int), .int .u8 ((if 2 < i then nm l 2 else 0 : Nat) : Int), .int .u8 ((if 3 < i then nm l 3 else 0 : Nat) : Int)]
def PartPost (l : List UInt8) (w : World) (e : Ending) (w' : World) : Prop :=
 Below w.heap.size w w' ∧ if partOk l = true then ∃ A c, e = .returned (.tuple #[.slice A (thrL l).length c, .bool true]) ∧ Reads w' w'.heap.size 1 A (thrL l).length (Lib.byteCells (thrL l))
  else ∃ v, e = .returned (.tuple #[v, .bool false])

theorem nm_lt (l : List UInt8) (k : Nat) : nm l k < 64 := by unfold nm; split; exact num_lt _; decide
theorem part_not {l : List UInt8} (k : Nat) (h : k < l.length) (hs : isSign (l.getD k 0) = false) : ¬ partOk l = true := by
 intro hp
 simp only [partOk, Bool.and_eq_true, List.all_eq_true] at hp
 have := hp.1.1 (l.getD k 0) (by rw [List.getD_eq_getElem?_getD, List.getElem?_eq_getElem h]; exact List.getElem_mem h)
 rw [hs] at this; cases this
theorem part_cell {w : World} {g : Nat} {l : List UInt8} {i k : Nat} (h : Blk w g 121 (partCells l i)) (hk : k < 4) : ∃ v, w.cell? ⟨g, k, none⟩ = some v := by
 rw [h.cell k]
 match k, hk with
 | 0, _ => exact ⟨_, rfl⟩
 | 1, _ => exact ⟨_, rfl⟩
 | 2, _ => exact ⟨_, rfl⟩
 | 3, _ => exact ⟨_, rfl⟩
 | k + 4, h => omega
theorem part_set {l : List UInt8} {K : Int} (k : Nat) (hk : k < 4) (hl : k < l.length) (h : K = (num (l.getD k 0) : Nat)) : partCells l (k + 1) = (partCells l k).setIfInBounds k (.int .u8 K) := by
 have e : nm l k = num (l.getD k 0) := by simp [nm, hl]
 rw [h, ← e]
 match k, hk with
 | 0, _ => rfl
 | 1, _ => rfl
 | 2, _ => rfl
 | 3, _ => rfl
 | k + 4, h => omega
theorem part_all (l : List UInt8) (k : Nat) (h : k = l.length) : partCells l k = #[.int .u8 (nm l 0 : Nat), .int .u8 (nm l 1 : Nat), .int .u8 (nm l 2 : Nat), .int .u8 (nm l 3 : Nat)] := by
 subst h
 have e : ∀ j, (if j < l.length then nm l j else 0) = nm l j := fun j => by unfold nm; split <;> rfl
 simp only [partCells, e]
theorem eq38 (a0 a1 a2 a3 b0 b1 b2 b3 : Int) (w : World) : (Op.equalIn 10000 121 (.agg #[.int .u8 a0, .int .u8 a1, .int .u8 a2, .int .u8 a3]) (.agg #[.int .u8 b0, .int .u8 b1, .int .u8 b2, .int .u8 b3])).run Tryz.prog w = .ok (decide (a0 = b0 ∧ a1 = b1 ∧ a2 = b2 ∧ a3 = b3)) w := by
 have h5 := fun (a b : Int) (w : World) => run_equalIn_int (P := Tryz.prog) w 9998 5 .u8 .u8 a b Tryz.underlying5
 have hs : ∀ w, (sizeOf 5).run Tryz.prog w = .ok 1 w := fun w => by kernel_rfl
 have hg : ∀ w, (isAgg 5).run Tryz.prog w = .ok false w := fun w => by kernel_rfl
 have e : (10000 : Nat) = 9998 + 1 + 1 := rfl
 rw [e, Op.equalIn]
 simp only [Sem.run_bind, run_underlying Tryz.underlying121, Result.andThen_ok, hs]
 simp [List.range', h5, part, hg]
 by_cases h0 : a0 = b0 <;> by_cases h1 : a1 = b1 <;> by_cases h2 : a2 = b2 <;> by_cases h3 : a3 = b3 <;> simp [h0, h1, h2, h3]
theorem sl45 (n : Nat) (hn : n ≤ 3) (a : Addr) (w : World) : (Instr.sliceAt 134 (.pointer (some a)) none (some (.int .i64 (n : Int))) (some (.int .i64 (n : Int)))).run Tryz.prog w = .ok (.slice (some a) n n) w := by
 have al : Tryz.prog.arrayLen 134 = 3 := by kernel_rfl
 rw [run_sliceAt_array_hm w 134 a Tryz.underlying134 .i64 .i64 _ _ (by omega) (by omega) (by rw [al]; omega)]
 have : ((sizeOf (Tryz.prog.elem 134)).run Tryz.prog w) = .ok 1 w := by kernel_rfl
 rw [this]
 simp [Result.andThen, slicedAt, Addr.add]
theorem part_reads {w : World} {gy : Nat} (l : List UInt8) (n : Nat) (h : Blk w gy 134 #[.int .u8 (thr (nm l 0) (nm l 1) (nm l 2) (nm l 3) 0 : Nat), .int .u8 (thr (nm l 0) (nm l 1) (nm l 2) (nm l 3) 1 : Nat), .int .u8 (thr (nm l 0) (nm l 1) (nm l 2) (nm l 3) 2 : Nat)]) (hn : n + 1 = l.length) (h3 : n ≤ 3) :
  Reads w w.heap.size 1 (some ⟨gy, 0, none⟩) n (Lib.byteCells (thrL l)) := by
 refine ⟨by rw [Lib.byteCells_length, thrL_length]; omega, fun _ => ⟨_, rfl, h.lt, fun j u hu => ?_⟩⟩
 have hj : j < n := by
  have := (List.getElem?_eq_some_iff.1 hu).1
  rw [Lib.byteCells_length, thrL_length] at this; omega
 have ha : ((⟨gy, 0, none⟩ : Addr).add j) = ⟨gy, j, none⟩ := by unfold Addr.add; split <;> simp_all
 rw [ha, h.cell j, ← hu]
 have hl : j < l.length - 1 := by omega
 have e : (Lib.byteCells (thrL l))[j]? = some (.int .u8 (thr (nm l 0) (nm l 1) (nm l 2) (nm l 3) j : Nat)) := by
  have := thr_lt (nm l 0) (nm l 1) (nm l 2) (nm l 3) j
  simp [Lib.byteCells, thrL, hl]
  omega
 rw [e]
 match j, hj with
 | 0, _ => rfl
 | 1, _ => rfl
 | 2, _ => rfl
 | j + 3, h => omega
theorem part_all_sign (l : List UInt8) (h : ∀ j, j < l.length → isSign (l.getD j 0) = true) : l.all isSign = true := by
 rw [List.all_eq_true]
 intro x hx
 obtain ⟨j, hj, rfl⟩ := List.getElem_of_mem hx
 have := h j hj
 rwa [List.getD_eq_getElem?_getD, List.getElem?_eq_getElem hj] at this
set_option maxRecDepth 100000 in
theorem part_walk (s : ByteArray) (l : List UInt8) (hs : s.data.toList = l) (w : World) (h1 : 1 ≤ s.size) (h4 : s.size ≤ 4) :
  Calls Tryz.prog 73 #[.string s] w (PartPost l w) := by
 have al38 : Tryz.prog.arrayLen 121 = 4 := by kernel_rfl
 have al45 : Tryz.prog.arrayLen 134 = 3 := by kernel_rfl
 go_enter Tryz.func73, Tryz.ntmps73
 go_wp2_with fail
 go_loopw [11] (fun i wr => ∃ k : Nat, k ≤ s.size ∧ i = .int .i64 k ∧ Hid (∀ j, j < k → isSign (l.getD j 0) = true) ∧ Blk wr w.heap.size 121 (partCells l k) ∧ Below w.heap.size w wr) (fun i _ => s.size - (intOf i).toNat)
 case atStart => exact ⟨0, by omega, rfl, fun j hj => by omega, Blk.new w 121 _, (Below.refl _ _).alloc (Nat.le_refl _) _⟩
 case round =>
  obtain ⟨k, hk, rfl, hsg, hx, hbl⟩ := hrel
  by_cases hlt : k < s.size
  ·
   have hge := Lib.indexByte_ge signs s[k]
   have hlt64 := index_lt s[k]
   have hgk : l.getD k 0 = s[k] := by rw [← hs, List.getD_eq_getElem?_getD, List.getElem?_eq_getElem (by simpa using hlt)]; rfl
   have HGK := Lib.hid hgk
   clear hgk
   go_wp2_with fail
   refine (Tryz.strings_IndexByte _ _ _).mono ?_
   rintro e wr ⟨rfl, rfl⟩
   rw [show Lib.indexByte (ByteArray.mk #[65, 66, 67, 68, 69, 70, 71, 72, 73, 74, 75, 76, 77, 78, 79, 80, 81, 82, 83, 84, 85, 86, 87, 88, 89, 90, 97, 98, 99, 100, 101, 102, 103, 104, 105, 106, 107, 108, 109, 110, 111, 112, 113, 114, 115, 116, 117, 118, 119, 120, 121, 122, 48, 49, 50, 51, 52, 53, 54, 55, 56, 57, 45, 95]).data.toList (↑(s[k]).toNat : Int).toNat.toUInt8 = Lib.indexByte signs s[k] by simp [signs]]
   obtain ⟨K, hK, hKge, hKlt⟩ : ∃ K, Lib.indexByte signs s[k] = K ∧ -1 ≤ K ∧ K < 64 := ⟨_, rfl, hge, hlt64⟩
   rw [hK]
   have HK := Lib.hid hK
   clear hK hge hlt64
   by_cases hneg : K < 0
   ·
    go_wp2_with fail
    go_ret2
    refine ⟨hbl, ?_⟩
    rw [if_neg (part_not k (by rw [← hs]; simpa using hlt) (by rw [HGK.out, isSign, HK.out]; simp; omega))]
    exact ⟨_, rfl⟩
   ·
    have hpos : 0 ≤ K := by omega
    have hk4 : k < 4 := by omega
    obtain ⟨v0, hv0⟩ := part_cell hx hk4
    have hf0 := hx.frozen k
    have hx2 := hx.set_ k (.int .u8 K)
    have hmod : K % 256 = K := by omega
    have HE : partCells l (k + 1) = (partCells l k).setIfInBounds k (.int .u8 K) := part_set k hk4 (by rw [← hs]; simpa using hlt) (by rw [HGK.out, num, HK.out]; omega)
    have HS : Hid (∀ j, j < k + 1 → isSign (l.getD j 0) = true) := fun j hj => by
     rcases Nat.lt_or_ge j k with h | h
     ·
      exact hsg.out j h
     ·
      rw [show j = k by omega, HGK.out, isSign, HK.out]; simpa using hpos
    rw [← HE] at hx2
    have hbl2 := hbl.setCell (p := ⟨w.heap.size, k, none⟩) (Nat.le_refl _) (.int .u8 K)
    clear hneg hx hbl hsg HE
    go_wp2_with fail
    go_roundw
    case rel => exact ⟨k + 1, by omega, by go_num, HS, hx2, hbl2⟩
    case measure => simp [intOf]; omega
  ·
   have hkl : k = s.size := by omega
   have hal : Hid (∀ j, j < s.size → isSign (l.getD j 0) = true) := by rw [← hkl]; exact hsg
   have hsz : s.size = l.length := by rw [← hs]; simp
   have hxa : Blk wr w.heap.size 121 #[.int .u8 (nm l 0 : Nat), .int .u8 (nm l 1 : Nat), .int .u8 (nm l 2 : Nat), .int .u8 (nm l 3 : Nat)] := by
    have := part_all l k (by omega)
    rw [← this]; exact hx
   obtain ⟨n, hn, hn1, hn2⟩ : ∃ n : Nat, ((s.size : Int) - 1 = (n : Int)) ∧ Hid (n + 1 = s.size) ∧ n ≤ 3 := ⟨s.size - 1, by omega, by show _ + 1 = _; omega, by omega⟩
   clear hsg hkl hx
   have c0 := hxa.cell 0
   have c1 := hxa.cell 1
   have c2 := hxa.cell 2
   have c3 := hxa.cell 3
   simp only [List.getElem?_toArray, List.getElem?_cons_zero, List.getElem?_cons_succ] at c0 c1 c2 c3
   have HZ := Lib.hid hsz
   clear hsz
   go_wp2_with fail
   refine (three_walk (nm l 0) (nm l 1) (nm l 2) (nm l 3) wr (nm_lt l 0) (nm_lt l 1) (nm_lt l 2) (nm_lt l 3)).mono ?_
   rintro e w1 ⟨rfl, hb1⟩
   have d0 := hb1.cell (p := ⟨w.heap.size, 0, none⟩) hxa.lt
   have d1 := hb1.cell (p := ⟨w.heap.size, 1, none⟩) hxa.lt
   have d2 := hb1.cell (p := ⟨w.heap.size, 2, none⟩) hxa.lt
   have d3 := hb1.cell (p := ⟨w.heap.size, 3, none⟩) hxa.lt
   rw [c0] at d0
   rw [c1] at d1
   rw [c2] at d2
   rw [c3] at d3
   clear c0 c1 c2 c3
   go_wp2_with fail
   have hy := Blk.new w1 134 #[.int .u8 (thr (nm l 0) (nm l 1) (nm l 2) (nm l 3) 0 : Nat), .int .u8 (thr (nm l 0) (nm l 1) (nm l 2) (nm l 3) 1 : Nat), .int .u8 (thr (nm l 0) (nm l 1) (nm l 2) (nm l 3) 2 : Nat)]
   have hx2 := (hxa.below hb1 hxa.lt).alloc (.cells #[.int .u8 (thr (nm l 0) (nm l 1) (nm l 2) (nm l 3) 0 : Nat), .int .u8 (thr (nm l 0) (nm l 1) (nm l 2) (nm l 3) 1 : Nat), .int .u8 (thr (nm l 0) (nm l 1) (nm l 2) (nm l 3) 2 : Nat)] 134)
   have hbl2 := (hbl.trans (hb1.mono hbl.size)).alloc (Nat.le_trans hbl.size hb1.size) (.cells #[.int .u8 (thr (nm l 0) (nm l 1) (nm l 2) (nm l 3) 0 : Nat), .int .u8 (thr (nm l 0) (nm l 1) (nm l 2) (nm l 3) 1 : Nat), .int .u8 (thr (nm l 0) (nm l 1) (nm l 2) (nm l 3) 2 : Nat)] 134)
   generalize w1.alloc (.cells #[.int .u8 (thr (nm l 0) (nm l 1) (nm l 2) (nm l 3) 0 : Nat), .int .u8 (thr (nm l 0) (nm l 1) (nm l 2) (nm l 3) 1 : Nat), .int .u8 (thr (nm l 0) (nm l 1) (nm l 2) (nm l 3) 2 : Nat)] 134) = W at *
   obtain ⟨gy, hgy, hgyle⟩ : ∃ gy, w1.heap.size = gy ∧ w.heap.size ≤ gy := ⟨_, rfl, Nat.le_trans hbl.size hb1.size⟩
   rw [hgy] at hy ⊢
   clear hgy hb1 hbl d0 d1 d2 d3 hxa hlt hk
   by_cases hn0 : n = 0
   ·
    subst hn0
    have hsl : ∀ w, (Instr.sliceAt 134 (.pointer (some ⟨gy, 0, none⟩)) none (some (.int .i64 0)) (some (.int .i64 0))).run Tryz.prog w = .ok (.slice (some ⟨gy, 0, none⟩) 0 0) w := fun w => sl45 0 (by omega) ⟨gy, 0, none⟩ w
    go_wp2_with fail
    go_quiet (fail)
    go_wp2_with fail
    go_ret2
    refine ⟨below_drewN hbl2 _, ?_⟩
    have e1 := hn1.out
    have e2 := HZ.out
    rw [if_neg (by simp [partOk]; omega)]
    exact ⟨_, rfl⟩
   ·
    have hsl := fun w => sl45 n hn2 ⟨gy, 0, none⟩ w
    have hd : decide (0 < n) = true := by simp; omega
    have hrd : Reads W.drew W.drew.heap.size 1 (some ⟨gy, 0, none⟩) n (Lib.byteCells (thrL l)) := part_reads l n hy (by rw [← HZ.out]; exact hn1.out) hn2
    have hf := Lib.hid (four_walk (some ⟨gy, 0, none⟩) n n (thrL l) W.drew hrd hn2)
    have c0 := hx2.cell 0
    have c1 := hx2.cell 1
    have c2 := hx2.cell 2
    have c3 := hx2.cell 3
    simp only [List.getElem?_toArray, List.getElem?_cons_zero, List.getElem?_cons_succ] at c0 c1 c2 c3
    obtain ⟨bq, hbq⟩ : ∃ b, decide (((sxt (thrL l) 0 : Nat) : Int) = (nm l 0 : Nat) ∧ ((sxt (thrL l) 1 : Nat) : Int) = (nm l 1 : Nat) ∧ ((sxt (thrL l) 2 : Nat) : Int) = (nm l 2 : Nat) ∧ ((sxt (thrL l) 3 : Nat) : Int) = (nm l 3 : Nat)) = b := ⟨_, rfl⟩
    have heq := eq38 (sxt (thrL l) 0 : Nat) (sxt (thrL l) 1 : Nat) (sxt (thrL l) 2 : Nat) (sxt (thrL l) 3 : Nat) (nm l 0 : Nat) (nm l 1 : Nat) (nm l 2 : Nat) (nm l 3 : Nat)
    rw [hbq] at heq
    have HB := Lib.hid hbq
    clear hbq
    go_region_held3 (fun w' => w'.cell? ⟨w.heap.size, 0, none⟩ = some (.int .u8 (nm l 0 : Nat)) ∧ w'.cell? ⟨w.heap.size, 1, none⟩ = some (.int .u8 (nm l 1 : Nat)) ∧ w'.cell? ⟨w.heap.size, 2, none⟩ = some (.int .u8 (nm l 2 : Nat)) ∧ w'.cell? ⟨w.heap.size, 3, none⟩ = some (.int .u8 (nm l 3 : Nat)) ∧ Reads w' w'.heap.size 1 (some ⟨gy, 0, none⟩) n (Lib.byteCells (thrL l)) ∧ Below w.heap.size w w')
     (first | exact ⟨c0, c1, c2, c3, hrd, hbl2.drew⟩ | exact ⟨d0, d1, d2, d3, hrd5, hbl5⟩)
     (first | (go_at_call 90; refine hf.out.mono ?_; rintro e w5 ⟨rfl, hb5⟩; have d0 := (hb5.cell (p := ⟨w.heap.size, 0, none⟩) hx2.lt).trans (show W.drew.cell? _ = _ from c0); have d1 := (hb5.cell (p := ⟨w.heap.size, 1, none⟩) hx2.lt).trans (show W.drew.cell? _ = _ from c1); have d2 := (hb5.cell (p := ⟨w.heap.size, 2, none⟩) hx2.lt).trans (show W.drew.cell? _ = _ from c2); have d3 := (hb5.cell (p := ⟨w.heap.size, 3, none⟩) hx2.lt).trans (show W.drew.cell? _ = _ from c3); have hrd5 := (hrd.below hb5).more hb5.size; have hbl5 := hbl2.drew.trans (hb5.mono hbl2.size)))
    go_wp2_with fail
    go_ret2
    refine ⟨hbl5, ?_⟩
    have hok : partOk l = bq := by
     have e1 := hn1.out
     have e2 := HZ.out
     have e3 := hal.out
     rw [← HB.out, partOk, part_all_sign l (fun j hj => e3 j (by omega))]
     simp only [Bool.true_and, Int.natCast_inj]
     rw [show decide (1 < l.length) = true by simp; omega, Bool.true_and]
    have hl : n = (thrL l).length := by
     have e1 := hn1.out
     have e2 := HZ.out
     rw [thrL_length]; omega
    rw [hok]
    cases bq
    ·
     rw [if_neg (by decide)]; exact ⟨_, rfl⟩
    ·
     rw [if_pos rfl, ← hl]; exact ⟨_, _, rfl, hrd5⟩
end
section
open Go.RowKit B64
def DecPost (l : List UInt8) (w : World) (e : Ending) (w' : World) : Prop :=
 Below w.heap.size w w' ∧ ((∃ b v, dec l = some b ∧ e = .returned (.tuple #[v, .int .i64 0]) ∧ w'.ownsRow w.heap.size 5 1 v b.length (Lib.byteCells b)) ∨ (dec l = none ∧ e = .returned (.tuple #[.slice none 0 0, .int .i64 3])))

theorem dec_walk (s : ByteArray) (l : List UInt8) (hs : s.data.toList = l) (w : World) (hm : s.size ≤ 1000000) :
  Calls Tryz.prog 49 #[.string s] w (DecPost l w) := by
 go_enter Tryz.func49, Tryz.ntmps49
 go_wp2_with fail
 go_loopw [0, 4] (fun sv ov wr => ∃ (t : ByteArray) (acc : List UInt8), sv = .string t ∧ wr.ownsRow w.heap.size 5 1 ov acc.length (Lib.byteCells acc) ∧ Hid (dec l = (dec t.data.toList).map (acc ++ ·)) ∧ acc.length + t.size ≤ s.size ∧ Below w.heap.size w wr) (fun sv _ _ => vLen sv)
 case atStart => exact ⟨s, [], rfl, World.ownsRow_nil _ _ _ _, by rw [hs]; show _ = _; simp, by simp, Below.refl _ _⟩
 case round =>
  obtain ⟨t, acc, rfl, hown, hdec, hsz, hbl⟩ := hrel
  by_cases h0 : t.size = 0
  ·
   have he : t.toList = [] := str_nil h0
   go_wp2_with fail
   go_ret2
   refine ⟨hbl, .inl ⟨acc, u4, ?_, rfl, hown⟩⟩
   rw [hdec.out, show t.data.toList = [] from List.eq_nil_of_length_eq_zero (by simpa using h0)]
   simp [dec]
  ·
   have he : t.toList.isEmpty = false := (str_ne h0).1
   have he2 : ¬ t.toList = [] := (str_ne h0).2
   obtain ⟨n, hn, hn1, hn4, hnt, hnm⟩ : ∃ n : Nat, (min 4 (t.size : Int) = (n : Int)) ∧ 1 ≤ n ∧ n ≤ 4 ∧ n ≤ t.size ∧ Hid (n = min 4 t.size) := ⟨min 4 t.size, by omega, by omega, by omega, by omega, rfl⟩
   go_wp2_with fail
   have hex : (t.extract 0 n).data.toList = t.data.toList.take 4 := by
    have := hnm.out
    rw [Lib.extract_data, List.drop_zero, Nat.sub_zero, this, Lib.size_eq, take_min]
   refine (part_walk _ _ hex wr (by simp; omega) (by simp; omega)).mono ?_
   rintro e w1 ⟨hb1, hp⟩
   have hst := dec_step t.data.toList (fun h => h0 (by have := congrArg List.length h; simpa using this))
   have HST := Lib.hid hst
   clear hst
   by_cases hok : partOk (t.data.toList.take 4) = true
   ·
    rw [if_pos hok] at hp
    obtain ⟨A, c, rfl, hrd⟩ := hp
    go_wp2_with fail
    obtain ⟨i0, hi, hz0, hz1, hz2⟩ := info_parts info5
    have hown1 : w1.drew.ownsRow w.heap.size 5 1 u4 acc.length (Lib.byteCells acc) := (ownsRow_below hown hb1).drew
    have hrd1 : Reads w1.drew w1.drew.heap.size 1 A (thrL (t.data.toList.take 4)).length (Lib.byteCells (thrL (t.data.toList.take 4))) := hrd
    have hlen : (thrL (t.data.toList.take 4)).length + 1 = n := by
     have := hnm.out
     rw [thrL_length, List.length_take, ← Lib.size_eq]; omega
    have hbl1 : Below w.heap.size w w1.drew := (hbl.trans (hb1.mono hbl.size)).drew
    have hn0 : (0 : Int) ≤ (n : Int) := by omega
    have hnt' : (n : Int) ≤ (t.size : Int) := by omega
    clear hrd hb1
    go_region_law (refine step_append_any w1.drew rfl (.tmp 22) (.tmp 23) 31 rfl w.heap.size 5 i0 (.int .u8 0) 1 1 Tryz.underlying31 hi hz0 hz1 hz2 rfl (by decide) u4 acc.length (Lib.byteCells acc) rfl hown1 w1.drew.heap.size A _ c _ rfl hrd1 (Lib.byteCells_one _) (by unfold maxLen; omega) (by omega) hbl1.size ?_; intro v' w2 hown2 hg2 hat2)
    have hbl2 := hbl1.grown hg2 hbl1.size (fun g hg => by have := hown1.lt g hg; omega)
    rw [← Lib.byteCells_append, ← List.length_append] at hown2
    have hdec2 : Hid (dec l = (dec (t.extract n t.size).data.toList).map ((acc ++ thrL (t.data.toList.take 4)) ++ ·)) := by
     show _ = _
     have e0 : (t.extract n t.size).data.toList = t.data.toList.drop n := by rw [Lib.extract_data]; exact List.take_of_length_le (by simp)
     rw [hdec.out, HST.out, if_pos hok, e0, Option.map_map]
     have e : t.data.toList.drop n = t.data.toList.drop 4 := by
      have := hnm.out
      rcases Nat.lt_or_ge 4 t.size with h | h
      ·
       rw [show n = 4 by omega]
      ·
       have hh : t.data.toList.length ≤ 4 := by rw [← Lib.size_eq]; exact h
       have hh2 : t.data.toList.length ≤ n := by rw [← Lib.size_eq]; omega
       rw [List.drop_of_length_le hh, List.drop_of_length_le hh2]
     rw [e]
     cases dec (t.data.toList.drop 4) <;> simp
    have hsz2 : (acc ++ thrL (t.data.toList.take 4)).length + (t.extract n t.size).size ≤ s.size := by
     simp; omega
    have hsz3 : (t.extract n t.size).size < t.size := by simp; omega
    clear hdec HST hown hown1 hrd1 hex hg2 hat2
    go_wp2_with fail
    go_roundw
    case rel =>
     (repeat apply Exists.intro)
     exact ⟨⟨_, _, rfl, hown2, hdec2, hsz2, hbl2⟩, rfl⟩
    case measure => exact hsz3
   ·
    rw [if_neg hok] at hp
    obtain ⟨v, rfl⟩ := hp
    go_wp2_with fail
    go_ret2
    refine ⟨hbl.trans (hb1.mono hbl.size), .inr ⟨?_, rfl⟩⟩
    rw [hdec.out, HST.out, if_neg hok]
    rfl
end
section
open Go.RowKit B64
theorem sgn_walk (c : UInt8) (w : World) :
  Calls Tryz.prog 52 #[.int .u8 (c.toNat : Int)] w fun e w' => e = .returned (.int .i64 (Lib.indexByte signs c)) ∧ w = w' := by
 go_enter Tryz.func52, Tryz.ntmps52
 go_wp2_with fail
 go_loop [3] (fun i => ∃ k : Nat, k ≤ 64 ∧ i = .int .i64 k ∧ Hid (∀ j, j < k → sgn j ≠ c)) (fun i => 64 - (intOf i).toNat)
 case atStart => exact ⟨0, by omega, rfl, fun j hj => by omega⟩
 case round =>
  obtain ⟨k, hk, rfl, hno⟩ := hrel
  by_cases hlt : k < 64
  ·
   have hsg := sign_ix k hlt
   by_cases he : sgn k = c
   ·
    have hb : (((sgn k).toNat : Int) == (c.toNat : Int)) = true := by simp only [he, beq_self_eq_true]
    have hf := Lib.hid (index_at signs c k (by simpa [signs] using hlt) he hno.out)
    have HE := Lib.hid he
    clear he
    go_wp2_with fail
    go_ret
    exact ⟨by rw [hf.out]; rfl, rfl⟩
   ·
    have hb : (((sgn k).toNat : Int) == (c.toNat : Int)) = false := by
     rw [beq_eq_false_iff_ne]
     intro h
     exact he (UInt8.toNat_inj.1 (by exact_mod_cast h))
    have HN : Hid (∀ j, j < k + 1 → sgn j ≠ c) := fun j hj => by
     rcases Nat.lt_or_ge j k with h | h
     ·
      exact hno.out j h
     ·
      rw [show j = k by omega]; exact he
    clear he
    go_wp2_with fail
    go_round
    case rel => exact ⟨k + 1, by omega, by go_num, HN⟩
    case measure => simp [intOf]; omega
  ·
   have hf := Lib.hid (index_none signs c (fun j hj => hno.out j (by simp [signs] at hj; omega)))
   go_wp2_with fail
   go_ret
   exact ⟨by rw [hf.out]; rfl, rfl⟩
end
section
open Go.RowKit B64
theorem renc_walk (A : Option Addr) (m c : Nat) (l : List UInt8) (w : World) (hr : Reads w w.heap.size 1 A m (Lib.byteCells l)) (hm : m ≤ 1000000) :
  Calls Tryz.prog 28 #[.slice A m c] w fun e w' => e = .returned (.string ⟨(enc l).toArray⟩) ∧ Below w.heap.size w w' := by
 have hl := hr.get
 obtain ⟨i0, hi, hz0, hz1, hz2⟩ := info_parts info5
 go_enter Tryz.func28, Tryz.ntmps28
 go_wp2_with fail
 go_loopw [3, 4] (fun ov iv wr => ∃ k : Nat, iv = .int .i64 k ∧ Hid (k % 3 = 0) ∧ k ≤ m + 2 ∧ wr.ownsRow w.heap.size 5 1 ov (encTo l k 0).length (Lib.byteCells (encTo l k 0)) ∧ Below w.heap.size w wr) (fun _ iv _ => m + 3 - (intOf iv).toNat)
 case atStart => exact ⟨0, rfl, rfl, by omega, World.ownsRow_nil _ _ _ _, Below.refl _ _⟩
 case round =>
  obtain ⟨k, rfl, hk3, hkm, hown, hbl⟩ := hrel
  by_cases hlt : k < m
  ·
   have hr1 := hr.below hbl
   go_wp2_with fail
   go_loop [5, 6, 7] (fun vv nv jv => ∃ j : Nat, j ≤ 3 ∧ jv = .int .i64 j ∧ vv = .int .i64 (volTo (l.drop k) j : Nat) ∧ nv = .int .i64 (min j (m - k) : Nat)) (fun _ _ jv => 3 - (intOf jv).toNat)
   case atStart => exact ⟨0, by omega, rfl, rfl, by simp⟩
   case round =>
    obtain ⟨j, hj, rfl, rfl, rfl⟩ := hrel
    by_cases hj3 : j < 3
    ·
     have hv := volTo_lt (l.drop k) j
     have hv2 : volTo (l.drop k) j < 65536 := Nat.lt_of_lt_of_le hv (Nat.pow_le_pow_right (n := 256) (by decide) (show j ≤ 2 by omega))
     clear hv
     generalize hgv : volTo (l.drop k) j = v at *
     have HV := Lib.hid hgv
     clear hgv
     by_cases hkj : k + j < m
     ·
      obtain ⟨b, o, x, rfl, hb, hcell, hx, hxl⟩ := hr1.byteN hkj
      go_wp2_with fail
      have e : volTo (l.drop k) (j + 1) = v * 256 + x := by
       rw [volTo, HV.out, ← hxl.out]; simp [List.getElem?_drop]
      exact ⟨⟨j + 1, by omega, by go_num, by rw [e]; go_num, by rw [show min (j + 1) (m - k) = min j (m - k) + 1 by omega]; go_num⟩, by simp [intOf]; omega⟩
     ·
      go_wp2_with fail
      have e : volTo (l.drop k) (j + 1) = v * 256 := by
       rw [volTo, HV.out]
       simp [List.getElem?_drop, List.getElem?_eq_none (show l.length ≤ k + j by omega)]
      exact ⟨⟨j + 1, by omega, by go_num, by rw [e]; go_num, by rw [show min (j + 1) (m - k) = min j (m - k) by omega]⟩, by simp [intOf]; omega⟩
    ·
     have hj3' : j = 3 := by omega
     subst hj3'
     have hv := volTo_lt (l.drop k) 3
     have hv2 : volTo (l.drop k) 3 < 16777216 := hv
     clear hv
     obtain ⟨v, hgv⟩ : ∃ v, volTo (l.drop k) 3 = v := ⟨_, rfl⟩
     rw [hgv] at hv2
     rw [hgv]
     have HV := Lib.hid hgv
     clear hgv hj hj3
     obtain ⟨n, hn1, hn3, hn, hnm⟩ : ∃ n, 1 ≤ n ∧ n ≤ 3 ∧ min 3 (m - k) = n ∧ Hid (n = min 3 (m - k)) := ⟨min 3 (m - k), by omega, by omega, rfl, rfl⟩
     rw [hn]
     clear hn
     go_wp2_with fail
     go_loopw [3, 8] (fun ov kv wr => ∃ j : Nat, j ≤ n + 1 ∧ kv = .int .i64 j ∧ wr.ownsRow w.heap.size 5 1 ov (encTo l k j).length (Lib.byteCells (encTo l k j)) ∧ Below w.heap.size w wr) (fun _ kv _ => n + 1 - (intOf kv).toNat)
     case atStart => exact ⟨0, by omega, rfl, hown, hbl⟩
     case round =>
      clear hown hbl hr1
      obtain ⟨j, hj, rfl, hown, hbl⟩ := hrel
      by_cases hjn : j < n + 1
      ·
       have hsg := sign_ix (sxv v j) (sxv_lt v j)
       have hsh := shr_and v j (by omega) hv2
       have hle := encTo_le l k j
       have HE := Lib.hid (encTo_succ l k j)
       rw [show sgn (sxt ((l.drop k).take 3) j) = sgn (sxv v j) by rw [← sxv_vol, HV.out]] at HE
       go_wp2_with (at_builtin; go_loud (refine wpList_append_new wr rfl (.tmp 43) (.tmp 51) 31 rfl w.heap.size 5 i0 (.int .u8 0) 1 1 Tryz.underlying31 hi hz0 hz1 hz2 rfl (by decide) u3 (encTo l k j).length (Lib.byteCells (encTo l k j)) rfl hown [.int .u8 ((sgn (sxv v j)).toNat : Int)] rfl rfl (by simp [Value.oneCell']) (by unfold maxLen; omega) (by omega) hbl.size ?_); intro v' w2 hown2 hg2)
       have hown3 : w2.ownsRow w.heap.size 5 1 v' (encTo l k (j + 1)).length (Lib.byteCells (encTo l k (j + 1))) := by
        rw [HE.out, Lib.byteCells_append, List.length_append]
        exact hown2
       have hbl3 := grown_below hbl hown hg2 hbl.size
       clear HE hown2 hg2 hsh hsg hown hbl
       go_wp2_with fail
       go_roundw
       case rel =>
        first | exact ⟨j + 1, by omega, by go_num, hown3, hbl3⟩ | ((repeat apply Exists.intro); exact ⟨⟨j + 1, by omega, by go_num, hown3, hbl3⟩, rfl⟩)
       case measure => simp [intOf]; omega
      ·
       have hj1 : j = n + 1 := by omega
       subst hj1
       have e1 := encTo_next l k n (by omega) (by right; exact hk3.out) (by rw [hl]; exact hnm.out)
       have e2 := encTo_more l k n (by omega) (by rw [hl]; exact hnm.out)
       rw [e1, e2] at hown
       clear e1 e2
       go_wp2_with fail
       exact ⟨⟨k + 3, by go_num, by have := hk3.out; show _ = _; omega, by omega, hown, hbl⟩, by simp [intOf]; omega⟩
  ·
   obtain ⟨A', c', hu3, hnc, hrd⟩ := own_reads hown (Nat.le_refl _)
   have he : encTo l k 0 = enc l := by rw [encTo_zero, List.take_of_length_le (by omega)]
   have hcv : (convert 31 9 (.slice A' (encTo l k 0).length c')).run Tryz.prog wr = .ok (.string ⟨(enc l).toArray⟩) wr := by
    rw [reads_str (c := c') hrd 31 9 5 Tryz.underlying31 Tryz.underlying5 Tryz.underlying9, he]
   subst hu3
   clear he hown hrd
   go_wp2_with fail
   go_ret
   exact ⟨rfl, hbl⟩
end
section
open Go.RowKit B64
theorem toNat_small (n : Nat) (h : n < 256) : (UInt8.ofNat n).toNat = n := by simp; omega
def RDecPost (l : List UInt8) (w : World) (e : Ending) (w' : World) : Prop :=
 Below w.heap.size w w' ∧ ((∃ b v, rdec l = some b ∧ e = .returned (.tuple #[v, .int .i64 0]) ∧ w'.ownsRow w.heap.size 5 1 v b.length (Lib.byteCells b)) ∨ (rdec l = none ∧ e = .returned (.tuple #[.slice none 0 0, .int .i64 3])))
def RRel (l : List UInt8) (w : World) (ov vv bv iv : Value) (wr : World) : Prop :=
 ∃ k : Nat, k ≤ l.length ∧ iv = .int .i64 k ∧ Hid (∀ j, j < k → isSign (l.getD j 0) = true) ∧ vv = .int .i64 ((rst (l.take k)).v : Nat) ∧ bv = .int .i64 ((rst (l.take k)).bits : Nat) ∧
  wr.ownsRow w.heap.size 5 1 ov (rst (l.take k)).out.length (Lib.byteCells (rst (l.take k)).out) ∧ Below w.heap.size w wr

theorem rdec_walk (s : ByteArray) (l : List UInt8) (hs : s.data.toList = l) (w : World) (hm : s.size ≤ 1000000) :
  Calls Tryz.prog 34 #[.string s] w (RDecPost l w) := by
 have hsz : l.length = s.size := by rw [← hs, Lib.size_eq]
 obtain ⟨i0, hi, hz0, hz1, hz2⟩ := info_parts info5
 go_enter Tryz.func34, Tryz.ntmps34
 go_wp2_with fail
 go_loopw [4, 5, 6, 7] (fun ov vv bv iv wr => RRel l w ov vv bv iv wr) (fun _ _ _ iv _ => s.size - (intOf iv).toNat)
 case atStart => exact ⟨0, by omega, rfl, fun j hj => by omega, rfl, rfl, World.ownsRow_nil _ _ _ _, Below.refl _ _⟩
 case round =>
  obtain ⟨k, hk, rfl, hsg, rfl, rfl, hown, hbl⟩ := hrel
  have hok := rst_ok (l.take k)
  have hle := rst_le (l.take k)
  have HS := Lib.hid (rst_snoc (l.take k) (l.getD k 0))
  generalize hst : rst (l.take k) = st at *
  obtain ⟨o, v, b⟩ := st
  obtain ⟨hv, hb⟩ := hok
  simp only at hv hb hle hown ⊢
  by_cases hlt : k < s.size
  ·
   have htk : l.take (k + 1) = l.take k ++ [l.getD k 0] := by
    rw [List.take_succ_eq_append_getElem (by omega), List.getD_eq_getElem?_getD, List.getElem?_eq_getElem (by omega)]; rfl
   have hgk : l.getD k 0 = s[k] := by subst hs; rw [List.getD_eq_getElem?_getD, List.getElem?_eq_getElem (by simpa using hlt)]; rfl
   rw [← htk, hgk] at HS
   have HGK := Lib.hid hgk
   have hole : o.length ≤ k := by have : (l.take k).length ≤ k := List.length_take_le _ _; omega
   clear htk hgk hle hst
   have hge := Lib.indexByte_ge signs s[k]
   have hlt64 := index_lt s[k]
   go_wp2_with fail
   refine (sgn_walk s[k] wr).mono ?_
   rintro e w1 ⟨rfl, rfl⟩
   obtain ⟨K, hK, hKge, hKlt⟩ : ∃ K, Lib.indexByte signs s[k] = K ∧ -1 ≤ K ∧ K < 64 := ⟨_, rfl, hge, hlt64⟩
   rw [hK]
   have HK := Lib.hid hK
   clear hK hge hlt64
   by_cases hneg : K < 0
   ·
    go_wp2_with fail
    go_ret2
    refine ⟨hbl, .inr ⟨?_, rfl⟩⟩
    rw [rdec, if_neg]
    rintro ⟨h, _⟩
    rw [List.all_eq_true] at h
    have := h s[k] (by rw [← HGK.out, List.getD_eq_getElem?_getD, List.getElem?_eq_getElem (by omega)]; exact List.getElem_mem _)
    rw [isSign, HK.out] at this
    simp at this
    omega
   ·
    obtain ⟨q, rfl⟩ := Int.eq_ofNat_of_zero_le (show 0 ≤ K by omega)
    have HQ : Hid (num s[k] = q) := by show _ = _; rw [num, HK.out]; simp
    have hq : q < 64 := by omega
    have HSg : Hid (∀ j, j < k + 1 → isSign (l.getD j 0) = true) := fun j hj => by
     rcases Nat.lt_or_ge j k with h | h
     ·
      exact hsg.out j h
     ·
      rw [show j = k by omega, HGK.out, isSign, HK.out]; simp
    clear hneg hsg HK hKge hKlt
    rcases hb with rfl | rfl | rfl | rfl
    ·
     have hv : v < 1 := hv
     go_wp2_with fail
     have hr2 : rstep ⟨o, v, 0⟩ s[k] = ⟨o, v * 64 + q, 6⟩ := by simp [rstep, HQ.out]
     refine ⟨⟨k + 1, by omega, by go_num, HSg, by rw [HS.out, hr2]; go_num, by rw [HS.out, hr2]; rfl, ?_, hbl⟩, by simp [intOf]; omega⟩
     rw [HS.out, hr2]
     exact hown
    ·
     have hv : v < 4 := hv
     have hand : bits .and .i64 ((v : Int) * 64 + (q : Int)) 0 = (((v * 64 + q) % 1 : Nat) : Int) := by
      have := and0 (v * 64 + q) (by omega)
      simp only [Int.natCast_add, Int.natCast_mul] at this
      first | exact this | (rw [show (v * 64 + q) % 1 = 0 by omega]; exact this)
     go_wp2_with (at_builtin; refine wpList_append_new wr rfl (.tmp 31) (.tmp 36) 31 rfl w.heap.size 5 i0 (.int .u8 0) 1 1 Tryz.underlying31 hi hz0 hz1 hz2 rfl (by decide) u4 o.length (Lib.byteCells o) rfl hown _ rfl rfl (by simp [Value.oneCell']) (by unfold maxLen; omega) (by omega) hbl.size ?_; intro v' w2 hown2 hg2)
     have hbl3 := grown_below hbl hown hg2 hbl.size
     have hb2 : Lib.byteCells o ++ [.int .u8 (((v : Int) * 64 + (q : Int)))] = Lib.byteCells (o ++ [UInt8.ofNat ((v * 64 + q))]) := by
      rw [Lib.byteCells_append]
      congr 1
      simp only [Lib.byteCells, List.map_cons, List.map_nil]
      rw [toNat_small ((v * 64 + q)) (by omega)]
      simp
     rw [hb2] at hown2
     have hr2 : rstep ⟨o, v, 2⟩ s[k] = ⟨o ++ [UInt8.ofNat ((v * 64 + q))], (v * 64 + q) % 1, 0⟩ := by
      simp [rstep, HQ.out]
     refine ⟨⟨k + 1, by omega, by go_num, HSg, by rw [HS.out, hr2]; show Value.int _ _ = Value.int _ _; first | rfl | (congr 1; simp [Nat.mod_one]), by rw [HS.out, hr2]; rfl, ?_, hbl3⟩, by simp [intOf]; omega⟩
     rw [HS.out, hr2]
     simpa using hown2
    ·
     have hv : v < 16 := hv
     have hand : bits .and .i64 ((v : Int) * 64 + (q : Int)) 3 = (((v * 64 + q) % 4 : Nat) : Int) := by
      have := and3 (v * 64 + q) (by omega)
      simp only [Int.natCast_add, Int.natCast_mul] at this
      first | exact this | (rw [show (v * 64 + q) % 1 = 0 by omega]; exact this)
     go_wp2_with (at_builtin; refine wpList_append_new wr rfl (.tmp 31) (.tmp 36) 31 rfl w.heap.size 5 i0 (.int .u8 0) 1 1 Tryz.underlying31 hi hz0 hz1 hz2 rfl (by decide) u4 o.length (Lib.byteCells o) rfl hown _ rfl rfl (by simp [Value.oneCell']) (by unfold maxLen; omega) (by omega) hbl.size ?_; intro v' w2 hown2 hg2)
     have hbl3 := grown_below hbl hown hg2 hbl.size
     have hb2 : Lib.byteCells o ++ [.int .u8 (((v : Int) * 64 + (q : Int)) / 4)] = Lib.byteCells (o ++ [UInt8.ofNat ((v * 64 + q) / 4)]) := by
      rw [Lib.byteCells_append]
      congr 1
      simp only [Lib.byteCells, List.map_cons, List.map_nil]
      rw [toNat_small ((v * 64 + q) / 4) (by omega)]
      simp
     rw [hb2] at hown2
     have hr2 : rstep ⟨o, v, 4⟩ s[k] = ⟨o ++ [UInt8.ofNat ((v * 64 + q) / 4)], (v * 64 + q) % 4, 2⟩ := by
      simp [rstep, HQ.out]
     refine ⟨⟨k + 1, by omega, by go_num, HSg, by rw [HS.out, hr2]; show Value.int _ _ = Value.int _ _; first | rfl | (congr 1; simp [Nat.mod_one]), by rw [HS.out, hr2]; rfl, ?_, hbl3⟩, by simp [intOf]; omega⟩
     rw [HS.out, hr2]
     simpa using hown2
    ·
     have hv : v < 64 := hv
     have hand : bits .and .i64 ((v : Int) * 64 + (q : Int)) 15 = (((v * 64 + q) % 16 : Nat) : Int) := by
      have := and15 (v * 64 + q) (by omega)
      simp only [Int.natCast_add, Int.natCast_mul] at this
      first | exact this | (rw [show (v * 64 + q) % 1 = 0 by omega]; exact this)
     go_wp2_with (at_builtin; refine wpList_append_new wr rfl (.tmp 31) (.tmp 36) 31 rfl w.heap.size 5 i0 (.int .u8 0) 1 1 Tryz.underlying31 hi hz0 hz1 hz2 rfl (by decide) u4 o.length (Lib.byteCells o) rfl hown _ rfl rfl (by simp [Value.oneCell']) (by unfold maxLen; omega) (by omega) hbl.size ?_; intro v' w2 hown2 hg2)
     have hbl3 := grown_below hbl hown hg2 hbl.size
     have hb2 : Lib.byteCells o ++ [.int .u8 (((v : Int) * 64 + (q : Int)) / 16)] = Lib.byteCells (o ++ [UInt8.ofNat ((v * 64 + q) / 16)]) := by
      rw [Lib.byteCells_append]
      congr 1
      simp only [Lib.byteCells, List.map_cons, List.map_nil]
      rw [toNat_small ((v * 64 + q) / 16) (by omega)]
      simp
     rw [hb2] at hown2
     have hr2 : rstep ⟨o, v, 6⟩ s[k] = ⟨o ++ [UInt8.ofNat ((v * 64 + q) / 16)], (v * 64 + q) % 16, 4⟩ := by
      simp [rstep, HQ.out]
     refine ⟨⟨k + 1, by omega, by go_num, HSg, by rw [HS.out, hr2]; show Value.int _ _ = Value.int _ _; first | rfl | (congr 1; simp [Nat.mod_one]), by rw [HS.out, hr2]; rfl, ?_, hbl3⟩, by simp [intOf]; omega⟩
     rw [HS.out, hr2]
     simpa using hown2
  ·
   have hks : k = l.length := by omega
   obtain ⟨A', c', hu4, hnc, hrd⟩ := own_reads hown (Nat.le_refl _)
   have hno : o.length ≤ 1000000 := by have : (l.take k).length ≤ k := List.length_take_le _ _; omega
   have HST : Hid (rst l = ⟨o, v, b⟩) := by
    show _ = _
    rw [← hst, hks, List.take_length]
   clear HS hst hle
   have hsl : s.toList = l := by rw [Lib.toList_data, hs]
   have HSL := Lib.hid hsl
   clear hsl
   subst hu4
   go_wp2_with fail
   refine (renc_walk A' o.length c' o wr hrd hno).mono ?_
   rintro e w1 ⟨rfl, hb1⟩
   have hal : l.all isSign = true := part_all_sign l (fun j hj => hsg.out j (by omega))
   have hown1 := ownsRow_below hown hb1
   by_cases heq : enc o = l
   ·
    have hne : (enc o == s.toList) = true := by rw [HSL.out, heq]; simp
    have hrdec : Hid (rdec l = some o) := by show _ = _; rw [rdec, HST.out, if_pos ⟨hal, heq⟩]
    clear heq hal
    go_wp2_with fail
    go_ret2
    exact ⟨hbl.trans (hb1.mono hbl.size), .inl ⟨o, _, hrdec.out, rfl, hown1⟩⟩
   ·
    have hne : (enc o == s.toList) = false := by rw [HSL.out]; simp [heq]
    have hrdec : Hid (rdec l = none) := by show _ = _; rw [rdec, HST.out, if_neg (fun h => heq h.2)]
    clear heq hal
    go_wp2_with fail
    go_ret2
    exact ⟨hbl.trans (hb1.mono hbl.size), .inr ⟨hrdec.out, rfl⟩⟩
end
namespace B64
theorem getD_bt (l : List UInt8) (k : Nat) (h : k < l.length) : l.getD k 0 = l[k] := by
 rw [List.getD_eq_getElem?_getD, List.getElem?_eq_getElem h]; rfl
theorem part_chunk (p : List UInt8) (h : partOk p = true) (h4 : p.length ≤ 4) : chunk (thrL p) = p ∧ 1 < p.length := by
 simp only [partOk, Bool.and_eq_true, List.all_eq_true, decide_eq_true_eq] at h
 obtain ⟨⟨hs, hl⟩, h0, h1, h2, h3⟩ := h
 refine ⟨?_, hl⟩
 have hk : ∀ k (hk : k < p.length), sgn (sxt (thrL p) k) = p[k] := by
  intro k hk
  have e : sxt (thrL p) k = nm p k := by
   match k, hk with
   | 0, _ => exact h0
   | 1, _ => exact h1
   | 2, _ => exact h2
   | 3, _ => exact h3
   | k + 4, h => omega
  rw [e, nm, if_pos hk, getD_bt p k hk]
  exact sgn_num _ (hs _ (List.getElem_mem hk))
 apply List.ext_getElem
 ·
  rw [chunk_length, thrL_length]; omega
 ·
  intro k h1 h2
  simp only [chunk, List.getElem_map, List.getElem_range]
  exact hk k h2
theorem nm_chunk (o : List UInt8) (k : Nat) (h : k ≤ o.length) : nm (chunk o) k = sxt o k := by
 have hl : k < (chunk o).length := by rw [chunk_length]; omega
 rw [nm, if_pos hl, getD_bt _ _ hl]
 simp only [chunk, List.getElem_map, List.getElem_range]
 exact (num_sgn _ (sxt_lt o k)).1
theorem nm_chunk_out (o : List UInt8) (k : Nat) (h : o.length < k) : nm (chunk o) k = 0 := by
 have hl : ¬ k < (chunk o).length := by rw [chunk_length]; omega
 rw [nm, if_neg hl]
theorem thrL_chunk (o : List UInt8) : thrL (chunk o) = (List.range o.length).map fun k => UInt8.ofNat (thr (nm (chunk o) 0) (nm (chunk o) 1) (nm (chunk o) 2) (nm (chunk o) 3) k) := by
 rw [thrL, chunk_length, Nat.add_sub_cancel]
theorem key1 (a : UInt8) : sxt [a] 2 = 0 ∧ sxt [a] 3 = 0 ∧ thr (sxt [a] 0) (sxt [a] 1) 0 0 0 = a.toNat := by
 have ha := a.toNat_lt
 refine ⟨?_, ?_, ?_⟩ <;> simp [thr, sxt, vol] <;> omega
theorem key2 (a b : UInt8) : sxt [a, b] 3 = 0 ∧ thr (sxt [a, b] 0) (sxt [a, b] 1) (sxt [a, b] 2) 0 0 = a.toNat ∧ thr (sxt [a, b] 0) (sxt [a, b] 1) (sxt [a, b] 2) 0 1 = b.toNat := by
 have ha := a.toNat_lt
 have hb := b.toNat_lt
 refine ⟨?_, ?_, ?_⟩ <;> simp [thr, sxt, vol] <;> omega
theorem key3 (a b c : UInt8) : thr (sxt [a, b, c] 0) (sxt [a, b, c] 1) (sxt [a, b, c] 2) (sxt [a, b, c] 3) 0 = a.toNat ∧ thr (sxt [a, b, c] 0) (sxt [a, b, c] 1) (sxt [a, b, c] 2) (sxt [a, b, c] 3) 1 = b.toNat ∧ thr (sxt [a, b, c] 0) (sxt [a, b, c] 1) (sxt [a, b, c] 2) (sxt [a, b, c] 3) 2 = c.toNat := by
 have ha := a.toNat_lt
 have hb := b.toNat_lt
 have hc := c.toNat_lt
 refine ⟨?_, ?_, ?_⟩ <;> simp [thr, sxt, vol] <;> omega
theorem chunk_part (o : List UInt8) (h0 : o ≠ []) (h3 : o.length ≤ 3) : partOk (chunk o) = true ∧ thrL (chunk o) = o := by
 have hi : ∀ k, isSign (sgn (sxt o k)) = true := fun k => (num_sgn _ (sxt_lt o k)).2
 have key : thrL (chunk o) = o ∧ sxt o 0 = nm (chunk o) 0 ∧ sxt o 1 = nm (chunk o) 1 ∧ sxt o 2 = nm (chunk o) 2 ∧ sxt o 3 = nm (chunk o) 3 := by
  rw [thrL_chunk]
  rcases o with _ | ⟨a, _ | ⟨b, _ | ⟨c, _ | ⟨d, r⟩⟩⟩⟩
  ·
   exact absurd rfl h0
  ·
   obtain ⟨q2, q3, ev⟩ := key1 a
   rw [nm_chunk [a] 0 (by simp), nm_chunk [a] 1 (by simp), nm_chunk_out [a] 2 (by simp), nm_chunk_out [a] 3 (by simp)]
   exact ⟨by simp [List.range_succ, ev], rfl, rfl, q2, q3⟩
  ·
   obtain ⟨q3, ev, ew⟩ := key2 a b
   rw [nm_chunk [a, b] 0 (by simp), nm_chunk [a, b] 1 (by simp), nm_chunk [a, b] 2 (by simp), nm_chunk_out [a, b] 3 (by simp)]
   exact ⟨by simp [List.range_succ, ev, ew], rfl, rfl, rfl, q3⟩
  ·
   obtain ⟨ev, ew, ex⟩ := key3 a b c
   rw [nm_chunk [a, b, c] 0 (by simp), nm_chunk [a, b, c] 1 (by simp), nm_chunk [a, b, c] 2 (by simp), nm_chunk [a, b, c] 3 (by simp)]
   exact ⟨by simp [List.range_succ, ev, ew, ex], rfl, rfl, rfl, rfl⟩
  ·
   simp at h3
 refine ⟨?_, key.1⟩
 simp only [partOk, Bool.and_eq_true, List.all_eq_true, decide_eq_true_eq, key.1]
 refine ⟨⟨fun x hx => ?_, ?_⟩, key.2⟩
 ·
  simp only [chunk, List.mem_map] at hx
  obtain ⟨k, _, rfl⟩ := hx
  exact hi k
 ·
  rw [chunk_length]
  have : 0 < o.length := List.length_pos_iff.2 h0
  omega
theorem b64_dec_enc : ∀ b : List UInt8, dec (enc b) = some b
 | [] => rfl
 | [a] => by
  have h := chunk_part [a] (by simp) (by simp)
  have hne : chunk [a] ≠ [] := by simp [chunk]
  rw [enc, dec_step _ hne, List.take_of_length_le (by rw [chunk_length]; simp), if_pos h.1, h.2, List.drop_of_length_le (by rw [chunk_length]; simp)]
  rfl
 | [a, b] => by
  have h := chunk_part [a, b] (by simp) (by simp)
  have hne : chunk [a, b] ≠ [] := by simp [chunk]
  rw [enc, dec_step _ hne, List.take_of_length_le (by rw [chunk_length]; simp), if_pos h.1, h.2, List.drop_of_length_le (by rw [chunk_length]; simp)]
  rfl
 | a :: b :: c :: r => by
  have h := chunk_part [a, b, c] (by simp) (by simp)
  have hl : (chunk [a, b, c]).length = 4 := chunk_length _
  have hne : chunk [a, b, c] ++ enc r ≠ [] := by simp [chunk]
  rw [enc, dec_step _ hne, List.take_left' hl, List.drop_left' hl, if_pos h.1, h.2, b64_dec_enc r]
  rfl
theorem enc_dec (n : Nat) : ∀ (l b : List UInt8), l.length ≤ n → dec l = some b → enc b = l := by
 induction n with
 | zero =>
  intro l b hl h
  obtain rfl : l = [] := List.eq_nil_of_length_eq_zero (by omega)
  simp only [dec, Option.some.injEq] at h
  subst h; rfl
 | succ n ih =>
  intro l b hl h
  rcases Decidable.em (l = []) with rfl | hne
  ·
   simp only [dec, Option.some.injEq] at h
   subst h; rfl
  ·
   rw [dec_step l hne] at h
   by_cases hp : partOk (l.take 4) = true
   ·
    rw [if_pos hp] at h
    obtain ⟨b', hb', rfl⟩ := Option.map_eq_some_iff.1 h
    obtain ⟨hc, h1⟩ := part_chunk _ hp (List.length_take_le _ _)
    have hpos : 0 < l.length := List.length_pos_iff.2 hne
    have ih' := ih (l.drop 4) b' (by rw [List.length_drop]; omega) hb'
    rcases Nat.lt_or_ge l.length 4 with h4 | h4
    ·
     rw [List.drop_of_length_le (by omega)] at hb' ih'
     simp only [dec, Option.some.injEq] at hb'
     subst hb'
     rw [List.append_nil, enc_small _ (by intro e; rw [e] at hc; rw [← hc] at h1; simp [chunk] at h1) (by rw [thrL_length, List.length_take]; omega), hc, List.take_of_length_le (by omega)]
    ·
     have hl4 : (l.take 4).length = 4 := by rw [List.length_take]; omega
     rw [enc_append _ _ (by rw [thrL_length, hl4]), ih', enc_small _ (by intro e; have := congrArg List.length e; rw [thrL_length, hl4] at this; simp at this) (by rw [thrL_length, hl4]; decide), hc, List.take_append_drop]
   ·
    rw [if_neg hp] at h; cases h
theorem enc_signs : ∀ b : List UInt8, (enc b).all isSign = true := by
 have hc : ∀ o : List UInt8, (chunk o).all isSign = true := by
  intro o
  rw [List.all_eq_true]
  intro x hx
  simp only [chunk, List.mem_map] at hx
  obtain ⟨k, _, rfl⟩ := hx
  exact (num_sgn _ (sxt_lt o k)).2
 intro b
 induction b using enc.induct with
 | case1 => rfl
 | case2 a => exact hc _
 | case3 a b => exact hc _
 | case4 a b c r ih => rw [enc, List.all_append, hc, ih]; rfl
theorem rst_enc_from : ∀ (b acc : List UInt8), ((enc b).foldl rstep ⟨acc, 0, 0⟩).out = acc ++ b := by
 have hn : ∀ o k, num (sgn (sxt o k)) = sxt o k := fun o k => (num_sgn _ (sxt_lt o k)).1
 intro b
 induction b using enc.induct with
 | case1 => intro acc; simp [enc]
 | case2 a =>
  intro acc
  have ha := a.toNat_lt
  have e : enc [a] = [sgn (sxt [a] 0), sgn (sxt [a] 1)] := rfl
  have ev : (sxt [a] 0 * 64 + sxt [a] 1) / 16 = a.toNat := by simp [sxt, vol]; omega
  rw [e]
  simp [rstep, hn, ev]
 | case3 a b =>
  intro acc
  have ha := a.toNat_lt
  have hb := b.toNat_lt
  have e : enc [a, b] = [sgn (sxt [a, b] 0), sgn (sxt [a, b] 1), sgn (sxt [a, b] 2)] := rfl
  have ev : (sxt [a, b] 0 * 64 + sxt [a, b] 1) / 16 = a.toNat := by simp [sxt, vol]; omega
  have ew : ((sxt [a, b] 0 * 64 + sxt [a, b] 1) % 16 * 64 + sxt [a, b] 2) / 4 = b.toNat := by simp [sxt, vol]; omega
  rw [e]
  simp [rstep, hn, ev, ew]
 | case4 a b c r ih =>
  intro acc
  have ha := a.toNat_lt
  have hb := b.toNat_lt
  have hc := c.toNat_lt
  have e : chunk [a, b, c] = [sgn (sxt [a, b, c] 0), sgn (sxt [a, b, c] 1), sgn (sxt [a, b, c] 2), sgn (sxt [a, b, c] 3)] := rfl
  have ev : (sxt [a, b, c] 0 * 64 + sxt [a, b, c] 1) / 16 = a.toNat := by simp [sxt, vol]; omega
  have ew : ((sxt [a, b, c] 0 * 64 + sxt [a, b, c] 1) % 16 * 64 + sxt [a, b, c] 2) / 4 = b.toNat := by simp [sxt, vol]; omega
  have ex : ((sxt [a, b, c] 0 * 64 + sxt [a, b, c] 1) % 16 * 64 + sxt [a, b, c] 2) % 4 * 64 + sxt [a, b, c] 3 = c.toNat := by simp [sxt, vol]; omega
  have key : (chunk [a, b, c]).foldl rstep ⟨acc, 0, 0⟩ = ⟨acc ++ [a, b, c], 0, 0⟩ := by
   rw [e]
   simp [rstep, hn, ev, ew, ex, Nat.mod_one]
  rw [enc, List.foldl_append, key, ih]
  simp
theorem rdec_eq (l : List UInt8) : rdec l = dec l := by
 by_cases h : l.all isSign = true ∧ enc (rst l).out = l
 ·
  rw [rdec, if_pos h]
  have := b64_dec_enc (rst l).out
  rw [h.2] at this
  exact this.symm
 ·
  rw [rdec, if_neg h]
  cases hd : dec l with
  | none => rfl
  | some b =>
   exfalso
   have he := enc_dec l.length l b (Nat.le_refl _) hd
   apply h
   have h2 : (rst l).out = b := by
    have := rst_enc_from b []
    rw [he] at this
    simpa [rst] using this
   exact ⟨by rw [← he]; exact enc_signs b, by rw [h2]; exact he⟩
theorem enc_length : ∀ l : List UInt8, (enc l).length = (l.length * 8 + 5) / 6
 | [] => rfl
 | [a] => by rw [enc, chunk_length]; simp
 | [a, b] => by rw [enc, chunk_length]; simp
 | a :: b :: c :: r => by
  rw [enc, List.length_append, chunk_length, enc_length r]
  simp only [List.length_cons, List.length_nil]
  omega
end B64
section
open Go.RowKit
def markT (t : Tm) : List UInt8 := if (putT t).length = 0 then [] else [126] ++ B64.enc (putT t) ++ [126]
theorem put_le (t : Tm) : (putT t).length ≤ 65728 := by
 rw [putT]
 split
 ·
  rename_i h; exact enc_bound h
 ·
  simp
theorem mark_le (t : Tm) : (markT t).length ≤ 131460 := by
 have h1 := put_le t
 have h2 := B64.enc_le (putT t)
 rw [markT]
 split
 ·
  simp
 ·
  simp; omega
def innerO (l : List UInt8) : Option Tm := match B64.dec l with | none => none | some b => match oneT b with | .error _ => none | .ok t => some t
def sideB (l : List UInt8) : Bool := !decide (l.length < 2) && ([126].isPrefixOf l && [126].isSuffixOf l)
def midL (l : List UInt8) : List UInt8 := (l.drop 1).take (l.length - 2)
def readO (l : List UInt8) : Option Tm := if sideB l = true then innerO (midL l) else none
theorem text_walk (t : Tm) (kind n : Int) (s : ByteArray) (A : Option Addr) (m c : Nat) (w : World) (ht : TmV w 0 t [.int .i64 kind, .int .i64 n, .string s, .slice A m c]) :
  Calls Tryz.prog 38 #[.agg #[.int .i64 kind, .int .i64 n, .string s, .slice A m c]] w fun e w' => e = .returned (.string ⟨(markT t).toArray⟩) ∧ Below w.heap.size w w' := by
 have hb1 := (Below.refl w.heap.size w).alloc (Nat.le_refl _) (.cells #[.int .i64 kind, .int .i64 n, .string s, .slice A m c] 41)
 have hbx := Blk.new w 41 #[.int .i64 kind, .int .i64 n, .string s, .slice A m c]
 have cp := Lib.hid (put_walk t kind n s A m c _ (ht.below hb1))
 have HB1 := Lib.hid hb1
 have HBX := Lib.hid hbx
 have hle := put_le t
 have hel := B64.enc_le (putT t)
 have HM : Hid (markT t = if (putT t).length = 0 then [] else [126] ++ B64.enc (putT t) ++ [126]) := rfl
 generalize putT t = b at cp hle hel HM
 clear hb1
 go_enter Tryz.func38, Tryz.ntmps38
 go_wp2_with (refine wpList_load_at rfl 41 _ rfl ⟨w.heap.size, 0, none⟩ rfl [.int .i64 kind, .int .i64 n, .string s, .slice A m c] _ (blk_cells hbx) Tryz.underlying41 rfl term_size ?_)
 refine cp.out.mono ?_
 rintro _ w1 ⟨v, rfl, hown, hb2⟩
 obtain ⟨A1, c1, rfl, hc1, hr1⟩ := own_reads hown (Nat.le_refl _)
 have HB2 := Lib.hid (below_next HB1.out hb2)
 by_cases h0 : b.length = 0
 ·
  have hz : ((b.length : Int) == 0) = true := by rw [beq_iff_eq]; omega
  have hv : Hid (markT t = []) := by show _ = _; rw [HM.out, if_pos h0]
  clear hown hb2 cp hr1
  go_wp2_with fail
  go_ret
  rw [hv.out]
  exact ⟨rfl, HB2.out⟩
 ·
  have hz : ((b.length : Int) == 0) = false := by rw [beq_eq_false_iff_ne]; omega
  have hv : Hid (markT t = [126] ++ B64.enc b ++ [126]) := by show _ = _; rw [HM.out, if_neg h0]
  have ce := Lib.hid (enc_walk A1 b.length c1 b w1 hr1 (by omega) (by omega))
  have hadd := fun w => run_string_add_lists (P := Tryz.prog) w [126] (B64.enc b) (by decide) (by omega)
  have hadd2 := fun w => run_string_add_lists (P := Tryz.prog) w ([126] ++ B64.enc b) [126] (by simp; omega) (by decide)
  clear hown hb2 cp hr1 HM
  go_wp2_with fail
  refine ce.out.mono ?_
  rintro _ w2 ⟨rfl, hb3⟩
  have HB3 := Lib.hid (below_next HB2.out hb3)
  clear hb3 ce
  go_wp2_with fail
  go_ret
  rw [hv.out]
  exact ⟨rfl, HB3.out⟩
theorem rtext_walk (t : Tm) (kind n : Int) (s : ByteArray) (A : Option Addr) (m c : Nat) (w : World) (ht : TmV w 0 t [.int .i64 kind, .int .i64 n, .string s, .slice A m c]) :
  Calls Tryz.prog 29 #[.agg #[.int .i64 kind, .int .i64 n, .string s, .slice A m c]] w fun e w' => e = .returned (.string ⟨(markT t).toArray⟩) ∧ Below w.heap.size w w' := by
 have hb1 := (Below.refl w.heap.size w).alloc (Nat.le_refl _) (.cells #[.int .i64 kind, .int .i64 n, .string s, .slice A m c] 41)
 have hbx := Blk.new w 41 #[.int .i64 kind, .int .i64 n, .string s, .slice A m c]
 have cp := Lib.hid (rputm_walk t kind n s A m c _ (ht.below hb1))
 have HB1 := Lib.hid hb1
 have HBX := Lib.hid hbx
 have hle := put_le t
 have hel := B64.enc_le (putT t)
 have HM : Hid (markT t = if (putT t).length = 0 then [] else [126] ++ B64.enc (putT t) ++ [126]) := rfl
 generalize putT t = b at cp hle hel HM
 clear hb1
 go_enter Tryz.func29, Tryz.ntmps29
 go_wp2_with (refine wpList_load_at rfl 41 _ rfl ⟨w.heap.size, 0, none⟩ rfl [.int .i64 kind, .int .i64 n, .string s, .slice A m c] _ (blk_cells hbx) Tryz.underlying41 rfl term_size ?_)
 refine cp.out.mono ?_
 rintro _ w1 ⟨v, rfl, hown, hb2⟩
 obtain ⟨A1, c1, rfl, hc1, hr1⟩ := own_reads hown (Nat.le_refl _)
 have HB2 := Lib.hid (below_next HB1.out hb2)
 by_cases h0 : b.length = 0
 ·
  have hz : ((b.length : Int) == 0) = true := by rw [beq_iff_eq]; omega
  have hv : Hid (markT t = []) := by show _ = _; rw [HM.out, if_pos h0]
  clear hown hb2 cp hr1
  go_wp2_with fail
  go_ret
  rw [hv.out]
  exact ⟨rfl, HB2.out⟩
 ·
  have hz : ((b.length : Int) == 0) = false := by rw [beq_eq_false_iff_ne]; omega
  have hv : Hid (markT t = [126] ++ B64.enc b ++ [126]) := by show _ = _; rw [HM.out, if_neg h0]
  have ce := Lib.hid (renc_walk A1 b.length c1 b w1 hr1 (by omega))
  have hadd := fun w => run_string_add_lists (P := Tryz.prog) w [126] (B64.enc b) (by decide) (by omega)
  have hadd2 := fun w => run_string_add_lists (P := Tryz.prog) w ([126] ++ B64.enc b) [126] (by simp; omega) (by decide)
  clear hown hb2 cp hr1 HM
  go_wp2_with fail
  refine ce.out.mono ?_
  rintro _ w2 ⟨rfl, hb3⟩
  have HB3 := Lib.hid (below_next HB2.out hb3)
  clear hb3 ce
  go_wp2_with fail
  go_ret
  rw [hv.out]
  exact ⟨rfl, HB3.out⟩
end
section
open Go.RowKit
end
end K9
end Go.Proofs.YtieppmppdmcleaaGreatDoor

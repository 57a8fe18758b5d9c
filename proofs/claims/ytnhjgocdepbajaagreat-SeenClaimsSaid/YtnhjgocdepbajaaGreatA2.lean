/- A text parted at one sign: strings.Split by a separator of one byte. No condition of its own. -/
import Derived.Test.YtnhjgocdepbajaaGreatKit
import Derived.Lib.RuneCount
set_option linter.unusedVariables false
set_option linter.unusedSimpArgs false
set_option maxRecDepth 20000
namespace Go.Proofs.YtnhjgocdepbajaaGreat
open Go.RowKit
def splitC (c : UInt8) : List UInt8 → List (List UInt8)
 | [] => [[]]
 | x :: l => if x = c then [] :: splitC c l else match splitC c l with
  | [] => [[x]]
  | p :: ps => (x :: p) :: ps
theorem splitC_ne (c : UInt8) : ∀ l, splitC c l ≠ []
 | [] => by simp [splitC]
 | x :: l => by
  rw [splitC]
  split
  ·
   simp
  ·
   split <;> simp
theorem splitC_len (c : UInt8) : ∀ l, (splitC c l).length = l.count c + 1
 | [] => rfl
 | x :: l => by
  have ih := splitC_len c l
  rw [splitC]
  split
  ·
   rename_i h
   rw [List.length_cons, ih, h, List.count_cons_self]
  ·
   rename_i h
   rw [List.count_cons_of_ne (by simpa using h)]
   split
   ·
    rename_i h2; exact absurd h2 (splitC_ne c l)
   ·
    rename_i p ps h2
    rw [h2] at ih
    simpa using ih
theorem size_mks (l : List UInt8) : (⟨l.toArray⟩ : ByteArray).size = l.length := by simp [ByteArray.size]
theorem str_eta (s : ByteArray) (l : List UInt8) (h : s.data.toList = l) : s = ⟨l.toArray⟩ := by subst h; simp
def strV (l : List UInt8) : Value := .string ⟨l.toArray⟩
def strVs (ps : List (List UInt8)) : List Value := ps.map strV
def fillS (done : List (List UInt8)) (n : Nat) : List Value := strVs done ++ List.replicate (n - done.length) (.string ⟨#[]⟩)
theorem fillS_len {done : List (List UInt8)} {n : Nat} (h : done.length ≤ n) : (fillS done n).length = n := by simp [fillS, strVs]; omega
theorem fillS_made (n : Nat) : madeCells #[.string ⟨#[]⟩] n = (fillS [] n).toArray := by
 apply Array.ext_getElem?
 intro j
 have e : (fillS [] n).toArray = Array.replicate n (Value.string ⟨#[]⟩) := by simp [fillS, strVs]
 rw [e]
 by_cases hj : j < n
 ·
  simp [madeCells, hj, Nat.mod_one]
 ·
  simp [madeCells, hj]
theorem info_string : (Tryz.prog.info? 9).map (fun i => (i.zero, i.size, i.bytes)) = some (some (.string ⟨#[]⟩), 1, 16) := by kernel_rfl
theorem infoS4 {P : Program} {t : TypeId} {z : Value} {n b : Nat} (h : (P.info? t).map (fun i => (i.zero, i.size, i.bytes)) = some (some z, n, b)) : ∃ i, P.info? t = some i ∧ i.zero = some z ∧ i.size = n ∧ i.bytes = b := by
 cases hi : P.info? t with
 | none => rw [hi] at h; cases h
 | some i =>
  rw [hi] at h
  simp at h
  exact ⟨i, rfl, h.1, h.2.1, h.2.2⟩
end Go.Proofs.YtnhjgocdepbajaaGreat
set_option linter.unusedVariables false
set_option linter.unusedSimpArgs false
set_option maxRecDepth 20000
namespace Go.Proofs.YtnhjgocdepbajaaGreat
open Go.RowKit
def greatB (c : Nat) : Bool := decide (65 ≤ c) && decide (c ≤ 90)
def smallB (c : Nat) : Bool := decide (97 ≤ c) && decide (c ≤ 122)
def digitB (c : Nat) : Bool := decide (48 ≤ c) && decide (c ≤ 57)
def sixtyB (c : Nat) : Bool := greatB c || smallB c || digitB c || decide (c = 45) || decide (c = 95)
def plainB (c : Nat) : Bool := sixtyB c || decide (c = 46) || decide (c = 126)
theorem str_at {s : ByteArray} {l : List UInt8} (hs : s.data.toList = l) {k : Nat} (hk : k < s.size) : (s[k]'hk).toNat = (l.getD k 0).toNat := by
 subst hs
 rw [List.getD_eq_getElem?_getD, List.getElem?_eq_getElem (by simpa using hk)]
 rfl
theorem all_no {l : List UInt8} {p : Nat → Bool} {k : Nat} (hk : k < l.length) (h : p (l.getD k 0).toNat = false) : (l.all fun b => p b.toNat) = false := by
 rw [List.all_eq_false]
 exact ⟨l[k], List.getElem_mem hk, by rw [List.getD_eq_getElem?_getD, List.getElem?_eq_getElem hk] at h; simpa using h⟩
theorem all_yes {l : List UInt8} {p : Nat → Bool} (h : ∀ j, j < l.length → p (l.getD j 0).toNat = true) : (l.all fun b => p b.toNat) = true := by
 rw [List.all_eq_true]
 intro x hx
 obtain ⟨j, hj, he⟩ := List.getElem_of_mem hx
 have := h j hj
 rwa [List.getD_eq_getElem?_getD, List.getElem?_eq_getElem hj, Option.getD_some, he] at this
end Go.Proofs.YtnhjgocdepbajaaGreat
/- A text parted at one sign: countersignref6.Parts. No condition of its own. -/
set_option linter.unusedVariables false
set_option linter.unusedSimpArgs false
set_option maxRecDepth 20000
namespace Go.Proofs.YtnhjgocdepbajaaGreat
open Go.RowKit
def partsTo (c : UInt8) (l : List UInt8) : List (List UInt8) × List UInt8 :=
 l.foldl (fun r x => if x = c then (r.1 ++ [r.2], []) else (r.1, r.2 ++ [x])) ([], [])
theorem parts_from (c : UInt8) : ∀ (l : List UInt8) (a : List (List UInt8)) (b : List UInt8),
  (l.foldl (fun (r : List (List UInt8) × List UInt8) x => if x = c then (r.1 ++ [r.2], []) else (r.1, r.2 ++ [x])) (a, b)).1 ++ [(l.foldl (fun (r : List (List UInt8) × List UInt8) x => if x = c then (r.1 ++ [r.2], []) else (r.1, r.2 ++ [x])) (a, b)).2] = a ++ (match splitC c l with | [] => [b] | p :: ps => (b ++ p) :: ps)
 | [], a, b => by simp [splitC]
 | x :: l, a, b => by
  rw [List.foldl_cons]
  by_cases h : x = c
  ·
   rw [if_pos h, parts_from c l, splitC, if_pos h]
   simp only
   cases hs : splitC c l with
   | nil => exact absurd hs (splitC_ne c l)
   | cons p ps => simp
  ·
   rw [if_neg h, parts_from c l, splitC, if_neg h]
   simp only
   cases hs : splitC c l with
   | nil => exact absurd hs (splitC_ne c l)
   | cons p ps => simp
theorem parts_all (c : UInt8) (l : List UInt8) : (partsTo c l).1 ++ [(partsTo c l).2] = splitC c l := by
 rw [partsTo, parts_from c l [] []]
 cases hs : splitC c l with
 | nil => exact absurd hs (splitC_ne c l)
 | cons p ps => simp
theorem parts_succ (c : UInt8) (l : List UInt8) (i : Nat) (x : UInt8) (h : l[i]? = some x) : partsTo c (l.take (i + 1)) = if x = c then ((partsTo c (l.take i)).1 ++ [(partsTo c (l.take i)).2], []) else ((partsTo c (l.take i)).1, (partsTo c (l.take i)).2 ++ [x]) := by
 rw [partsTo, List.take_add_one, h, List.foldl_append]
 rfl
theorem parts_at (c : UInt8) (l : List UInt8) : ∀ i, i ≤ l.length → (partsTo c (l.take i)).2.length ≤ i ∧ (partsTo c (l.take i)).2 = (l.take i).drop (i - (partsTo c (l.take i)).2.length) ∧ (partsTo c (l.take i)).1.length ≤ i
 | 0, _ => by simp [partsTo]
 | i + 1, h => by
  obtain ⟨h1, h2, h3⟩ := parts_at c l i (by omega)
  obtain ⟨x, hx⟩ : ∃ x, l[i]? = some x := ⟨l[i], List.getElem?_eq_getElem (by omega)⟩
  have ht : (l.take (i + 1)) = l.take i ++ [x] := by rw [List.take_add_one, hx]; rfl
  have hl : (l.take i).length = i := by rw [List.length_take]; omega
  rw [parts_succ c l i x hx]
  by_cases hc : x = c
  ·
   rw [if_pos hc]
   refine ⟨by simp, ?_, by simp; omega⟩
   simp only [List.length_nil, Nat.sub_zero]
   rw [List.drop_eq_nil_of_le (by rw [List.length_take]; omega)]
  ·
   rw [if_neg hc]
   refine ⟨by simp; omega, ?_, by show (partsTo c (l.take i)).1.length ≤ i + 1; omega⟩
   simp only [List.length_append, List.length_singleton]
   rw [ht, List.drop_append_of_le_length (by omega)]
   congr 1
   rw [show i + 1 - ((partsTo c (l.take i)).2.length + 1) = i - (partsTo c (l.take i)).2.length by omega]
   exact h2
def PartsR (ps : List (List UInt8)) (w : World) (e : Ending) (w' : World) : Prop :=
 ∃ v, e = .returned v ∧ w'.ownsRow w.heap.size 9 1 v ps.length (strVs ps) ∧ Below w.heap.size w w'
theorem one_str (s : ByteArray) (l : List UInt8) (hs : s.data.toList = l) (i : Nat) (x : UInt8) (h : l[i]? = some x) (c : UInt8) : ((s.extract i (i + 1)).toList == [c]) = decide (x = c) := by
 rw [ByteArray.toList_eq, Lib.extract_data, hs]
 have hi := (List.getElem?_eq_some_iff.1 h).1
 have : (l.drop i).take (i + 1 - i) = [x] := by
  rw [List.getElem?_eq_getElem hi] at h
  injection h with h
  rw [show i + 1 - i = 1 by omega, List.drop_eq_getElem_cons hi, List.take_succ_cons, List.take_zero, h]
 rw [this, Bool.eq_iff_iff]
 simp
set_option maxHeartbeats 4000000 in
theorem parts_walk (s : ByteArray) (l : List UInt8) (hs : s.data.toList = l) (c : UInt8) (w : World) (hm : s.size ≤ 1000000) :
  Calls Tryz.prog 106 #[.string s, .string ⟨#[c]⟩] w (PartsR (splitC c l) w) := by
 obtain ⟨i0, hi, hz0, hz1, hz2⟩ := infoS4 info_string
 have hsz : l.length = s.size := by rw [← hs, Lib.size_eq]
 go_enter Tryz.func106, Tryz.ntmps106
 go_wp2_with fail
 go_loopw [5, 6, 7] (fun ov fv iv wr => ∃ i : Nat, i ≤ s.size ∧ iv = .int .i64 i ∧ fv = .int .i64 ((i - (partsTo c (l.take i)).2.length : Nat) : Int) ∧ Hid (wr.ownsRow w.heap.size 9 1 ov (partsTo c (l.take i)).1.length (strVs (partsTo c (l.take i)).1)) ∧ Hid (Below w.heap.size w wr)) (fun _ _ iv _ => s.size - (intOf iv).toNat)
 case atStart => exact ⟨0, by omega, rfl, by simp [partsTo], World.ownsRow_nil _ _ _ _, Below.refl _ _⟩
 case round =>
  obtain ⟨i, his, rfl, rfl, hown, hb⟩ := hrel
  obtain ⟨hp1, hp2, hp3⟩ := parts_at c l i (by omega)
  obtain ⟨a, b, hab⟩ : ∃ a b, partsTo c (l.take i) = (a, b) := ⟨_, _, rfl⟩
  rw [hab] at hp1 hp2 hp3 hown ⊢
  have HAB := Lib.hid hab
  have HP2 := Lib.hid hp2
  clear hab hp2
  simp only at hp1 hp3 hown ⊢
  obtain ⟨f, hf⟩ : ∃ f, i - b.length = f := ⟨_, rfl⟩
  have hfi : f ≤ i := by omega
  rw [hf] at HP2 ⊢
  have HF := Lib.hid hf
  clear hf
  have hbe : (s.extract f i).data.toList = b := by
   rw [Lib.extract_data, hs, ← List.drop_take]
   exact HP2.out.symm
  have hst := str_eta _ _ hbe
  have hsz2 := hb.out.size
  have hal : a.length ≤ 1000000 := by omega
  have hfd : decide ((f : Int) ≤ (i : Int)) = true := by simp; omega
  have hfd2 : decide (f ≤ i) = true := by simpa using hfi
  clear hbe
  by_cases hlt : i < s.size
  ·
   obtain ⟨x, hx⟩ : ∃ x, l[i]? = some x := ⟨l[i]'(by omega), List.getElem?_eq_getElem (by omega)⟩
   have hone := one_str s l hs i x hx c
   have HX := Lib.hid hx
   clear hx
   by_cases hc : x = c
   ·
    have hcd : ((s.extract i (i + 1)).toList == [c]) = true := by rw [hone]; simpa using hc
    clear hone
    subst hc
    go_wp2_with (at_builtin; refine wpList_append_new wr rfl (.tmp 31) (.tmp 36) 45 rfl w.heap.size 9 i0 (.string ⟨#[]⟩) 1 16 Tryz.underlying45 hi hz0 hz1 hz2 rfl (by decide) u5 a.length (strVs a) rfl hown.out [.string ⟨b.toArray⟩] rfl rfl (by simp [Value.oneCell']) (by unfold maxLen; omega) (by omega) hsz2 ?_; intro v' w2 hown2 hg2)
    have hns : partsTo x (l.take (i + 1)) = (a ++ [b], []) := by rw [parts_succ x l i x HX.out, if_pos rfl, HAB.out]
    have HB2 := Lib.hid (hb.out.grown hg2 hsz2 (fun q e => (hown.out.lt q e).1))
    refine ⟨⟨i + 1, by omega, by go_num, by rw [hns]; rfl, ?_, HB2⟩, by simp [intOf]; omega⟩
    show World.ownsRow _ _ _ _ _ _ _
    rw [hns]
    simpa [strVs, strV] using hown2
   ·
    have hcd : ((s.extract i (i + 1)).toList == [c]) = false := by rw [hone]; simpa using hc
    have hns : partsTo c (l.take (i + 1)) = (a, b ++ [x]) := by rw [parts_succ c l i x HX.out, if_neg hc, HAB.out]
    have HNS := Lib.hid hns
    clear hone hst hns
    go_wp2_with fail
    refine ⟨⟨i + 1, by omega, by go_num, ?_, ?_, hb⟩, by simp [intOf]; omega⟩
    ·
     rw [HNS.out]
     congr 2
     have := HF.out
     simp
     omega
    ·
     show World.ownsRow _ _ _ _ _ _ _
     rw [HNS.out]
     exact hown.out
  ·
   obtain rfl : i = s.size := by omega
   have hall := parts_all c l
   have hl2 : l.take s.size = l := by rw [← hsz, List.take_length]
   rw [hl2] at HAB
   rw [HAB.out] at hall
   have HALL := Lib.hid hall
   clear hall hl2
   go_wp2_with (at_builtin; refine wpList_append_new wr rfl (.tmp 42) (.tmp 46) 45 rfl w.heap.size 9 i0 (.string ⟨#[]⟩) 1 16 Tryz.underlying45 hi hz0 hz1 hz2 rfl (by decide) u5 a.length (strVs a) rfl hown.out [.string ⟨b.toArray⟩] rfl rfl (by simp [Value.oneCell']) (by unfold maxLen; omega) (by omega) hsz2 ?_; intro v' w2 hown2 hg2)
   go_ret
   refine ⟨v', rfl, ?_, hb.out.grown hg2 hsz2 (fun q e => (hown.out.lt q e).1)⟩
   rw [← HALL.out]
   simpa [strVs, strV] using hown2
end Go.Proofs.YtnhjgocdepbajaaGreat
/- A set of texts in memory, as a map of bools. No condition of its own. -/
set_option linter.unusedVariables false
set_option linter.unusedSimpArgs false
set_option maxRecDepth 20000
namespace Go.Proofs.YtnhjgocdepbajaaGreat
open Go.RowKit Go.Maps
def boolElem : Value → Option (DataW Unit × List MemPlace)
 | .bool b => some (.lit (.bool b), [])
 | _ => none
def keysS (ps : List (List UInt8)) : List Lit := ps.map Lit.string
def mapS (ps : List (List UInt8)) : DataW Unit := setOf (.lit (.bool true)) (keysS ps)
def MapS (w : World) (b : Nat) (ps : List (List UInt8)) : Prop := ∃ n, w.ownsMap Tryz.prog 9 boolElem b n (mapS ps)
theorem MapS.below {w w' : World} {b B : Nat} {ps : List (List UInt8)} (h : MapS w b ps) (hb : Below B w w') (hB : b < B) : MapS w' b ps := by
 obtain ⟨n, es, clock, h1, h2⟩ := h
 exact ⟨n, es, clock, (hb.block b hB).trans h1, h2⟩
theorem MapS.lt {w : World} {b : Nat} {ps : List (List UInt8)} (h : MapS w b ps) : b < w.heap.size := by
 obtain ⟨n, h⟩ := h
 exact h.lt
theorem MapS.kept {w w' : World} {b : Nat} {ps : List (List UInt8)} {row : Option Nat} (h : MapS w b ps) (hg : w.grownBy w' row) (hne : some b ≠ row) : MapS w' b ps := by
 obtain ⟨n, h⟩ := h
 exact ⟨n, h.kept hg hne⟩
end Go.Proofs.YtnhjgocdepbajaaGreat
/- Plain words of runes: what a text's bytes are as runes, one behind the other; its front of so many runes. No program in sight, no condition. -/
set_option linter.unusedVariables false
set_option linter.unusedSimpArgs false
set_option maxRecDepth 20000
namespace Go.Proofs.YtnhjgocdepbajaaGreat.Tx
def bt (l : List UInt8) (k : Nat) : Nat := (l.getD k 0).toNat
theorem bt_lt (l : List UInt8) (k : Nat) : bt l k < 256 := (l.getD k 0).toNat_lt
def cont (l : List UInt8) (k : Nat) : Bool := decide (k < l.length) && bt l k / 64 == 2
def dc (l : List UInt8) : Nat × Nat :=
 if bt l 0 < 128 then (bt l 0, 1)
 else if bt l 0 / 32 == 6 && cont l 1 then
  if (bt l 0 % 32) * 64 + bt l 1 % 64 ≥ 128 then ((bt l 0 % 32) * 64 + bt l 1 % 64, 2) else (65533, 1)
 else if bt l 0 / 16 == 14 && cont l 1 && cont l 2 then
  if (bt l 0 % 16) * 4096 + (bt l 1 % 64) * 64 + bt l 2 % 64 ≥ 2048 && Utf8.valid ((bt l 0 % 16) * 4096 + (bt l 1 % 64) * 64 + bt l 2 % 64) then ((bt l 0 % 16) * 4096 + (bt l 1 % 64) * 64 + bt l 2 % 64, 3) else (65533, 1)
 else if bt l 0 / 8 == 30 && cont l 1 && cont l 2 && cont l 3 then
  if (bt l 0 % 8) * 262144 + (bt l 1 % 64) * 4096 + (bt l 2 % 64) * 64 + bt l 3 % 64 ≥ 65536 && Utf8.valid ((bt l 0 % 8) * 262144 + (bt l 1 % 64) * 4096 + (bt l 2 % 64) * 64 + bt l 3 % 64) then ((bt l 0 % 8) * 262144 + (bt l 1 % 64) * 4096 + (bt l 2 % 64) * 64 + bt l 3 % 64, 4) else (65533, 1)
 else (65533, 1)
theorem cont_lt {l : List UInt8} {k : Nat} (h : cont l k = true) : k < l.length := by
 simp only [cont, Bool.and_eq_true, decide_eq_true_eq] at h; exact h.1
theorem dc_pos (l : List UInt8) : 1 ≤ (dc l).2 := by
 unfold dc
 repeat' split
 all_goals simp
theorem dc_le (l : List UInt8) (h : l ≠ []) : (dc l).2 ≤ l.length := by
 have h0 : 0 < l.length := List.length_pos_iff.2 h
 unfold dc
 split
 ·
  exact h0
 ·
  split
  ·
   rename_i hc
   simp only [Bool.and_eq_true] at hc
   have := cont_lt hc.2
   split <;> simp <;> omega
  ·
   split
   ·
    rename_i hc
    simp only [Bool.and_eq_true] at hc
    have := cont_lt hc.2
    split <;> simp <;> omega
   ·
    split
    ·
     rename_i hc
     simp only [Bool.and_eq_true] at hc
     have := cont_lt hc.2
     split <;> simp <;> omega
    ·
     exact h0
theorem decode_dc (s : ByteArray) (pos : Nat) (h : pos < s.size) : Utf8.decode s pos = dc (s.data.toList.drop pos) := by
 have hg : ∀ k, pos + k < s.size → (s.get! (pos + k)).toNat = bt (s.data.toList.drop pos) k := by
  intro k hk
  have : s.get! (pos + k) = s.data.toList[pos + k]'(by simpa using hk) := by
   simp only [ByteArray.get!]
   rw [getElem!_pos s.data (pos + k) hk]
   simp
  rw [this, bt, List.getD_eq_getElem?_getD, List.getElem?_drop, List.getElem?_eq_getElem (by simpa using hk)]
  rfl
 have hc : ∀ k, (decide (pos + k < s.size) && (s.get! (pos + k)).toNat / 64 == 2) = cont (s.data.toList.drop pos) k := by
  intro k
  have hll : (s.data.toList.drop pos).length = s.size - pos := by rw [List.length_drop]; simp
  unfold cont
  by_cases hk : pos + k < s.size
  ·
   rw [hg k hk]
   have h1 : k < (s.data.toList.drop pos).length := by omega
   simp only [hk, h1, decide_true]
  ·
   have h1 : ¬ k < (s.data.toList.drop pos).length := by omega
   simp only [hk, h1, decide_false, Bool.false_and]
 have h0 := hg 0 (by omega)
 unfold Utf8.decode dc
 simp only [hc, h0, Utf8.runeError]
 by_cases c1 : cont (s.data.toList.drop pos) 1 = true
 ·
  have e1 := hg 1 (by have := cont_lt c1; rw [List.length_drop] at this; simp at this; omega)
  by_cases c2 : cont (s.data.toList.drop pos) 2 = true
  ·
   have e2 := hg 2 (by have := cont_lt c2; rw [List.length_drop] at this; simp at this; omega)
   by_cases c3 : cont (s.data.toList.drop pos) 3 = true
   ·
    have e3 := hg 3 (by have := cont_lt c3; rw [List.length_drop] at this; simp at this; omega)
    simp only [c1, c2, c3, e1, e2, e3]; rfl
   ·
    simp only [c1, c2, c3, e1, e2]; simp
  ·
   simp only [c1, c2, e1]; simp
 ·
  simp only [c1]; simp
def rn : Nat → List UInt8 → List (Nat × Nat)
 | 0, _ => []
 | f + 1, l => if l = [] then [] else dc l :: rn f (l.drop (dc l).2)
def runes (l : List UInt8) : List (Nat × Nat) := rn l.length l
theorem rn_enough : ∀ (f : Nat) (l : List UInt8), l.length ≤ f → rn f l = rn l.length l
 | 0, l, h => by rw [show l.length = 0 by omega]
 | f + 1, l, h => by
  by_cases hl : l = []
  ·
   subst hl; simp [rn]
  ·
   have h0 : 0 < l.length := List.length_pos_iff.2 hl
   obtain ⟨n, hn⟩ : ∃ n, l.length = n + 1 := ⟨l.length - 1, by omega⟩
   have hp := dc_pos l
   rw [hn, rn, rn, if_neg hl, if_neg hl, rn_enough f _ (by rw [List.length_drop]; omega), rn_enough n _ (by rw [List.length_drop]; omega)]
theorem runes_nil : runes [] = [] := rfl
theorem runes_cons (l : List UInt8) (h : l ≠ []) : runes l = dc l :: runes (l.drop (dc l).2) := by
 have h0 : 0 < l.length := List.length_pos_iff.2 h
 obtain ⟨n, hn⟩ : ∃ n, l.length = n + 1 := ⟨l.length - 1, by omega⟩
 have hp := dc_pos l
 rw [runes, hn, rn, if_neg h, rn_enough n _ (by rw [List.length_drop]; omega)]
 rfl
def posAt : List UInt8 → Nat → Nat
 | _, 0 => 0
 | l, k + 1 => if l = [] then 0 else (dc l).2 + posAt (l.drop (dc l).2) k
theorem posAt_spec : ∀ (k : Nat) (l : List UInt8), k ≤ (runes l).length → posAt l k ≤ l.length ∧ runes (l.drop (posAt l k)) = (runes l).drop k ∧
  (posAt l k < l.length → k < (runes l).length ∧ (runes l)[k]? = some (dc (l.drop (posAt l k))) ∧ posAt l (k + 1) = posAt l k + (dc (l.drop (posAt l k))).2) ∧ (¬ posAt l k < l.length → k = (runes l).length)
 | 0, l, _ => by
  refine ⟨Nat.zero_le _, by simp [posAt], fun h => ?_, fun h => ?_⟩
  ·
   have hl : l ≠ [] := List.length_pos_iff.1 (by simpa [posAt] using h)
   rw [runes_cons l hl]
   simp [posAt, hl]
  ·
   have hl : l = [] := List.eq_nil_of_length_eq_zero (by simpa [posAt] using h)
   subst hl; simp [runes_nil]
 | k + 1, l, h => by
  by_cases hl : l = []
  ·
   subst hl; simp [runes_nil] at h
  ·
   have hc := runes_cons l hl
   rw [hc] at h ⊢
   have hle := dc_le l hl
   obtain ⟨h1, h2, h3, h4⟩ := posAt_spec k (l.drop (dc l).2) (by simpa using h)
   have hpos : posAt l (k + 1) = (dc l).2 + posAt (l.drop (dc l).2) k := by rw [posAt, if_neg hl]
   have hpos2 : posAt l (k + 2) = (dc l).2 + posAt (l.drop (dc l).2) (k + 1) := by rw [posAt, if_neg hl]
   rw [List.length_drop] at h1 h3 h4
   rw [List.drop_drop] at h2 h3
   rw [hpos, hpos2]
   refine ⟨by omega, by simpa using h2, fun hlt => ?_, fun hlt => ?_⟩
   ·
    obtain ⟨q1, q2, q3⟩ := h3 (by omega)
    refine ⟨by simpa using q1, by simpa using q2, by rw [q3]; omega⟩
   ·
    have := h4 (by omega)
    simp [this]
end Go.Proofs.YtnhjgocdepbajaaGreat.Tx
set_option linter.unusedVariables false
set_option linter.unusedSimpArgs false
set_option maxRecDepth 20000
namespace Go.Proofs.YtnhjgocdepbajaaGreat
open Go.RowKit Tx
theorem runes_le (l : List UInt8) : (runes l).length ≤ l.length := by
 have : ∀ (f : Nat) (l : List UInt8), (rn f l).length ≤ f := by
  intro f
  induction f with
  | zero => intro l; simp [rn]
  | succ f ih =>
   intro l
   rw [rn]
   split
   ·
    simp
   ·
    have := ih (l.drop (dc l).2)
    simp; omega
 exact this _ _
def validL (l : List UInt8) : Bool := (runes l).all fun x => x.1 != 65533
theorem valid_no {l : List UInt8} {k r : Nat} (h : (runes l)[k]? = some (dc (l.drop (posAt l k)))) (h2 : (dc (l.drop (posAt l k))).1 = r) (hr : r = 65533) : validL l = false := by
 rw [validL, List.all_eq_false]
 refine ⟨_, List.mem_of_getElem? h, ?_⟩
 rw [h2, hr]; simp
theorem valid_yes {l : List UInt8} (h : ∀ j x, j < (runes l).length → (runes l)[j]? = some x → x.1 ≠ 65533) : validL l = true := by
 rw [validL, List.all_eq_true]
 intro x hx
 obtain ⟨j, hj, he⟩ := List.getElem_of_mem hx
 have := h j x hj (by rw [List.getElem?_eq_getElem hj, he])
 simpa using this
theorem upto_succ {l : List UInt8} {k r : Nat} {p : Nat → Prop} (h : ∀ j x, j < k → (runes l)[j]? = some x → p x.1) (h1 : (runes l)[k]? = some (dc (l.drop (posAt l k)))) (h2 : (dc (l.drop (posAt l k))).1 = r) (hr : p r) : ∀ j x, j < k + 1 → (runes l)[j]? = some x → p x.1 := by
 intro j x hj hx
 rcases Nat.lt_or_ge j k with h' | h'
 ·
  exact h j x h' hx
 ·
  obtain rfl : j = k := by omega
  rw [h1] at hx
  injection hx with hx
  rw [← hx, h2]; exact hr
end Go.Proofs.YtnhjgocdepbajaaGreat

/- Texts parted, fields, forms. No condition of its own. -/
import Derived.Test.YtekbdfnbnpmclaaGreatDoorKit
import Derived.Lib.IndexLaws
import Derived.Lib.Bytealg
import Derived.Laws.Rows
import Derived.Test.YtekbdfnbnpmclaaGreatDoorVa
import Derived.Laws.StructEq
import Derived.Deep.MidRow
import Derived.Lib.BufferMore
import Derived.Deep.RegionHeld3
import Derived.Lib.Join
import Derived.Deep.RegionHeld
import Derived.WalkMore
import Derived.Deep.Onto
import Derived.ScopeJumps
import Derived.Deep.Slices
import Derived.WalkKit
import Derived.ProofKit
set_option linter.unusedVariables false
set_option linter.unusedSimpArgs false
set_option maxRecDepth 20000
namespace Go.Proofs.YtekbdfnbnpmclaaGreatDoor
section
open Go.RowKit
/-- the parts of a text between signs c -/
def splitC (c : UInt8) : List UInt8 → List (List UInt8)
  | [] => [[]]
  | x :: l => if x = c then [] :: splitC c l else match splitC c l with
    | [] => [[x]]
    | p :: ps => (x :: p) :: ps
theorem splitC_ne (c : UInt8) : ∀ l, splitC c l ≠ []
  | [] => by simp [splitC]
  | x :: l => by
    rw [splitC]
    split
    · simp
    · split <;> simp
theorem splitC_len (c : UInt8) : ∀ l, (splitC c l).length = l.count c + 1
  | [] => rfl
  | x :: l => by
    have ih := splitC_len c l
    rw [splitC]
    split
    · rename_i h
      rw [List.length_cons, ih, h, List.count_cons_self]
    · rename_i h
      rw [List.count_cons_of_ne (by simpa using h)]
      split
      · rename_i h2; exact absurd h2 (splitC_ne c l)
      · rename_i p ps h2
        rw [h2] at ih
        simpa using ih
theorem splitC_none (c : UInt8) : ∀ l, l.count c = 0 → splitC c l = [l]
  | [], _ => rfl
  | x :: l, h => by
    have hx : x ≠ c := by
      intro e
      rw [e, List.count_cons_self] at h
      omega
    rw [List.count_cons_of_ne hx] at h
    rw [splitC, if_neg hx, splitC_none c l h]
theorem splitC_at (c : UInt8) : ∀ (l : List UInt8) (m : Nat), l[m]? = some c → (∀ k, k < m → l[k]? ≠ some c) → splitC c l = l.take m :: splitC c (l.drop (m + 1)) ∧ l.count c = (l.drop (m + 1)).count c + 1
  | [], m, h, _ => by simp at h
  | x :: l, 0, h, _ => by
    have hx : x = c := by simpa using h
    rw [splitC, if_pos hx, hx]
    exact ⟨rfl, by rw [List.count_cons_self]; rfl⟩
  | x :: l, m + 1, h, hk => by
    have hx : x ≠ c := by
      intro e
      exact hk 0 (by omega) (by simp [e])
    obtain ⟨h1, h2⟩ := splitC_at c l m (by simpa using h) (fun k hkm => by have := hk (k + 1) (by omega); simpa using this)
    rw [splitC, if_neg hx, h1, List.count_cons_of_ne hx, h2]
    exact ⟨rfl, rfl⟩
theorem index_split (c : UInt8) (l : List UInt8) (h : 0 < l.count c) : ∃ m : Nat, Lib.indexByte l c = (m : Int) ∧ m < l.length ∧ splitC c l = l.take m :: splitC c (l.drop (m + 1)) ∧ l.count c = (l.drop (m + 1)).count c + 1 := by
  have hge := Lib.indexByte_ge l c
  rcases Int.lt_or_le (Lib.indexByte l c) 0 with h0 | h0
  · have hn := Lib.indexByte_none (show Lib.indexByte l c = -1 by omega)
    obtain ⟨k, hk⟩ := List.mem_iff_getElem?.1 (List.count_pos_iff.1 h)
    exact absurd hk (hn k)
  · obtain ⟨m, hm⟩ := Int.eq_ofNat_of_zero_le h0
    obtain ⟨h1, h2⟩ := Lib.indexByte_some hm
    obtain ⟨h3, h4⟩ := splitC_at c l m h1 h2
    exact ⟨m, hm, (List.getElem?_eq_some_iff.1 h1).1, h3, h4⟩
theorem size_mks (l : List UInt8) : (⟨l.toArray⟩ : ByteArray).size = l.length := by simp [ByteArray.size]
theorem str_eta (s : ByteArray) (l : List UInt8) (h : s.data.toList = l) : s = ⟨l.toArray⟩ := by subst h; simp
/-- texts as cells -/
def strV (l : List UInt8) : Value := .string ⟨l.toArray⟩
def strVs (ps : List (List UInt8)) : List Value := ps.map strV
/-- a row of k texts, the first of them filled -/
def fillS (done : List (List UInt8)) (n : Nat) : List Value := strVs done ++ List.replicate (n - done.length) (.string ⟨#[]⟩)
theorem fillS_len {done : List (List UInt8)} {n : Nat} (h : done.length ≤ n) : (fillS done n).length = n := by simp [fillS, strVs]; omega
theorem fillS_cell {done : List (List UInt8)} {n : Nat} (h : done.length < n) : (fillS done n).toArray[done.length]? = some (.string ⟨#[]⟩) := by
  have h1 : (fillS done n)[done.length]? = some (.string ⟨#[]⟩) := by
    rw [fillS, List.getElem?_append_right (by simp [strVs]), show done.length - (strVs done).length = 0 by simp [strVs], List.getElem?_replicate, if_pos (by omega)]
  simpa using h1
theorem fillS_set {done : List (List UInt8)} {n : Nat} (p : List UInt8) (h : done.length < n) : (fillS done n).toArray.setIfInBounds done.length (.string ⟨p.toArray⟩) = (fillS (done ++ [p]) n).toArray := by
  have e : fillS done n = strVs done ++ .string ⟨#[]⟩ :: List.replicate (n - (done.length + 1)) (.string ⟨#[]⟩) := by
    rw [fillS, show n - done.length = (n - (done.length + 1)) + 1 by omega, List.replicate_succ]
  have e2 : fillS (done ++ [p]) n = strVs done ++ .string ⟨p.toArray⟩ :: List.replicate (n - (done.length + 1)) (.string ⟨#[]⟩) := by
    rw [fillS, strVs, List.map_append, List.length_append]
    simp [strVs, strV]
  rw [e, e2, List.setIfInBounds_toArray]
  congr 1
  have hl : (strVs done).length = done.length := by simp [strVs]
  rw [List.set_append_right _ _ (by omega), hl, Nat.sub_self]
  rfl
theorem fillS_full (ps : List (List UInt8)) : fillS ps ps.length = strVs ps := by simp [fillS]
theorem fillS_made (n : Nat) : madeCells #[.string ⟨#[]⟩] n = (fillS [] n).toArray := by
  apply Array.ext_getElem?
  intro j
  have e : (fillS [] n).toArray = Array.replicate n (Value.string ⟨#[]⟩) := by simp [fillS, strVs]
  rw [e]
  by_cases hj : j < n
  · simp [madeCells, hj, Nat.mod_one]
  · simp [madeCells, hj]
theorem info_string : (Tryz.prog.info? 9).map (fun i => (i.zero, i.size, i.bytes)) = some (some (.string ⟨#[]⟩), 1, 16) := by kernel_rfl
theorem infoS4 {P : Program} {t : TypeId} {z : Value} {n b : Nat} (h : (P.info? t).map (fun i => (i.zero, i.size, i.bytes)) = some (some z, n, b)) : ∃ i, P.info? t = some i ∧ i.zero = some z ∧ i.size = n ∧ i.bytes = b := by
  cases hi : P.info? t with
  | none => rw [hi] at h; cases h
  | some i =>
    rw [hi] at h
    simp at h
    exact ⟨i, rfl, h.1, h.2.1, h.2.2⟩
def SplitR (ps : List (List UInt8)) (w : World) (e : Ending) (w' : World) : Prop :=
  ∃ g : Nat, e = .returned (.slice (some ⟨g, 0, none⟩) ps.length ps.length) ∧ w.heap.size ≤ g ∧ Blk w' g 9 (strVs ps).toArray ∧ Below w.heap.size w w'
set_option maxHeartbeats 4000000 in
theorem genSplit_walk (s : ByteArray) (l : List UInt8) (hs : s.data.toList = l) (c : UInt8) (w : World) (hm : s.size ≤ 1000000) :
    Calls Tryz.prog 49 #[.string s, .string ⟨#[c]⟩, .int .i64 0, .int .i64 (-1)] w (SplitR (splitC c l) w) := by
  obtain ⟨i0, hi, hz0, hz1, hz2⟩ := infoS4 info_string
  have hsz : l.length = s.size := by rw [← hs, Lib.size_eq]
  have hcl : l.count c ≤ l.length := List.count_le_length
  have cc := Lib.hid (Tryz.strings_Count_one s c w)
  have hce : Lib.countByte s.data.toList c = l.count c := by rw [hs]; rfl
  rw [hce] at cc
  have hsl := splitC_len c l
  obtain ⟨n, hn⟩ : ∃ n, l.count c = n := ⟨_, rfl⟩
  rw [hn] at cc hcl hsl
  have HN := Lib.hid hn
  obtain ⟨N, hN⟩ : ∃ N : Nat, n + 1 = N := ⟨_, rfl⟩
  have hmin : min ((n : Int) + 1) ((s.size : Int) + 1) = (N : Int) := by omega
  have hN1 : (N : Int) - 1 = (n : Int) := by omega
  rw [hN] at hsl
  clear hce hn
  go_enter Tryz.func49, Tryz.ntmps49
  go_wp2_with fail
  refine cc.out.mono ?_
  rintro _ w1 ⟨rfl, rfl⟩
  have hbr := Blk.new w1 9 (madeCells #[.string ⟨#[]⟩] N)
  have hbl := (Below.refl w1.heap.size w1).alloc (Nat.le_refl _) (.cells (madeCells #[.string ⟨#[]⟩] N) 9)
  rw [fillS_made] at hbr hbl
  have HBR := Lib.hid hbr
  have HBL := Lib.hid hbl
  clear hbr hbl
  go_wp2_with (refine wpList_make_row w1 rfl _ _ 29 rfl 9 i0 (.string ⟨#[]⟩) Tryz.underlying29 hi hz0 hz1 rfl .i64 .i64 N rfl rfl (by rw [hz2]; omega) (by omega) ?_)
  rw [fillS_made]
  go_loopw [0, 10] (fun sv iv wr => ∃ (done : List (List UInt8)) (t : ByteArray) (lt : List UInt8), t.data.toList = lt ∧ Hid (splitC c l = done ++ splitC c lt) ∧ done.length ≤ n ∧ Hid (lt.count c = n - done.length) ∧ t.size ≤ 1000000 ∧ sv = .string t ∧ iv = .int .i64 done.length ∧ Hid (Blk wr w1.heap.size 9 (fillS done N).toArray) ∧ Hid (Below w1.heap.size w1 wr)) (fun _ iv _ => n - (intOf iv).toNat)
  case atStart => exact ⟨[], s, l, hs, rfl, by simp, by show _ = _; rw [HN.out]; rfl, hm, rfl, rfl, HBR, HBL⟩
  case round =>
    clear HBR HBL cc
    obtain ⟨done, t, lt, ht, hsp, hdn, hct, htm, rfl, rfl, hbk, hb⟩ := hrel
    have hdN : done.length < N := by omega
    have hc0 : wr.cell? ⟨w1.heap.size, done.length, none⟩ = some (.string ⟨#[]⟩) := (hbk.out.cell _).trans (fillS_cell hdN)
    have hf0 := hbk.out.frozen done.length
    by_cases hlt : done.length < n
    · obtain ⟨m, hm1, hm2, hm3, hm4⟩ := index_split c lt (by have := hct.out; omega)
      have ci := Lib.hid (Tryz.strings_Index_one t c wr)
      rw [ht, hm1] at ci
      have htl : lt.length = t.size := by rw [← ht, Lib.size_eq]
      have hd1 : (t.extract 0 m).data.toList = lt.take m := by rw [Lib.extract_data, ht]; simp
      have hd2 : (t.extract (m + 1) t.size).data.toList = lt.drop (m + 1) := by rw [Lib.extract_to_end, ht]
      have hst := str_eta _ _ hd1
      have HNX := Lib.hid (hbk.out.set_ done.length (.string ⟨(lt.take m).toArray⟩))
      have HBX := Lib.hid (hb.out.setCell (p := ⟨w1.heap.size, done.length, none⟩) (Nat.le_refl _) (.string ⟨(lt.take m).toArray⟩))
      have hmt : m < t.size := by omega
      have HM3 := Lib.hid hm3
      have HM4 := Lib.hid hm4
      have HD2 := Lib.hid hd2
      have hsz2 : (t.extract (m + 1) t.size).size ≤ 1000000 := by rw [ByteArray.size_extract]; omega
      clear hm1 hm2 hm3 hm4 htl hd1 hd2 hbk hb
      go_wp2_with fail
      refine ci.out.mono ?_
      rintro _ w2 ⟨rfl, rfl⟩
      go_wp2_with fail
      rw [fillS_set _ hdN] at HNX
      refine ⟨⟨done ++ [lt.take m], t.extract (m + 1) t.size, lt.drop (m + 1), HD2.out, ?_, by simp; omega, ?_, hsz2, rfl, by simp, HNX.out, HBX.out⟩, by simp [intOf]; omega⟩
      · show _ = _
        rw [hsp.out, HM3.out, List.append_assoc]
        rfl
      · show _ = _
        have h1 := hct.out
        have h2 := HM4.out
        simp
        omega
    · obtain rfl : n = done.length := by omega
      have hl0 : lt.count c = 0 := by have := hct.out; omega
      have hone := splitC_none c lt hl0
      have hst := str_eta _ _ ht
      have HSP : Hid (splitC c l = done ++ [lt]) := by show _ = _; rw [hsp.out, hone]
      have HNX := Lib.hid (hbk.out.set_ done.length (.string ⟨lt.toArray⟩))
      have HBX := Lib.hid (hb.out.setCell (p := ⟨w1.heap.size, done.length, none⟩) (Nat.le_refl _) (.string ⟨lt.toArray⟩))
      clear hone hl0 hbk hb
      subst hst
      have e1 : (done.length : Int) + 1 ≤ (N : Int) := by omega
      have e2 : ((done.length : Int) + 1).toNat = N := by omega
      rw [fillS_set _ hdN] at HNX
      have hfull : fillS (done ++ [lt]) N = strVs (splitC c l) := by rw [HSP.out, show N = (done ++ [lt]).length by simp; omega, fillS_full]
      rw [hfull] at HNX
      have hsl2 := Lib.hid hsl
      clear hfull hsl
      go_wp2_with fail
      go_ret
      exact ⟨w1.heap.size, by rw [hsl2.out]; rfl, Nat.le_refl _, HNX.out, HBX.out⟩
theorem split_walk (s : ByteArray) (l : List UInt8) (hs : s.data.toList = l) (c : UInt8) (w : World) (hm : s.size ≤ 1000000) :
    Calls Tryz.prog 37 #[.string s, .string ⟨#[c]⟩] w (SplitR (splitC c l) w) := by
  have cg := Lib.hid (genSplit_walk s l hs c w hm)
  clear hm
  go_enter Tryz.func37, Tryz.ntmps37
  go_wp2_with fail
  refine cg.out.mono ?_
  rintro _ w1 ⟨g, rfl, hg, hk, hb⟩
  have HK := Lib.hid hk
  have HB := Lib.hid hb
  clear hk hb cg
  go_wp2_with fail
  go_ret
  exact ⟨g, rfl, hg, HK.out, HB.out⟩
end
section
open Go.RowKit
/-- the parts that are done behind so many bytes, and the part that has begun -/
def partsTo (c : UInt8) (l : List UInt8) : List (List UInt8) × List UInt8 :=
  l.foldl (fun r x => if x = c then (r.1 ++ [r.2], []) else (r.1, r.2 ++ [x])) ([], [])
theorem parts_from (c : UInt8) : ∀ (l : List UInt8) (a : List (List UInt8)) (b : List UInt8),
    (l.foldl (fun (r : List (List UInt8) × List UInt8) x => if x = c then (r.1 ++ [r.2], []) else (r.1, r.2 ++ [x])) (a, b)).1 ++ [(l.foldl (fun (r : List (List UInt8) × List UInt8) x => if x = c then (r.1 ++ [r.2], []) else (r.1, r.2 ++ [x])) (a, b)).2] = a ++ (match splitC c l with | [] => [b] | p :: ps => (b ++ p) :: ps)
  | [], a, b => by simp [splitC]
  | x :: l, a, b => by
    rw [List.foldl_cons]
    by_cases h : x = c
    · rw [if_pos h, parts_from c l, splitC, if_pos h]
      simp only
      cases hs : splitC c l with
      | nil => exact absurd hs (splitC_ne c l)
      | cons p ps => simp
    · rw [if_neg h, parts_from c l, splitC, if_neg h]
      simp only
      cases hs : splitC c l with
      | nil => exact absurd hs (splitC_ne c l)
      | cons p ps => simp
theorem parts_all (c : UInt8) (l : List UInt8) : (partsTo c l).1 ++ [(partsTo c l).2] = splitC c l := by
  rw [partsTo, parts_from c l [] []]
  cases hs : splitC c l with
  | nil => exact absurd hs (splitC_ne c l)
  | cons p ps => simp
theorem parts_succ (c : UInt8) (l : List UInt8) (i : Nat) (x : UInt8) (h : l[i]? = some x) : partsTo c (l.take (i + 1)) = if x = c then ((partsTo c (l.take i)).1 ++ [(partsTo c (l.take i)).2], []) else ((partsTo c (l.take i)).1, (partsTo c (l.take i)).2 ++ [x]) := by
  rw [partsTo, List.take_add_one, h, List.foldl_append]
  rfl
/-- where the part that has begun stands -/
theorem parts_at (c : UInt8) (l : List UInt8) : ∀ i, i ≤ l.length → (partsTo c (l.take i)).2.length ≤ i ∧ (partsTo c (l.take i)).2 = (l.take i).drop (i - (partsTo c (l.take i)).2.length) ∧ (partsTo c (l.take i)).1.length ≤ i
  | 0, _ => by simp [partsTo]
  | i + 1, h => by
    obtain ⟨h1, h2, h3⟩ := parts_at c l i (by omega)
    obtain ⟨x, hx⟩ : ∃ x, l[i]? = some x := ⟨l[i], List.getElem?_eq_getElem (by omega)⟩
    have ht : (l.take (i + 1)) = l.take i ++ [x] := by rw [List.take_add_one, hx]; rfl
    have hl : (l.take i).length = i := by rw [List.length_take]; omega
    rw [parts_succ c l i x hx]
    by_cases hc : x = c
    · rw [if_pos hc]
      refine ⟨by simp, ?_, by simp; omega⟩
      simp only [List.length_nil, Nat.sub_zero]
      rw [List.drop_eq_nil_of_le (by rw [List.length_take]; omega)]
    · rw [if_neg hc]
      refine ⟨by simp; omega, ?_, by show (partsTo c (l.take i)).1.length ≤ i + 1; omega⟩
      simp only [List.length_append, List.length_singleton]
      rw [ht, List.drop_append_of_le_length (by omega)]
      congr 1
      rw [show i + 1 - ((partsTo c (l.take i)).2.length + 1) = i - (partsTo c (l.take i)).2.length by omega]
      exact h2
def PartsR (ps : List (List UInt8)) (w : World) (e : Ending) (w' : World) : Prop :=
  ∃ v, e = .returned v ∧ w'.ownsRow w.heap.size 9 1 v ps.length (strVs ps) ∧ Below w.heap.size w w'
theorem one_str (s : ByteArray) (l : List UInt8) (hs : s.data.toList = l) (i : Nat) (x : UInt8) (h : l[i]? = some x) (c : UInt8) : ((s.extract i (i + 1)).toList == [c]) = decide (x = c) := by
  rw [ByteArray.toList_eq, Lib.extract_data, hs]
  have hi := (List.getElem?_eq_some_iff.1 h).1
  have : (l.drop i).take (i + 1 - i) = [x] := by
    rw [List.getElem?_eq_getElem hi] at h
    injection h with h
    rw [show i + 1 - i = 1 by omega, List.drop_eq_getElem_cons hi, List.take_succ_cons, List.take_zero, h]
  rw [this, Bool.eq_iff_iff]
  simp
set_option maxHeartbeats 4000000 in
theorem parts_walk (s : ByteArray) (l : List UInt8) (hs : s.data.toList = l) (c : UInt8) (w : World) (hm : s.size ≤ 1000000) :
    Calls Tryz.prog 30 #[.string s, .string ⟨#[c]⟩] w (PartsR (splitC c l) w) := by
  obtain ⟨i0, hi, hz0, hz1, hz2⟩ := infoS4 info_string
  have hsz : l.length = s.size := by rw [← hs, Lib.size_eq]
  go_enter Tryz.func30, Tryz.ntmps30
  go_wp2_with fail
  go_loopw [5, 6, 7] (fun ov fv iv wr => ∃ i : Nat, i ≤ s.size ∧ iv = .int .i64 i ∧ fv = .int .i64 ((i - (partsTo c (l.take i)).2.length : Nat) : Int) ∧ Hid (wr.ownsRow w.heap.size 9 1 ov (partsTo c (l.take i)).1.length (strVs (partsTo c (l.take i)).1)) ∧ Hid (Below w.heap.size w wr)) (fun _ _ iv _ => s.size - (intOf iv).toNat)
  case atStart => exact ⟨0, by omega, rfl, by simp [partsTo], World.ownsRow_nil _ _ _ _, Below.refl _ _⟩
  case round =>
    obtain ⟨i, his, rfl, rfl, hown, hb⟩ := hrel
    obtain ⟨hp1, hp2, hp3⟩ := parts_at c l i (by omega)
    obtain ⟨a, b, hab⟩ : ∃ a b, partsTo c (l.take i) = (a, b) := ⟨_, _, rfl⟩
    rw [hab] at hp1 hp2 hp3 hown ⊢
    have HAB := Lib.hid hab
    have HP2 := Lib.hid hp2
    clear hab hp2
    simp only at hp1 hp3 hown ⊢
    obtain ⟨f, hf⟩ : ∃ f, i - b.length = f := ⟨_, rfl⟩
    have hfi : f ≤ i := by omega
    rw [hf] at HP2 ⊢
    have HF := Lib.hid hf
    clear hf
    have hbe : (s.extract f i).data.toList = b := by
      rw [Lib.extract_data, hs, ← List.drop_take]
      exact HP2.out.symm
    have hst := str_eta _ _ hbe
    have hsz2 := hb.out.size
    have hal : a.length ≤ 1000000 := by omega
    have hfd : decide ((f : Int) ≤ (i : Int)) = true := by simp; omega
    have hfd2 : decide (f ≤ i) = true := by simpa using hfi
    clear hbe
    by_cases hlt : i < s.size
    · obtain ⟨x, hx⟩ : ∃ x, l[i]? = some x := ⟨l[i]'(by omega), List.getElem?_eq_getElem (by omega)⟩
      have hone := one_str s l hs i x hx c
      have HX := Lib.hid hx
      clear hx
      by_cases hc : x = c
      · have hcd : ((s.extract i (i + 1)).toList == [c]) = true := by rw [hone]; simpa using hc
        clear hone
        subst hc
        go_wp2_with (at_builtin; refine wpList_append_new wr rfl (.tmp 31) (.tmp 36) 29 rfl w.heap.size 9 i0 (.string ⟨#[]⟩) 1 16 Tryz.underlying29 hi hz0 hz1 hz2 rfl (by decide) u5 a.length (strVs a) rfl hown.out [.string ⟨b.toArray⟩] rfl rfl (by simp [Value.oneCell']) (by unfold maxLen; omega) (by omega) hsz2 ?_; intro v' w2 hown2 hg2)
        have hns : partsTo x (l.take (i + 1)) = (a ++ [b], []) := by rw [parts_succ x l i x HX.out, if_pos rfl, HAB.out]
        have HB2 := Lib.hid (hb.out.grown hg2 hsz2 (fun q e => (hown.out.lt q e).1))
        refine ⟨⟨i + 1, by omega, by go_num, by rw [hns]; rfl, ?_, HB2⟩, by simp [intOf]; omega⟩
        show World.ownsRow _ _ _ _ _ _ _
        rw [hns]
        simpa [strVs, strV] using hown2
      · have hcd : ((s.extract i (i + 1)).toList == [c]) = false := by rw [hone]; simpa using hc
        have hns : partsTo c (l.take (i + 1)) = (a, b ++ [x]) := by rw [parts_succ c l i x HX.out, if_neg hc, HAB.out]
        have HNS := Lib.hid hns
        clear hone hst hns
        go_wp2_with fail
        refine ⟨⟨i + 1, by omega, by go_num, ?_, ?_, hb⟩, by simp [intOf]; omega⟩
        · rw [HNS.out]
          congr 2
          have := HF.out
          simp
          omega
        · show World.ownsRow _ _ _ _ _ _ _
          rw [HNS.out]
          exact hown.out
    · obtain rfl : i = s.size := by omega
      have hall := parts_all c l
      have hl2 : l.take s.size = l := by rw [← hsz, List.take_length]
      rw [hl2] at HAB
      rw [HAB.out] at hall
      have HALL := Lib.hid hall
      clear hall hl2
      go_wp2_with (at_builtin; refine wpList_append_new wr rfl (.tmp 42) (.tmp 46) 29 rfl w.heap.size 9 i0 (.string ⟨#[]⟩) 1 16 Tryz.underlying29 hi hz0 hz1 hz2 rfl (by decide) u5 a.length (strVs a) rfl hown.out [.string ⟨b.toArray⟩] rfl rfl (by simp [Value.oneCell']) (by unfold maxLen; omega) (by omega) hsz2 ?_; intro v' w2 hown2 hg2)
      go_ret
      refine ⟨v', rfl, ?_, hb.out.grown hg2 hsz2 (fun q e => (hown.out.lt q e).1)⟩
      rw [← HALL.out]
      simpa [strVs, strV] using hown2
end
section
open Go.RowKit
structure Fl where
  n : List UInt8
  v : List UInt8
  deriving DecidableEq
def Fl.cells (f : Fl) : List Value := [strV f.n, strV f.v]
def Fl.arr (f : Fl) : Array Value := f.cells.toArray
theorem Fl.len (f : Fl) : f.cells.length = 2 := rfl
theorem Fl.sz (f : Fl) : f.arr.size = 2 := rfl
theorem Fl.at0 (f : Fl) : f.arr[0]? = some (.string ⟨f.n.toArray⟩) := rfl
theorem Fl.at1 (f : Fl) : f.arr[1]? = some (.string ⟨f.v.toArray⟩) := rfl
theorem arr_of (a b : List UInt8) : (#[.string ⟨a.toArray⟩, .string ⟨b.toArray⟩] : Array Value) = (Fl.mk a b).arr := rfl
theorem zero_of : (#[.string ⟨#[]⟩, .string ⟨#[]⟩] : Array Value) = (Fl.mk [] []).arr := rfl
/-- values written into an array one by one -/
def putAll (cur : Array Value) : Nat → List Value → Array Value
  | _, [] => cur
  | o, v :: r => putAll (cur.setIfInBounds o v) (o + 1) r
theorem putAll_size : ∀ (vs : List Value) (o : Nat) (cur : Array Value), (putAll cur o vs).size = cur.size
  | [], _, _ => rfl
  | v :: r, o, cur => by rw [putAll, putAll_size r]; simp
theorem putAll_at : ∀ (vs : List Value) (o : Nat) (cur : Array Value), o + vs.length ≤ cur.size → ∀ j, (putAll cur o vs)[j]? = if o ≤ j ∧ j < o + vs.length then vs[j - o]? else cur[j]?
  | [], o, cur, _, j => by rw [putAll, if_neg (fun h => by have := h.1; have := h.2; simp at this; omega)]
  | v :: r, o, cur, h, j => by
    rw [putAll, putAll_at r (o + 1) _ (by simp at h ⊢; omega)]
    by_cases h1 : j = o
    · subst h1
      rw [if_neg (by omega), if_pos (by simp)]
      simp at h
      simp [Array.getElem?_setIfInBounds, show j < cur.size by omega]
    · by_cases h2 : o + 1 ≤ j ∧ j < o + 1 + r.length
      · rw [if_pos h2, if_pos (by simp; omega), show j - o = j - (o + 1) + 1 by omega]
        simp
      · rw [if_neg h2, if_neg (by simp; omega), Array.getElem?_setIfInBounds, if_neg (fun e => h1 e.symm)]
theorem putAll_whole (vs : List Value) (cur : Array Value) (h : cur.size = vs.length) : putAll cur 0 vs = vs.toArray := by
  apply Array.ext_getElem?
  intro j
  rw [putAll_at vs 0 cur (by omega)]
  by_cases hj : j < vs.length
  · rw [if_pos (by omega)]; simp
  · rw [if_neg (by omega), Array.getElem?_eq_none (by omega), Array.getElem?_eq_none (by simp; omega)]
theorem setCells_row (g : Nat) (t : TypeId) : ∀ (vs : List Value) (o : Nat) (w : World) (cur : Array Value), w.heap[g]? = some (.cells cur t (0, 0)) → w.setCells g o vs = w.setRow g (putAll cur o vs)
  | [], o, w, cur, h => (setRow_self w g cur t (0, 0) h).symm
  | v :: r, o, w, cur, h => by
    have h2 := heap_setCell_same w g o cur t v h
    rw [World.setCells, setCells_row g t r (o + 1) _ _ h2, setCell_eq_setRow w g o cur t (0, 0) v h, setRow_setRow, putAll]
theorem alloc_setRow (w : World) (cur cs : Array Value) (t : TypeId) : (w.alloc (.cells cur t)).setRow w.heap.size cs = w.alloc (.cells cs t) := by
  unfold World.alloc World.setRow
  congr 1
  apply Array.ext_getElem?
  intro j
  simp only [Array.getElem?_modify, Array.getElem?_push]
  by_cases h : w.heap.size = j
  · simp [h]
  · simp [h, show ¬ j = w.heap.size from fun e => h e.symm]
variable {P : Program}
/-- a whole record is stored into the block that was just laid -/
theorem wpList_store_fresh {ops : Array Oper} {rest : List Oper} {op : Oper} {a : Act} (w : World) {Q : Exit → Act → World → Prop} (hgd : op.guard = none) (ty : TypeId) (x y : Operand) (ho : op.op = .store ty x y)
    (cur cells : Array Value) (t : TypeId) (hx : a.eval x = .pointer (some ⟨w.heap.size, 0, none⟩)) (hy : a.eval y = .agg cells) (hs : cur.size = cells.size)
    (hi : (P.info? ty).map (·.size) = some cells.size) (h1 : cells.all (·.oneCell') = true)
    (h : wpList P ops Q rest (a.put op.dst undef) (w.alloc (.cells cells t))) : wpList P ops Q (op :: rest) a (w.alloc (.cells cur t)) := by
  have hb := Blk.new w t cur
  refine wpList_store_mid hgd ty x y ho w.heap.size 0 cells hx hy (fun j hj => ?_) hi h1 ?_
  · rw [show 0 + j = j by omega, hb.cell]
    exact ⟨by rw [Array.getElem?_eq_getElem (by omega)]; rfl, hb.frozen j⟩
  · rw [setCells_row w.heap.size t cells.toList 0 _ cur hb, putAll_whole _ _ (by simpa using hs), alloc_setRow]
    simpa using h
/-- a whole record is stored into a block that is known whole -/
theorem wpList_store_blk {ops : Array Oper} {rest : List Oper} {op : Oper} {a : Act} {w : World} {Q : Exit → Act → World → Prop} (hgd : op.guard = none) (ty : TypeId) (x y : Operand) (ho : op.op = .store ty x y)
    (g : Nat) (cur cells : Array Value) (t : TypeId) (hx : a.eval x = .pointer (some ⟨g, 0, none⟩)) (hy : a.eval y = .agg cells) (hb : Blk w g t cur) (hs : cur.size = cells.size)
    (hi : (P.info? ty).map (·.size) = some cells.size) (h1 : cells.all (·.oneCell') = true)
    (h : wpList P ops Q rest (a.put op.dst undef) (w.setRow g cells)) : wpList P ops Q (op :: rest) a w := by
  refine wpList_store_mid hgd ty x y ho g 0 cells hx hy (fun j hj => ?_) hi h1 ?_
  · rw [show 0 + j = j by omega, hb.cell]
    exact ⟨by rw [Array.getElem?_eq_getElem (by omega)]; rfl, hb.frozen j⟩
  · rw [setCells_row g t cells.toList 0 _ cur hb, putAll_whole _ _ (by simpa using hs)]
    simpa using h
theorem run_loadVar_at (w : World) (ad : Addr) (ty : TypeId) (cs : List Value) (d : TypeDesc) (hc : ∀ j u, cs[j]? = some u → w.cell? (ad.add j) = some u)
    (hu : P.underlying ty = some d) (hd : (match d with | .struct _ | .array _ _ => true | _ => false) = true) (hi : (P.info? ty).map (·.size) = some cs.length) :
    (loadVar ty ad).run P w = .ok (.agg cs.toArray) w := by
  have hl : (loadCells ad cs.length).run P w = .ok cs.toArray w := run_loadCells_list (P := P) w ad cs hc
  cases hq : P.info? ty with
  | none => simp [hq] at hi
  | some i =>
    have hs : i.size = cs.length := by simpa [hq] using hi
    have hagg : (isAgg ty).run P w = .ok true w := by
      unfold isAgg
      rw [Sem.run_bind, run_underlying hu w]
      cases d <;> simp_all
    simp [loadVar, Sem.run_bind, hagg, sizeOf, typeInfo, hq, hs, hl]
theorem wp_load_at {o : Oper} {a : Act} {w : World} {K : Act → World → Prop} {Q : Exit → Act → World → Prop} (ty : TypeId) (x : Operand) (ho : o.op = .load ty x)
    (ad : Addr) (hx : a.eval x = .pointer (some ad)) (cs : List Value) (d : TypeDesc) (hc : ∀ j u, cs[j]? = some u → w.cell? (ad.add j) = some u)
    (hu : P.underlying ty = some d) (hd : (match d with | .struct _ | .array _ _ => true | _ => false) = true) (hi : (P.info? ty).map (·.size) = some cs.length)
    (h : K (a.put o.dst (.agg cs.toArray)) w) : o.wp P a w K Q := by
  unfold Oper.wp execOp
  simp only [ho, hx, Instr.loadAt, Instr.sureAddr, Sem.run_bind, Sem.run_pure, Result.andThen_ok, run_loadVar_at w ad ty cs d hc hu hd hi]
  exact h
theorem wpList_load_at {ops : Array Oper} {rest : List Oper} {o : Oper} {a : Act} {w : World} {Q : Exit → Act → World → Prop} (hgd : o.guard = none) (ty : TypeId) (x : Operand) (ho : o.op = .load ty x)
    (ad : Addr) (hx : a.eval x = .pointer (some ad)) (cs : List Value) (d : TypeDesc) (hc : ∀ j u, cs[j]? = some u → w.cell? (ad.add j) = some u)
    (hu : P.underlying ty = some d) (hd : (match d with | .struct _ | .array _ _ => true | _ => false) = true) (hi : (P.info? ty).map (·.size) = some cs.length)
    (h : wpList P ops Q rest (a.put o.dst (.agg cs.toArray)) w) : wpList P ops Q (o :: rest) a w :=
  wpList_plain hgd fun _ hK => wp_load_at ty x ho ad hx cs d hc hu hd hi (hK _ _ h)
def fCells (fs : List Fl) : List Value := fs.flatMap Fl.cells
theorem fCells_len (fs : List Fl) : (fCells fs).length = 2 * fs.length := by
  induction fs with
  | nil => rfl
  | cons f fs ih => rw [fCells, List.flatMap_cons, List.length_append, Fl.len, ← fCells, ih, List.length_cons]; omega
theorem fCells_append (a b : List Fl) : fCells (a ++ b) = fCells a ++ fCells b := by simp [fCells]
theorem fCells_take (fs : List Fl) (k : Nat) : fCells (fs.take k) = (fCells fs).take (k * 2) := by
  by_cases h : k ≤ fs.length
  · have e : fCells fs = fCells (fs.take k) ++ fCells (fs.drop k) := by rw [← fCells_append, List.take_append_drop]
    have hl : (fCells (fs.take k)).length = k * 2 := by rw [fCells_len, List.length_take]; omega
    rw [e, ← hl, List.take_left]
  · rw [List.take_of_length_le (by omega), List.take_of_length_le (by rw [fCells_len]; omega)]
theorem fCells_at : ∀ (fs : List Fl) (k : Nat) (f : Fl), fs[k]? = some f → ∀ j, j < 2 → (fCells fs)[2 * k + j]? = f.cells[j]?
  | [], k, f, h, j, _ => by simp at h
  | x :: fs, 0, f, h, j, hj => by
    simp at h
    subst h
    rw [fCells, List.flatMap_cons, List.getElem?_append_left (by rw [Fl.len]; omega)]
    simp
  | x :: fs, k + 1, f, h, j, hj => by
    rw [fCells, List.flatMap_cons, List.getElem?_append_right (by rw [Fl.len]; omega), Fl.len, show 2 * (k + 1) + j - 2 = 2 * k + j by omega]
    exact fCells_at fs k f (by simpa using h) j hj
theorem fl_at {w : World} {B n : Nat} {ad : Addr} {fs : List Fl} (h : Reads w B 2 (some ad) n (fCells fs)) {k : Nat} {f : Fl} (hk : fs[k]? = some f) : ∀ j u, f.cells[j]? = some u → w.cell? ((ad.add (k * 2)).add j) = some u := by
  intro j u hu
  have hj : j < 2 := by
    have := (List.getElem?_eq_some_iff.1 hu).1
    rwa [Fl.len] at this
  have hkl := (List.getElem?_eq_some_iff.1 hk).1
  have hl := h.1
  rw [fCells_len] at hl
  obtain ⟨ad2, e, _, hc⟩ := h.2 (by omega)
  injection e with e
  subst e
  rw [add_of_add, show k * 2 + j = 2 * k + j by omega]
  exact hc _ u ((fCells_at fs k f hk j hj).trans hu)
theorem Fl.ones (f : Fl) : f.arr.all (·.oneCell') = true := by
  rw [Array.all_eq_true_iff_forall_mem]
  intro v hv
  simp [Fl.arr, Fl.cells, strV] at hv
  rcases hv with rfl | rfl <;> rfl
theorem fCells_ones (fs : List Fl) : ∀ u ∈ fCells fs, u.oneCell' = true := by
  intro u hu
  rw [fCells, List.mem_flatMap] at hu
  obtain ⟨f, _, hu⟩ := hu
  simp [Fl.cells, strV] at hu
  rcases hu with rfl | rfl <;> rfl
theorem fl_size : (Tryz.prog.info? 90).map (·.size) = some 2 := by kernel_rfl
theorem info_fl : (Tryz.prog.info? 90).map (fun i => (i.zero, i.size, i.bytes)) = some (some (.agg (Fl.mk [] []).arr), 2, 32) := by kernel_rfl
theorem wpList_load_fl {ops : Array Oper} {rest : List Oper} {o : Oper} {a : Act} {w : World} {Q : Exit → Act → World → Prop} (hgd : o.guard = none) (x : Operand) (ho : o.op = .load 90 x)
    (ad : Addr) (hx : a.eval x = .pointer (some ad)) (f : Fl) (hc : ∀ j u, f.cells[j]? = some u → w.cell? (ad.add j) = some u)
    (h : wpList Tryz.prog ops Q rest (a.put o.dst (.agg f.arr)) w) : wpList Tryz.prog ops Q (o :: rest) a w :=
  wpList_load_at hgd 90 x ho ad hx f.cells _ hc Tryz.underlying90 rfl fl_size h
theorem wpList_store_fl {ops : Array Oper} {rest : List Oper} {op : Oper} {a : Act} (w : World) {Q : Exit → Act → World → Prop} {f : Fl} (hgd : op.guard = none) (x y : Operand) (ho : op.op = .store 90 x y)
    (hx : a.eval x = .pointer (some ⟨w.heap.size, 0, none⟩)) (hy : a.eval y = .agg f.arr)
    (h : wpList Tryz.prog ops Q rest (a.put op.dst undef) (w.alloc (.cells f.arr 90))) : wpList Tryz.prog ops Q (op :: rest) a (w.alloc (.cells #[.string ⟨#[]⟩, .string ⟨#[]⟩] 90)) :=
  wpList_store_fresh w hgd 90 x y ho #[.string ⟨#[]⟩, .string ⟨#[]⟩] f.arr 90 hx hy rfl fl_size f.ones h
/-- a whole field is stored into a block that bears one -/
theorem wpList_store_fl2 {ops : Array Oper} {rest : List Oper} {op : Oper} {a : Act} {w : World} {Q : Exit → Act → World → Prop} {f0 f : Fl} (hgd : op.guard = none) (x y : Operand) (ho : op.op = .store 90 x y)
    (g : Nat) (hb : Blk w g 90 f0.arr) (hx : a.eval x = .pointer (some ⟨g, 0, none⟩)) (hy : a.eval y = .agg f.arr)
    (h : wpList Tryz.prog ops Q rest (a.put op.dst undef) (w.setRow g f.arr)) : wpList Tryz.prog ops Q (op :: rest) a w :=
  wpList_store_blk hgd 90 x y ho g f0.arr f.arr 90 hx hy hb rfl fl_size f.ones h
theorem blk_fl {w : World} {g : Nat} {t : TypeId} {f : Fl} (h : Blk w g t f.arr) : ∀ j u, f.cells[j]? = some u → w.cell? ((⟨g, 0, none⟩ : Addr).add j) = some u := by
  intro j u hu
  rw [show ((⟨g, 0, none⟩ : Addr).add j) = ⟨g, j, none⟩ by unfold Addr.add; split <;> simp_all, h.cell j]
  simpa [Fl.arr] using hu
/-- a row of fields that may be read -/
def FsAt (w : World) (A : Option Addr) (c : Nat) (fs : List Fl) : Prop := fs.length ≤ c ∧ fs.length ≤ 1000000 ∧ Reads w w.heap.size 2 A fs.length (fCells fs)
theorem FsAt.below {w w' : World} {A : Option Addr} {c : Nat} {fs : List Fl} (h : FsAt w A c fs) (hb : Below w.heap.size w w') : FsAt w' A c fs := ⟨h.1, h.2.1, (h.2.2.below hb).more hb.size⟩
theorem FsAt.drewN {w : World} {A : Option Addr} {c : Nat} {fs : List Fl} (h : FsAt w A c fs) (q : Nat) : FsAt (w.drewN q) A c fs := h
theorem FsAt.none_ (w : World) (A : Option Addr) (c : Nat) : FsAt w A c [] := ⟨Nat.zero_le _, by simp, Reads.none_⟩
theorem FsAt.own {w : World} {base : Nat} {T : TypeId} {v : Value} {fs : List Fl} (h : w.ownsRow base T 2 v fs.length (fCells fs)) (hm : fs.length ≤ 1000000) : ∃ A c, v = .slice A fs.length c ∧ FsAt w A c fs := by
  obtain ⟨A, c, e, hc, hr⟩ := own_reads h (Nat.le_refl _)
  exact ⟨A, c, e, hc, hm, hr⟩
theorem fl_next {w : World} {B : Nat} {T : TypeId} {v : Value} {l : List Fl} {f : Fl} {l' : List Fl} {cs : List Value} (h : w.ownsRow B T 2 v (l.length + 1) (fCells l ++ cs)) (hc : cs = f.cells) (e : l' = l ++ [f]) : w.ownsRow B T 2 v l'.length (fCells l') := by
  subst e hc
  rw [fCells_append, List.length_append]
  simpa [fCells] using h
theorem own_only {w w' : World} {g base : Nat} {e : TypeId} {size n : Nat} {v : Value} {xs : List Value} (h : w.ownsRow base e size v n xs) (hg : w.grownBy w' (some g)) (hlt : g < base) : w'.ownsRow base e size v n xs := by
  refine h.kept hg (.inr (fun e => ?_))
  have := h.lt g e
  omega
theorem below_only {B g : Nat} {a w w' : World} (h : Below B a w) (hg : w.grownBy w' (some g)) (hB : B ≤ g) (hw : B ≤ w.heap.size) : Below B a w' :=
  h.grown hg hw (fun r e => by injection e with e; omega)
end
section
open Go.RowKit
/-- a function value that tells of a field whether it is wanted -/
def Tells (F : FuncId) (caps : Array Value) (w0 : World) (p : Fl → Bool) : Prop :=
  (∀ (args : Array Value) (w : World), (callFunc F args).run Tryz.prog w = .ok (.enter F args) w) ∧
  ∀ (r : Fl) (w : World), Below w0.heap.size w0 w → Calls Tryz.prog F (#[.agg r.arr] ++ caps) w fun e w' => e = .returned (.bool (p r)) ∧ Below w.heap.size w w'
theorem eq_strL (p q : List UInt8) : ((⟨p.toArray⟩ : ByteArray).toList == (⟨q.toArray⟩ : ByteArray).toList) = decide (p = q) := by
  rw [ByteArray.toList_eq, ByteArray.toList_eq, Bool.eq_iff_iff]; simp
theorem eq_strS (p : List UInt8) (x : ByteArray) (q : List UInt8) (hx : x.data.toList = q) : ((⟨p.toArray⟩ : ByteArray).toList == x.toList) = decide (p = q) := by
  rw [str_eta x q hx]; exact eq_strL p q
theorem eq_strP (p q : List UInt8) (x : ByteArray) (hx : x.data.toList = q) : (p == x.toList) = decide (p = q) := by
  rw [ByteArray.toList_eq, hx, Bool.eq_iff_iff]; simp
set_option maxHeartbeats 400000 in
theorem parse1_walk (g : Nat) (f : Fl) (w0 : World) (hc : w0.cell? ⟨g, 0, none⟩ = some (strV f.n)) :
    Tells 100 #[.pointer (some ⟨g, 0, none⟩)] w0 fun r => decide (r.n = f.n) := by
  refine ⟨fun args w => by kernel_rfl, fun r w hb => ?_⟩
  replace hc : w.cell? ⟨g, 0, none⟩ = some (.string ⟨f.n.toArray⟩) := (hb.cell (World.block_lt_of_cell? w0 _ hc)).trans hc
  have h2 := r.at0
  have hg := World.block_lt_of_cell? w _ hc
  have hb := Below.refl w.heap.size w
  have he := Lib.hid (eq_strL r.n f.n)
  show Calls _ _ _ _ fun e w' => e = .returned (.bool (decide (r.n = f.n))) ∧ Below w.heap.size w w'
  rw [← he.out]
  generalize (⟨f.n.toArray⟩ : ByteArray) = y at hc he ⊢
  generalize (⟨r.n.toArray⟩ : ByteArray) = x at h2 he ⊢
  go_enter Tryz.func100, Tryz.ntmps100
  go_wp2_with fail
  go_ret
  exact ⟨rfl, hb.alloc hb.size _⟩
def idxI (p : Fl → Bool) (fs : List Fl) : Int := match fs.findIdx? p with
  | some i => i
  | none => -1
theorem idx_some {p : Fl → Bool} {fs : List Fl} {k : Nat} {r : Fl} (h : ∀ j, j < k → ∀ r, fs[j]? = some r → p r = false) (hk : fs[k]? = some r) (hp : p r = true) : fs.findIdx? p = some k := by
  obtain ⟨hlt, e⟩ := List.getElem?_eq_some_iff.1 hk
  rw [List.findIdx?_eq_some_iff_getElem]
  refine ⟨hlt, by rw [e]; exact hp, fun j hj => ?_⟩
  rw [h j hj _ (List.getElem?_eq_getElem (by omega))]
  simp
theorem idx_none {p : Fl → Bool} {fs : List Fl} (h : ∀ j, j < fs.length → ∀ r, fs[j]? = some r → p r = false) : fs.findIdx? p = none := by
  rw [List.findIdx?_eq_none_iff]
  intro x hx
  obtain ⟨j, hj, e⟩ := List.getElem_of_mem hx
  exact h j hj x (by rw [List.getElem?_eq_getElem hj, e])
theorem idx_any (p : Fl → Bool) (fs : List Fl) : decide (0 ≤ idxI p fs) = fs.any p := by
  unfold idxI
  cases h : fs.findIdx? p with
  | none =>
    rw [List.findIdx?_eq_none_iff] at h
    have : fs.any p = false := by
      rw [List.any_eq_false]
      intro x hx
      simp [h x hx]
    rw [this]
    rfl
  | some i =>
    rw [List.findIdx?_eq_some_iff_getElem] at h
    obtain ⟨hlt, hp, _⟩ := h
    have : fs.any p = true := List.any_eq_true.2 ⟨_, List.getElem_mem hlt, hp⟩
    rw [this]
    simp
set_option maxHeartbeats 1000000 in
theorem findex_walk (F : FuncId) (caps : Array Value) (p : Fl → Bool) (w : World) (hF : Tells F caps w p) (fs : List Fl) (A : Option Addr) (c : Nat) (hr : FsAt w A c fs) :
    Calls Tryz.prog 108 #[.slice A fs.length c, .func (.func F) #[] caps] w fun e w' => e = .returned (.int .i64 (idxI p fs)) ∧ Below w.heap.size w w' := by
  have hcf := hF.1
  obtain ⟨hc, hm, hr⟩ := hr
  go_enter Tryz.func108, Tryz.ntmps108
  go_wp2_with fail
  go_loopw [8] (fun nv wr => ∃ k : Nat, k ≤ fs.length ∧ nv = .int .i64 k ∧ Hid (∀ j, j < k → ∀ r, fs[j]? = some r → p r = false) ∧ Below w.heap.size w wr) (fun nv _ => fs.length - (intOf nv).toNat)
  case atStart => exact ⟨0, by omega, rfl, fun j hj => by omega, Below.refl _ _⟩
  case round =>
    obtain ⟨k, hk, rfl, hno, hbl⟩ := hrel
    by_cases hlt : k < fs.length
    · obtain ⟨ad, rfl⟩ : ∃ ad, A = some ad := by obtain ⟨ad, h, _⟩ := hr.2 (by omega); exact ⟨ad, h⟩
      obtain ⟨r, hrk⟩ : ∃ r, fs[k]? = some r := ⟨fs[k], List.getElem?_eq_getElem hlt⟩
      have hra := Lib.hid (fl_at (hr.below hbl) hrk)
      have cF := Lib.hid (hF.2 r _ hbl)
      go_wp2_with (refine wpList_load_fl rfl _ rfl (ad.add (k * 2)) rfl r hra.out ?_)
      refine cF.out.mono ?_
      rintro _ w1 ⟨rfl, hbn⟩
      have hb2 : Below w.heap.size w w1 := below_next hbl hbn
      cases hp : p r
      · have HN : Hid (∀ j, j < k + 1 → ∀ r, fs[j]? = some r → p r = false) := by
          show ∀ j, j < k + 1 → _
          intro j hj r' hr'
          rcases Nat.lt_or_ge j k with h | h
          · exact hno.out j h r' hr'
          · rw [show j = k by omega, hrk] at hr'
            injection hr' with e
            rw [← e]; exact hp
        go_wp2_with fail
        exact ⟨⟨k + 1, by omega, by go_num, HN, hb2⟩, by simp [intOf]; omega⟩
      · have hv : Hid (idxI p fs = (k : Int)) := by show _ = _; rw [idxI, idx_some hno.out hrk hp]
        go_wp2_with fail
        go_ret
        exact ⟨by rw [hv.out]; rfl, hb2⟩
    · obtain rfl : k = fs.length := by omega
      have hv : Hid (idxI p fs = -1) := by show _ = _; rw [idxI, idx_none hno.out]
      go_wp2_with fail
      go_ret
      exact ⟨by rw [hv.out]; rfl, hbl⟩
theorem fcontains_walk (F : FuncId) (caps : Array Value) (p : Fl → Bool) (w : World) (hF : Tells F caps w p) (fs : List Fl) (A : Option Addr) (c : Nat) (hr : FsAt w A c fs) :
    Calls Tryz.prog 99 #[.slice A fs.length c, .func (.func F) #[] caps] w fun e w' => e = .returned (.bool (fs.any p)) ∧ Below w.heap.size w w' := by
  have hb := Below.refl w.heap.size w
  have ha := Lib.hid (idx_any p fs)
  have ci := Lib.hid (findex_walk F caps p w hF fs A c hr)
  go_enter Tryz.func99, Tryz.ntmps99
  go_wp2_with fail
  refine (ci.out).mono ?_
  rintro _ w1 ⟨rfl, hbn⟩
  replace hb := below_next hb hbn
  clear hbn
  go_wp2_with fail
  go_ret
  exact ⟨by rw [← ha.out]; rfl, hb⟩
/-- the value of a name -/
def getF (q : List UInt8) : List Fl → Option (List UInt8)
  | [] => none
  | f :: fs => if f.n = q then some f.v else getF q fs
def getV : Option (List UInt8) → Value
  | some v => .tuple #[.string ⟨v.toArray⟩, .bool true]
  | none => .tuple #[.string ⟨#[]⟩, .bool false]
theorem getF_at (q : List UInt8) (fs : List Fl) (k : Nat) (f : Fl) (h : fs[k]? = some f) : getF q (fs.drop k) = if f.n = q then some f.v else getF q (fs.drop (k + 1)) := by
  have hk := (List.getElem?_eq_some_iff.1 h).1
  have hp : fs[k] = f := (List.getElem?_eq_some_iff.1 h).2
  rw [List.drop_eq_getElem_cons hk, hp, getF]
theorem getF_end (q : List UInt8) (fs : List Fl) : getF q (fs.drop fs.length) = none := by rw [List.drop_length]; rfl
theorem getF_has (q : List UInt8) (fs : List Fl) : (getF q fs).isSome = fs.any (fun f => decide (f.n = q)) := by
  induction fs with
  | nil => rfl
  | cons f fs ih =>
    rw [getF, List.any_cons]
    by_cases h : f.n = q
    · rw [if_pos h]; simp [h]
    · rw [if_neg h, ih]; simp [h]
end
section
open Go.RowKit
theorem add_zero_at (a : Addr) : a.add 0 = a := by
  obtain ⟨b, o, l⟩ := a
  unfold Addr.add
  split <;> simp_all
theorem fl_two {w : World} {B n : Nat} {ad : Addr} {fs : List Fl} (h : Reads w B 2 (some ad) n (fCells fs)) {k : Nat} {f : Fl} (hk : fs[k]? = some f) : w.cell? (ad.add (k * 2)) = some (.string ⟨f.n.toArray⟩) ∧ w.cell? ⟨(ad.add (k * 2)).block, (ad.add (k * 2)).off + 1, none⟩ = some (.string ⟨f.v.toArray⟩) := by
  have h0 := fl_at h hk 0 _ rfl
  rw [add_zero_at] at h0
  exact ⟨h0, fl_at h hk 1 _ rfl⟩
set_option maxHeartbeats 2000000 in
theorem rget_walk (fs : List Fl) (A : Option Addr) (c : Nat) (q : List UInt8) (x : ByteArray) (hx : x.data.toList = q) (w : World) (hr : FsAt w A c fs) :
    Calls Tryz.prog 84 #[.slice A fs.length c, .string x] w fun e w' => e = .returned (getV (getF q fs)) ∧ w = w' := by
  obtain ⟨hc, hm, hr⟩ := hr
  go_enter Tryz.func84, Tryz.ntmps84
  go_wp2_with fail
  go_loopw [6] (fun nv wr => ∃ k : Nat, k ≤ fs.length ∧ nv = .int .i64 k ∧ Hid (getF q (fs.drop k) = getF q fs) ∧ w = wr) (fun nv _ => fs.length - (intOf nv).toNat)
  case atStart => exact ⟨0, by omega, rfl, rfl, rfl⟩
  case round =>
    obtain ⟨k, hk, rfl, hno, rfl⟩ := hrel
    by_cases hlt : k < fs.length
    · obtain ⟨ad, rfl⟩ : ∃ ad, A = some ad := by obtain ⟨ad, h, _⟩ := hr.2 (by omega); exact ⟨ad, h⟩
      obtain ⟨f, hfk⟩ : ∃ f, fs[k]? = some f := ⟨fs[k], List.getElem?_eq_getElem hlt⟩
      obtain ⟨hc0, hc1⟩ := fl_two hr hfk
      have hst := Lib.hid (getF_at q fs k f hfk)
      have hcmp := eq_strS f.n x q hx
      have hcmp2 := eq_strP f.n q x hx
      clear hfk
      by_cases he : f.n = q
      · have hv : Hid (getF q fs = some f.v) := by show _ = _; rw [← hno.out, hst.out, if_pos he]
        rw [decide_eq_true he] at hcmp hcmp2
        clear he
        go_wp2_with fail
        go_ret2
        exact ⟨by rw [hv.out]; rfl, rfl⟩
      · have HN : Hid (getF q (fs.drop (k + 1)) = getF q fs) := by show _ = _; rw [← hno.out, hst.out, if_neg he]
        rw [decide_eq_false he] at hcmp hcmp2
        clear he
        go_wp2_with fail
        exact ⟨⟨k + 1, by omega, by go_num, HN, trivial⟩, by simp [intOf]; omega⟩
    · obtain rfl : k = fs.length := by omega
      have hv : Hid (getF q fs = none) := by show _ = _; rw [← hno.out]; exact getF_end q fs
      go_wp2_with fail
      go_ret2
      exact ⟨by rw [hv.out]; rfl, rfl⟩
/-- is there a field of that name? -/
def hasF (q : List UInt8) (fs : List Fl) : Bool := fs.any fun f => decide (f.n = q)
theorem getV_cases (o : Option (List UInt8)) : ∃ x b, getV o = .tuple #[.string x, .bool b] ∧ b = o.isSome := by
  cases o with
  | none => exact ⟨_, _, rfl, rfl⟩
  | some v => exact ⟨_, _, rfl, rfl⟩
theorem rhas_walk (fs : List Fl) (A : Option Addr) (c : Nat) (q : List UInt8) (x : ByteArray) (hx : x.data.toList = q) (w : World) (hr : FsAt w A c fs) :
    Calls Tryz.prog 66 #[.slice A fs.length c, .string x] w fun e w' => e = .returned (.bool (hasF q fs)) ∧ w = w' := by
  have cg := Lib.hid (rget_walk fs A c q x hx w hr)
  obtain ⟨y, b, hv, hb⟩ := getV_cases (getF q fs)
  rw [getF_has] at hb
  have HB : Hid (hasF q fs = b) := hb.symm
  rw [hv] at cg
  clear hv hb hr
  go_enter Tryz.func66, Tryz.ntmps66
  go_wp2_with fail
  refine (cg.out).mono ?_
  rintro _ w1 ⟨rfl, rfl⟩
  go_wp2_with fail
  go_ret
  exact ⟨by rw [HB.out]; rfl, rfl⟩
end
section
open Go.RowKit
theorem tl_injL {a b : List UInt8} (h : (⟨a.toArray⟩ : ByteArray).toList = (⟨b.toArray⟩ : ByteArray).toList) : a = b := by
  rw [ByteArray.toList_eq, ByteArray.toList_eq] at h
  simpa using h
theorem fl_ext {r s : Fl} (h1 : r.n = s.n) (h2 : r.v = s.v) : r = s := by
  cases r; cases s; simp only at h1 h2; subst h1 h2; rfl
set_option maxRecDepth 100000 in
set_option maxHeartbeats 4000000 in
theorem fl_eq (r s : Fl) (W : World) : (Op.equalIn 10000 90 (.agg r.arr) (.agg s.arr)).run Tryz.prog W = .ok (decide (r = s)) W := by
  have hs1 : Tryz.prog.stoodInHeld 90 = false := by kernel_rfl
  have hf1 : Tryz.prog.underlying 90 = some (.struct (Tryz.prog.fieldsOf 90)) := by kernel_rfl
  rw [run_equalIn_struct W 9999 _ _ _ hf1 hs1]
  rw [show (Tryz.prog.fieldsOf 90).toList = _ from (by unfold Program.fieldsOf; rw [Tryz.underlying90])]
  have k1 := tl_injL (a := r.n) (b := s.n)
  have k2 := tl_injL (a := r.v) (b := s.v)
  generalize hx1 : (⟨r.n.toArray⟩ : ByteArray).toList = x1 at k1
  generalize hx2 : (⟨r.v.toArray⟩ : ByteArray).toList = x2 at k2
  generalize hy1 : (⟨s.n.toArray⟩ : ByteArray).toList = y1 at k1
  generalize hy2 : (⟨s.v.toArray⟩ : ByteArray).toList = y2 at k2
  simp [go_sem, Fl.arr, Fl.cells, strV, Tryz.underlying9, hx1, hx2, hy1, hy2]
  by_cases h : r = s
  · subst h
    subst hx1 hx2
    simp [hy1.symm, hy2.symm]
  · rw [decide_eq_false h]
    by_cases g0 : x1 = y1
    case neg => simp [g0]
    by_cases g1 : x2 = y2
    case neg => simp [g1]
    exact absurd (fl_ext (k1 g0) (k2 g1)) h
theorem neq_fl (r s : Fl) (W : World) : (binOp .neq 90 (.agg r.arr) (.agg s.arr)).run Tryz.prog W = .ok (.bool (!decide (r = s))) W := by
  rw [run_neq_struct, fl_eq]
  rfl
theorem eql_fl (r s : Fl) (W : World) : (binOp .eql 90 (.agg r.arr) (.agg s.arr)).run Tryz.prog W = .ok (.bool (decide (r = s))) W := by
  rw [run_eql_struct, fl_eq]
  rfl
theorem yieldsIf_load_fl {ops : Array Oper} {S : World → Prop} {op : Oper} {a : Act} (hw : Region.wanted op (yielded ops a.tmps) = true) (x : Operand) (ho : op.op = .load 90 x)
    (ad : Addr) (hx : a.eval x = .pointer (some ad)) (r : Fl) (hS : ∀ w, S w → ∀ j u, r.cells[j]? = some u → w.cell? (ad.add j) = some u) : YieldsIf Tryz.prog ops S op (.agg r.arr) a :=
  .inl ⟨hw, fun w hw' => by
    unfold execOp
    simp only [ho, hx, Instr.loadAt, Instr.sureAddr, Sem.run_bind, Sem.run_pure, Result.andThen_ok, run_loadVar_at w ad 90 r.cells _ (hS w hw') Tryz.underlying90 rfl fl_size]
    rfl⟩
end
section
open Go.RowKit
def cutP (c : UInt8) : List UInt8 → Option (List UInt8 × List UInt8)
  | [] => none
  | x :: r => if x = c then some ([], r) else (cutP c r).map fun p => (x :: p.1, p.2)
theorem cutP_at (c : UInt8) : ∀ (l : List UInt8) (m : Nat), l[m]? = some c → (∀ k, k < m → l[k]? ≠ some c) → cutP c l = some (l.take m, l.drop (m + 1))
  | [], m, h, _ => by simp at h
  | x :: l, 0, h, _ => by
    have hx : x = c := by simpa using h
    rw [cutP, if_pos hx]
    rfl
  | x :: l, m + 1, h, hk => by
    have hx : x ≠ c := by
      intro e
      exact hk 0 (by omega) (by simp [e])
    have ih := cutP_at c l m (by simpa using h) (fun k hkm => by have := hk (k + 1) (by omega); simpa using this)
    rw [cutP, if_neg hx, ih]
    rfl
theorem cutP_none (c : UInt8) : ∀ (l : List UInt8), (∀ k : Nat, l[k]? ≠ some c) → cutP c l = none
  | [], _ => rfl
  | x :: l, h => by
    have hx : x ≠ c := by
      intro e
      exact h 0 (by simp [e])
    rw [cutP, if_neg hx, cutP_none c l (fun k => by have := h (k + 1); simpa using this)]
    rfl
def cutA (l : List UInt8) (o : Option (List UInt8 × List UInt8)) : List UInt8 := match o with | some p => p.1 | none => l
def cutB (o : Option (List UInt8 × List UInt8)) : List UInt8 := match o with | some p => p.2 | none => []
def cutV (l : List UInt8) (o : Option (List UInt8 × List UInt8)) : Value := .tuple #[strV (cutA l o), strV (cutB o), .bool o.isSome]
set_option maxHeartbeats 2000000 in
theorem lcut_walk (s : ByteArray) (l : List UInt8) (hs : s.data.toList = l) (c : UInt8) (w : World) (hm : s.size ≤ 1000000) :
    Calls Tryz.prog 95 #[.string s, .string ⟨#[c]⟩] w fun e w' => e = .returned (cutV l (cutP c l)) ∧ ∃ n, w' = w.drewN n := by
  have hsz : l.length = s.size := by rw [← hs, Lib.size_eq]
  have ci := Lib.hid (Tryz.stringslite_Index_one s c w)
  rw [hs] at ci
  rcases Int.lt_or_le (Lib.indexByte l c) 0 with h0 | h0
  · have hge := Lib.indexByte_ge l c
    have h1 : Lib.indexByte l c = -1 := by omega
    have hn := Lib.indexByte_none h1
    have hv := Lib.hid (cutP_none c l hn)
    rw [h1] at ci
    have hst := Lib.hid (str_eta _ _ hs)
    clear h0 hge h1 hn
    go_enter Tryz.func95, Tryz.ntmps95
    go_wp2_with fail
    refine ci.out.mono ?_
    rintro _ w2 ⟨rfl, rfl⟩
    go_wp2_with fail
    go_ret3
    exact ⟨by rw [hv.out]; show _ = Ending.returned (.tuple #[.string ⟨l.toArray⟩, .string ⟨#[]⟩, .bool false]); rw [← hst.out]; rfl, 0, rfl⟩
  · obtain ⟨m, hm2⟩ := Int.eq_ofNat_of_zero_le h0
    obtain ⟨h1, h2⟩ := Lib.indexByte_some hm2
    have hml := (List.getElem?_eq_some_iff.1 h1).1
    have hv := Lib.hid (cutP_at c l m h1 h2)
    rw [hm2] at ci
    have hd1 : (s.extract 0 m).data.toList = l.take m := by rw [Lib.extract_data, hs]; simp
    have hd2 : (s.extract (m + 1) s.size).data.toList = l.drop (m + 1) := by rw [Lib.extract_to_end, hs]
    have hst1 := Lib.hid (str_eta _ _ hd1)
    have hst2 := Lib.hid (str_eta _ _ hd2)
    clear h0 hm2 h1 h2 hd1 hd2
    have b1 : m < s.size := by omega
    clear hml hsz
    go_enter Tryz.func95, Tryz.ntmps95
    go_wp2_with fail
    refine ci.out.mono ?_
    rintro _ w2 ⟨rfl, rfl⟩
    go_wp2_with fail
    go_quiet (fail)
    go_wp2_with fail
    go_ret3
    exact ⟨by rw [hv.out]; show _ = Ending.returned (.tuple #[.string ⟨(l.take m).toArray⟩, .string ⟨(l.drop (m + 1)).toArray⟩, .bool true]); rw [← hst1.out, ← hst2.out]; rfl, _, rfl⟩
theorem scut_walk (s : ByteArray) (l : List UInt8) (hs : s.data.toList = l) (c : UInt8) (w : World) (hm : s.size ≤ 1000000) :
    Calls Tryz.prog 79 #[.string s, .string ⟨#[c]⟩] w fun e w' => e = .returned (cutV l (cutP c l)) ∧ ∃ n, w' = w.drewN n := by
  have cc := Lib.hid (lcut_walk s l hs c w hm)
  generalize cutP c l = o at cc
  unfold cutV strV at cc ⊢
  clear hm hs
  go_enter Tryz.func79, Tryz.ntmps79
  go_wp2_with fail
  refine (cc.out).mono ?_
  rintro _ w1 ⟨rfl, q, rfl⟩
  go_wp2_with fail
  go_ret3
  exact ⟨rfl, q, rfl⟩
set_option maxHeartbeats 4000000 in
theorem rcut_walk (s : ByteArray) (l : List UInt8) (hs : s.data.toList = l) (c : UInt8) (w : World) (hm : s.size ≤ 1000000) :
    Calls Tryz.prog 45 #[.string s, .string ⟨#[c]⟩] w fun e w' => e = .returned (cutV l (cutP c l)) ∧ ∃ n, w' = w.drewN n := by
  have hsz : l.length = s.size := by rw [← hs, Lib.size_eq]
  go_enter Tryz.func45, Tryz.ntmps45
  go_wp2_with fail
  go_loopw [7] (fun iv wr => ∃ i : Nat, i ≤ s.size ∧ iv = .int .i64 i ∧ Hid (∀ k, k < i → l[k]? ≠ some c) ∧ w = wr) (fun iv _ => s.size - (intOf iv).toNat)
  case atStart => exact ⟨0, by omega, rfl, fun k hk => by omega, rfl⟩
  case round =>
    obtain ⟨i, his, rfl, hno, rfl⟩ := hrel
    by_cases hlt : i < s.size
    · obtain ⟨x, hx⟩ : ∃ x, l[i]? = some x := ⟨l[i]'(by omega), List.getElem?_eq_getElem (by omega)⟩
      have hone := one_str s l hs i x hx c
      by_cases hc : x = c
      · have hcd : ((s.extract i (i + 1)).toList == [c]) = true := by rw [hone]; simpa using hc
        subst hc
        have hv := Lib.hid (cutP_at x l i hx hno.out)
        have hd1 : (s.extract 0 i).data.toList = l.take i := by rw [Lib.extract_data, hs]; simp
        have hd2 : (s.extract (i + 1) s.size).data.toList = l.drop (i + 1) := by rw [Lib.extract_to_end, hs]
        have hst1 := Lib.hid (str_eta _ _ hd1)
        have hst2 := Lib.hid (str_eta _ _ hd2)
        clear hone hx hd1 hd2
        go_wp2_with fail
        go_quiet (fail)
        go_wp2_with fail
        go_ret3
        exact ⟨by rw [hv.out]; show _ = Ending.returned (.tuple #[.string ⟨(l.take i).toArray⟩, .string ⟨(l.drop (i + 1)).toArray⟩, .bool true]); rw [← hst1.out, ← hst2.out]; rfl, _, rfl⟩
      · have hcd : ((s.extract i (i + 1)).toList == [c]) = false := by rw [hone]; simpa using hc
        have HN : Hid (∀ k, k < i + 1 → l[k]? ≠ some c) := fun k hk he => by
          rcases Nat.lt_or_ge k i with h | h
          · exact hno.out k h he
          · rw [show k = i by omega, hx] at he
            injection he with he
            exact hc he
        clear hone hx hc
        go_wp2_with fail
        exact ⟨⟨i + 1, by omega, by go_num, HN, trivial⟩, by simp [intOf]; omega⟩
    · obtain rfl : i = s.size := by omega
      have hv := Lib.hid (cutP_none c l (fun k he => by
        have := (List.getElem?_eq_some_iff.1 he).1
        exact hno.out k (by omega) he))
      have hst := Lib.hid (str_eta _ _ hs)
      go_wp2_with fail
      go_ret3
      exact ⟨by rw [hv.out]; show _ = Ending.returned (.tuple #[.string ⟨l.toArray⟩, .string ⟨#[]⟩, .bool false]); rw [← hst.out]; rfl, 0, rfl⟩
end
section
open Go.RowKit Pc
def encF (f : Fl) : List UInt8 := encL true f.n ++ 61 :: encL true f.v
def printL (fs : List Fl) : List UInt8 := Lib.join (fs.map encF) [38]
def tailL (fs : List Fl) : List UInt8 := Lib.joinTail [38] (fs.map encF)
theorem printL_nil : printL [] = [] := rfl
theorem printL_cons (f : Fl) (fs : List Fl) : printL (f :: fs) = encF f ++ tailL fs := by rw [printL, List.map_cons, Lib.join_cons, tailL]
theorem tailL_cons (f : Fl) (fs : List Fl) : tailL (f :: fs) = 38 :: (encF f ++ tailL fs) := by simp [tailL, Lib.joinTail]
theorem tailL_snoc (f : Fl) : ∀ fs : List Fl, tailL (fs ++ [f]) = tailL fs ++ 38 :: encF f
  | [] => by simp [tailL, Lib.joinTail]
  | g :: fs => by rw [List.cons_append, tailL_cons, tailL_snoc f fs, tailL_cons]; simp
theorem printL_step (fs : List Fl) (k : Nat) (f : Fl) (h : fs[k]? = some f) : printL (fs.take (k + 1)) = (if 0 < k then printL (fs.take k) ++ [38] else []) ++ encF f := by
  rw [List.take_add_one, h]
  by_cases hk : 0 < k
  · obtain ⟨g, gs, hg⟩ : ∃ g gs, fs.take k = g :: gs := by
      cases hh : fs.take k with
      | nil =>
        have := congrArg List.length hh
        have hl := (List.getElem?_eq_some_iff.1 h).1
        simp at this
        rcases this with h | h
        · omega
        · subst h; simp at hl
      | cons g gs => exact ⟨g, gs, rfl⟩
    rw [hg, if_pos hk, Option.toList_some, List.cons_append, printL_cons, tailL_snoc, printL_cons]
    simp
  · have : k = 0 := by omega
    subst this
    simp [printL, Lib.join_one]
def sumF (fs : List Fl) : Nat := (fs.map fun f => f.n.length + f.v.length).sum
theorem sumF_cons (f : Fl) (fs : List Fl) : sumF (f :: fs) = f.n.length + f.v.length + sumF fs := by simp [sumF]
theorem sumF_append (a b : List Fl) : sumF (a ++ b) = sumF a + sumF b := by simp [sumF]
theorem sumF_mem {f : Fl} : ∀ {fs : List Fl}, f ∈ fs → f.n.length + f.v.length ≤ sumF fs
  | g :: fs, h => by
    rw [sumF_cons]
    rcases List.mem_cons.1 h with rfl | h
    · omega
    · have := sumF_mem h; omega
theorem encB_len (form : Bool) (b : UInt8) : (encB form b).length ≤ 3 := by
  unfold encB
  split
  · simp
  · split <;> simp
theorem encL_len (form : Bool) : ∀ l : List UInt8, (encL form l).length ≤ 3 * l.length
  | [] => Nat.le_refl _
  | b :: l => by
    have h1 := encB_len form b
    have h2 := encL_len form l
    rw [encL_cons, List.length_append, List.length_cons]
    omega
theorem encF_len (f : Fl) : (encF f).length ≤ 3 * (f.n.length + f.v.length) + 1 := by
  have h1 := encL_len true f.n
  have h2 := encL_len true f.v
  rw [encF, List.length_append, List.length_cons]
  omega
theorem tailL_len : ∀ fs : List Fl, (tailL fs).length ≤ 3 * sumF fs + 2 * fs.length
  | [] => Nat.le_refl _
  | f :: fs => by
    have h1 := encF_len f
    have h2 := tailL_len fs
    rw [tailL_cons, List.length_cons, List.length_append, sumF_cons, List.length_cons]
    omega
theorem printL_len : ∀ fs : List Fl, (printL fs).length ≤ 3 * sumF fs + 2 * fs.length
  | [] => Nat.le_refl _
  | f :: fs => by
    have h1 := encF_len f
    have h2 := tailL_len fs
    rw [printL_cons, List.length_append, sumF_cons, List.length_cons]
    omega
/-- no sign of a field's writing is one that parts -/
def noB (b : UInt8) : Bool := (encB true b).all fun x => x != 38 && x != 61
theorem noB_all : ∀ b : Fin 256, noB (UInt8.ofNat b.val) = true := by decide +kernel
theorem encL_no (l : List UInt8) (x : UInt8) (h : x ∈ encL true l) : x ≠ 38 ∧ x ≠ 61 := by
  rw [encL, List.mem_flatMap] at h
  obtain ⟨b, _, h⟩ := h
  have hb := noB_all ⟨b.toNat, b.toNat_lt⟩
  simp only [UInt8.ofNat_toNat] at hb
  rw [noB, List.all_eq_true] at hb
  have := hb x h
  simpa using this
theorem encF_no (f : Fl) (x : UInt8) (h : x ∈ encF f) : x ≠ 38 := by
  rw [encF, List.mem_append, List.mem_cons] at h
  rcases h with h | rfl | h
  · exact (encL_no _ _ h).1
  · decide
  · exact (encL_no _ _ h).1
theorem splitC_front (c : UInt8) : ∀ (a b : List UInt8), (∀ x ∈ a, x ≠ c) → splitC c (a ++ c :: b) = a :: splitC c b
  | [], b, _ => by rw [List.nil_append, splitC, if_pos rfl]
  | x :: a, b, h => by
    have ih := splitC_front c a b (fun y hy => h y (List.mem_cons_of_mem _ hy))
    rw [List.cons_append, splitC, if_neg (h x List.mem_cons_self), ih]
theorem splitC_no (c : UInt8) (a : List UInt8) (h : ∀ x ∈ a, x ≠ c) : splitC c a = [a] := by
  apply splitC_none
  rw [List.count_eq_zero]
  exact fun hc => h c hc rfl
theorem split_tail : ∀ (f : Fl) (fs : List Fl), splitC 38 (encF f ++ tailL fs) = encF f :: fs.map encF
  | f, [] => by
    have : tailL [] = [] := rfl
    rw [this, List.append_nil, splitC_no 38 _ (encF_no f)]
    rfl
  | f, g :: fs => by rw [tailL_cons, splitC_front 38 _ _ (encF_no f), split_tail g fs, List.map_cons]
theorem split_print (f : Fl) (fs : List Fl) : splitC 38 (printL (f :: fs)) = (f :: fs).map encF := by rw [printL_cons, split_tail, List.map_cons]
theorem join_split (c : UInt8) : ∀ l : List UInt8, Lib.join (splitC c l) [c] = l
  | [] => by rw [splitC]; rfl
  | x :: l => by
    have ih := join_split c l
    rw [splitC]
    split
    · rename_i hx
      obtain ⟨q, qs, hq⟩ : ∃ q qs, splitC c l = q :: qs := by
        cases hh : splitC c l with
        | nil => exact absurd hh (splitC_ne c l)
        | cons q qs => exact ⟨q, qs, rfl⟩
      rw [hq, Lib.join_cons] at ih
      rw [hq, Lib.join_cons, hx]
      simp only [Lib.joinTail, List.map_cons, List.flatten_cons] at ih ⊢
      rw [← ih]
      simp
    · split
      · rename_i h
        exact absurd h (splitC_ne c l)
      · rename_i q qs hq
        rw [hq, Lib.join_cons] at ih
        rw [Lib.join_cons, List.cons_append, ih]
/-- a part as a field -/
def fieldO (l : List UInt8) : Option Fl := match cutP 61 l with
  | none => none
  | some p => match decL true p.1, decL true p.2 with
    | some n, some v => if n = [] then none else some ⟨n, v⟩
    | _, _ => none
theorem cutP_front (c : UInt8) : ∀ (a b : List UInt8), (∀ x ∈ a, x ≠ c) → cutP c (a ++ c :: b) = some (a, b)
  | [], b, _ => by rw [List.nil_append, cutP, if_pos rfl]
  | x :: a, b, h => by
    have ih := cutP_front c a b (fun y hy => h y (List.mem_cons_of_mem _ hy))
    rw [List.cons_append, cutP, if_neg (h x List.mem_cons_self), ih]
    rfl
theorem cutP_is (c : UInt8) : ∀ (l : List UInt8) (p : List UInt8 × List UInt8), cutP c l = some p → l = p.1 ++ c :: p.2
  | [], p, h => by simp [cutP] at h
  | x :: l, p, h => by
    rw [cutP] at h
    split at h
    · rename_i hx
      injection h with h
      rw [← h, hx]
      rfl
    · cases hq : cutP c l with
      | none => rw [hq] at h; cases h
      | some q =>
        rw [hq] at h
        injection h with h
        rw [← h, cutP_is c l q hq]
        rfl
theorem fieldO_enc (f : Fl) (h : f.n ≠ []) : fieldO (encF f) = some f := by
  unfold fieldO
  rw [encF, cutP_front 61 _ _ (fun x hx => (encL_no _ _ hx).2)]
  simp only [decL_back]
  rw [if_neg h]
theorem fieldO_is {l : List UInt8} {f : Fl} (h : fieldO l = some f) : encF f = l ∧ f.n ≠ [] := by
  unfold fieldO at h
  split at h
  · cases h
  · rename_i p hp
    split at h
    · rename_i n v hn hv
      split at h
      · cases h
      · rename_i hne
        injection h with h
        subst h
        refine ⟨?_, hne⟩
        rw [cutP_is 61 l p hp, encF, (decL_is true _ _ _ (Nat.le_refl _) hn).1, (decL_is true _ _ _ (Nat.le_refl _) hv).1]
    · cases h
def goF : List Fl → List (List UInt8) → Nat × List Fl
  | seen, [] => (0, seen)
  | seen, p :: ps => match fieldO p with
    | none => (3, [])
    | some f => if hasF f.n seen then (6, []) else goF (seen ++ [f]) ps
def formE (l : List UInt8) : Nat × List Fl := if l = [] then (0, []) else if (splitC 38 l).length ≤ 24 then goF [] (splitC 38 l) else (7, [])
theorem goF_at (acc : List Fl) (ps : List (List UInt8)) (k : Nat) (p : List UInt8) (h : ps[k]? = some p) :
    goF acc (ps.drop k) = match fieldO p with
      | none => (3, [])
      | some f => if hasF f.n acc then (6, []) else goF (acc ++ [f]) (ps.drop (k + 1)) := by
  have hk := (List.getElem?_eq_some_iff.1 h).1
  have hp : ps[k] = p := (List.getElem?_eq_some_iff.1 h).2
  rw [List.drop_eq_getElem_cons hk, hp, goF]
theorem goF_end (acc : List Fl) (ps : List (List UInt8)) : goF acc (ps.drop ps.length) = (0, acc) := by rw [List.drop_length]; rfl
theorem goF_err : ∀ (ps : List (List UInt8)) (acc : List Fl), (goF acc ps).1 ≠ 0 → (goF acc ps).2 = []
  | [], acc, h => absurd rfl h
  | p :: ps, acc, h => by
    rw [goF] at h ⊢
    cases hp : fieldO p with
    | none => rfl
    | some f =>
      rw [hp] at h
      simp only at h ⊢
      split
      · rfl
      · rename_i hh
        rw [if_neg hh] at h
        exact goF_err ps _ h
theorem formE_err {l : List UInt8} (h : (formE l).1 ≠ 0) : (formE l).2 = [] := by
  unfold formE at h ⊢
  split
  · rfl
  · rename_i h1
    rw [if_neg h1] at h
    split
    · rename_i h2
      rw [if_pos h2] at h
      exact goF_err _ _ h
    · rfl
/-- is no name empty, none there twice? -/
def unlikeB (fs : List Fl) : Bool := (List.range fs.length).all fun i => match fs[i]? with
  | some f => decide (f.n ≠ []) && !hasF f.n (fs.take i)
  | none => true
def UnlikeP (fs : List Fl) : Prop := ∀ i f, fs[i]? = some f → f.n ≠ [] ∧ hasF f.n (fs.take i) = false
theorem unlikeP_nil : UnlikeP [] := fun i f h => by simp at h
theorem unlikeP_snoc {fs : List Fl} {f : Fl} (h : UnlikeP fs) (h1 : f.n ≠ []) (h2 : hasF f.n fs = false) : UnlikeP (fs ++ [f]) := by
  intro i g hg
  rcases Nat.lt_trichotomy i fs.length with hi | hi | hi
  · rw [List.getElem?_append_left hi] at hg
    rw [List.take_append_of_le_length (Nat.le_of_lt hi)]
    exact h i g hg
  · subst hi
    rw [List.getElem?_append_right (Nat.le_refl _)] at hg
    simp at hg
    subst hg
    rw [List.take_left]
    exact ⟨h1, h2⟩
  · rw [List.getElem?_eq_none (by simp; omega)] at hg
    cases hg
theorem goF_ok : ∀ (ps : List (List UInt8)) (acc fs : List Fl), UnlikeP acc → goF acc ps = (0, fs) → UnlikeP fs ∧ ∃ gs, fs = acc ++ gs ∧ ps = gs.map encF
  | [], acc, fs, hu, h => by
    rw [goF] at h
    injection h with _ h
    subst h
    exact ⟨hu, [], by simp, rfl⟩
  | p :: ps, acc, fs, hu, h => by
    rw [goF] at h
    cases hp : fieldO p with
    | none => rw [hp] at h; cases h
    | some f =>
      rw [hp] at h
      simp only at h
      cases hh : hasF f.n acc with
      | true => rw [hh, if_pos rfl] at h; cases h
      | false =>
        rw [hh] at h
        obtain ⟨he, hne⟩ := fieldO_is hp
        obtain ⟨h1, gs, h2, h3⟩ := goF_ok ps (acc ++ [f]) fs (unlikeP_snoc hu hne hh) h
        exact ⟨h1, f :: gs, by rw [h2]; simp, by rw [h3, List.map_cons, he]⟩
theorem formE_ok {l : List UInt8} (h : (formE l).1 = 0) : UnlikeP (formE l).2 ∧ printL (formE l).2 = l := by
  unfold formE at h ⊢
  split
  · rename_i h1
    exact ⟨unlikeP_nil, by rw [h1]; rfl⟩
  · rename_i h1
    rw [if_neg h1] at h
    split
    · rename_i h2
      rw [if_pos h2] at h
      obtain ⟨h3, gs, h4, h5⟩ := goF_ok (splitC 38 l) [] (goF [] (splitC 38 l)).2 unlikeP_nil (by rw [← h])
      refine ⟨h3, ?_⟩
      rw [List.nil_append] at h4
      rw [h4, printL, ← h5, join_split]
    · rename_i h2
      rw [if_neg h2] at h
      cases h
theorem unlikeP_take {fs : List Fl} (h : UnlikeP fs) (k : Nat) : UnlikeP (fs.take k) := by
  intro i f hf
  rw [List.getElem?_take] at hf
  split at hf
  · rename_i hi
    have := h i f hf
    rw [List.take_take, Nat.min_eq_left (Nat.le_of_lt hi)]
    exact this
  · cases hf
theorem goF_enc : ∀ (gs acc : List Fl) (rest : List (List UInt8)), UnlikeP (acc ++ gs) → goF acc (gs.map encF ++ rest) = goF (acc ++ gs) rest
  | [], acc, rest, _ => by simp
  | f :: gs, acc, rest, h => by
    have hf := h acc.length f (by rw [List.getElem?_append_right (Nat.le_refl _)]; simp)
    rw [List.take_left] at hf
    rw [List.map_cons, List.cons_append, goF, fieldO_enc f hf.1]
    simp only
    rw [hf.2]
    have := goF_enc gs (acc ++ [f]) rest (by simpa using h)
    simp only [List.append_assoc, List.singleton_append] at this
    exact this
theorem encF_ne (f : Fl) : encF f ≠ [] := by simp [encF]
theorem formE_print {fs : List Fl} (h : UnlikeP fs) (hl : fs.length ≤ 24) : formE (printL fs) = (0, fs) := by
  cases fs with
  | nil => rfl
  | cons f fs =>
    have hne : printL (f :: fs) ≠ [] := by rw [printL_cons]; intro e; exact encF_ne f (List.append_eq_nil_iff.1 e).1
    have hg := goF_enc (f :: fs) [] [] (by simpa using h)
    rw [List.append_nil, List.nil_append] at hg
    rw [formE, if_neg hne, split_print, if_pos (by rw [List.length_map]; exact hl), hg]
    rfl
theorem formE_twice {fs : List Fl} (h : UnlikeP fs) (hl : fs.length ≤ 12) (hne : fs ≠ []) : (formE (printL (fs ++ fs))).1 = 6 := by
  cases fs with
  | nil => exact absurd rfl hne
  | cons f fs =>
    have hn : printL ((f :: fs) ++ (f :: fs)) ≠ [] := by rw [List.cons_append, printL_cons]; intro e; exact encF_ne f (List.append_eq_nil_iff.1 e).1
    have hg := goF_enc (f :: fs) [] ((f :: fs).map encF) (by simpa using h)
    rw [List.nil_append] at hg
    have hsp : splitC 38 (printL ((f :: fs) ++ (f :: fs))) = (f :: fs).map encF ++ (f :: fs).map encF := by rw [List.cons_append, split_print, ← List.cons_append, List.map_append]
    rw [formE, if_neg hn, hsp, if_pos (by rw [List.length_append, List.length_map]; omega), hg, List.map_cons, goF, fieldO_enc f (h 0 f rfl).1]
    simp only
    rw [show hasF f.n (f :: fs) = true by simp [hasF]]
    rfl
theorem get_unlike {fs : List Fl} (h : UnlikeP fs) (i : Nat) (f : Fl) (hf : fs[i]? = some f) : getF f.n fs = some f.v := by
  have key : ∀ (a b : List Fl), hasF f.n a = false → getF f.n (a ++ f :: b) = some f.v := by
    intro a
    induction a with
    | nil => intro b _; rw [List.nil_append, getF, if_pos rfl]
    | cons g a ih =>
      intro b hh
      rw [hasF, List.any_cons, Bool.or_eq_false_iff] at hh
      rw [List.cons_append, getF, if_neg (by simpa using hh.1)]
      exact ih b hh.2
  have hl := (List.getElem?_eq_some_iff.1 hf).1
  have he := (List.getElem?_eq_some_iff.1 hf).2
  have hsp : fs = fs.take i ++ f :: fs.drop (i + 1) := by
    rw [← he, ← List.drop_eq_getElem_cons hl, List.take_append_drop]
  have := key (fs.take i) (fs.drop (i + 1)) (h i f hf).2
  rw [← hsp] at this
  exact this
end
section
open Go.RowKit Pc
theorem results_fl_t {fn : Func} {p u : Tmp} (h : fn.results = #[.cell p 90, .tmp u]) (tmps : Array Value) (w : World) (g : Nat) (f : Fl)
    (hp : tmps.getD p undef = .pointer (some ⟨g, 0, none⟩)) (hb : Blk w g 90 f.arr) : (results fn tmps).run Tryz.prog w = .ok (.tuple #[.agg f.arr, tmps.getD u undef]) w := by
  have hp' : tmps[p]?.getD undef = .pointer (some ⟨g, 0, none⟩) := by simpa using hp
  simp [results, h, hp', asAddr, run_loadVar_row w g 90 90 f.arr (0, 0) _ hb Tryz.underlying90 rfl fl_size]
def fieldV (o : Option Fl) : Value := .tuple #[.agg (o.getD ⟨[], []⟩).arr, .bool o.isSome]
theorem decV_some (b : List UInt8) : decV (some b) = .tuple #[.string ⟨b.toArray⟩, .int .i64 0] := rfl
theorem decV_none : decV none = .tuple #[.string ⟨#[]⟩, .int .i64 3] := rfl
theorem decV_any (o : Option (List UInt8)) : ∃ (x : ByteArray) (k : Int), decV o = .tuple #[.string x, .int .i64 k] := by
  cases o with
  | none => exact ⟨_, _, decV_none⟩
  | some b => exact ⟨_, _, decV_some b⟩
theorem cutA_some (l : List UInt8) (p : List UInt8 × List UInt8) : cutA l (some p) = p.1 := rfl
theorem cutP_len {c : UInt8} {l : List UInt8} {p : List UInt8 × List UInt8} (h : cutP c l = some p) : p.1.length ≤ l.length ∧ p.2.length ≤ l.length := by
  rw [cutP_is c l p h]
  simp
  omega
theorem Blk.setRow {w : World} {g : Nat} {t : TypeId} {cs cs' : Array Value} (h : Blk w g t cs) : Blk (w.setRow g cs') g t cs' := setRow_heap w g _ _ t _ h
theorem below_setRow {B b : Nat} {a w : World} (h : Below B a w) (hb : B ≤ b) (cs : Array Value) : Below B a (w.setRow b cs) :=
  ⟨h.os, h.tape, h.output, by rw [size_setRow]; exact h.size, fun i hi => (setRow_other w b i cs (by omega)).trans (h.block i hi)⟩
theorem DigOk.drewN {w : World} (h : DigOk w) (q : Nat) : DigOk (w.drewN q) := h
set_option maxHeartbeats 4000000 in
theorem field_walk (s : ByteArray) (l : List UInt8) (hs : s.data.toList = l) (w : World) (hd : DigOk w) (hm : s.size ≤ 1000000) :
    Calls Tryz.prog 98 #[.string s] w fun e w' => e = .returned (fieldV (fieldO l)) ∧ Below w.heap.size w w' := by
  have hsz : l.length = s.size := by rw [← hs, Lib.size_eq]
  have cc := Lib.hid (fun W => scut_walk s l hs 61 W hm)
  have HD := Lib.hid hd
  clear hd
  have hz := zero_of
  have HB0 : Hid (Below w.heap.size w (w.alloc (.cells (Fl.mk [] []).arr 90))) := (Below.refl w.heap.size w).alloc (Nat.le_refl _) _
  have HK0 := Lib.hid (Blk.new w 90 (Fl.mk [] []).arr)
  cases hp : cutP 61 l with
  | none =>
    have hv : Hid (fieldO l = none) := by show _ = _; unfold fieldO; rw [hp]
    rw [hp, show cutV l none = .tuple #[.string ⟨l.toArray⟩, .string ⟨#[]⟩, .bool false] from rfl] at cc
    obtain ⟨x1, k1, e1⟩ := decV_any (decL true l)
    obtain ⟨x2, k2, e2⟩ := decV_any (decL true [])
    have d1 := Lib.hid (fun W (h : DigOk W) => dec_walk ⟨l.toArray⟩ l (by simp) true W h (by rw [size_mks]; omega))
    have d2 := Lib.hid (fun W (h : DigOk W) => dec_walk ⟨#[]⟩ [] rfl true W h (by decide))
    rw [e1] at d1
    rw [e2] at d2
    clear e1 e2 hp hs hsz hm
    go_enter Tryz.func98, Tryz.ntmps98
    go_wp2_with fail
    refine (cc.out _).mono ?_
    rintro _ w1 ⟨rfl, q, rfl⟩
    go_wp2_with fail
    refine (d1.out _ ((HD.out.below HB0.out).drewN q)).mono ?_
    rintro _ w2 ⟨rfl, hb2⟩
    have HB2 := Lib.hid (below_next (below_drewN HB0.out q) hb2)
    have HK2 := Lib.hid ((HK0.out.drewN q).below hb2 (HK0.out.drewN q).lt)
    have HD2 := Lib.hid (HD.out.below HB2.out)
    clear hb2 HB0 HK0
    go_wp2_with fail
    refine (d2.out _ HD2.out).mono ?_
    rintro _ w3 ⟨rfl, hb3⟩
    have HB3 := Lib.hid (below_next HB2.out hb3)
    have HK3 := Lib.hid (HK2.out.below hb3 HK2.out.lt)
    clear hb3 HB2 HK2 HD2
    go_wp2_with (refine wpList_store_fl2 rfl _ _ rfl w.heap.size HK3.out rfl rfl ?_)
    refine bodyPost_ret (results_fl_t Tryz.results98 _ _ w.heap.size ⟨[], []⟩ rfl HK3.out.setRow) rfl ⟨?_, below_setRow HB3.out (Nat.le_refl _) _⟩
    rw [hv.out]
    rfl
  | some p =>
    obtain ⟨a, b⟩ := p
    obtain ⟨hl1, hl2⟩ := cutP_len hp
    simp only at hl1 hl2
    rw [hp, show cutV l (some (a, b)) = .tuple #[.string ⟨a.toArray⟩, .string ⟨b.toArray⟩, .bool true] from rfl] at cc
    have d1 := Lib.hid (fun W (h : DigOk W) => dec_walk ⟨a.toArray⟩ a (by simp) true W h (by rw [size_mks]; omega))
    have d2 := Lib.hid (fun W (h : DigOk W) => dec_walk ⟨b.toArray⟩ b (by simp) true W h (by rw [size_mks]; omega))
    cases ha : decL true a with
    | none =>
      have hv : Hid (fieldO l = none) := by show _ = _; unfold fieldO; rw [hp]; simp only; rw [ha]
      obtain ⟨x2, k2, e2⟩ := decV_any (decL true b)
      rw [ha, decV_none] at d1
      rw [e2] at d2
      clear e2 hp hs hsz hm ha hl1 hl2
      go_enter Tryz.func98, Tryz.ntmps98
      go_wp2_with fail
      refine (cc.out _).mono ?_
      rintro _ w1 ⟨rfl, q, rfl⟩
      go_wp2_with fail
      refine (d1.out _ ((HD.out.below HB0.out).drewN q)).mono ?_
      rintro _ w2 ⟨rfl, hb2⟩
      have HB2 := Lib.hid (below_next (below_drewN HB0.out q) hb2)
      have HK2 := Lib.hid ((HK0.out.drewN q).below hb2 (HK0.out.drewN q).lt)
      have HD2 := Lib.hid (HD.out.below HB2.out)
      clear hb2 HB0 HK0
      go_wp2_with fail
      refine (d2.out _ HD2.out).mono ?_
      rintro _ w3 ⟨rfl, hb3⟩
      have HB3 := Lib.hid (below_next HB2.out hb3)
      have HK3 := Lib.hid (HK2.out.below hb3 HK2.out.lt)
      clear hb3 HB2 HK2 HD2
      go_wp2_with (refine wpList_store_fl2 rfl _ _ rfl w.heap.size HK3.out rfl rfl ?_)
      refine bodyPost_ret (results_fl_t Tryz.results98 _ _ w.heap.size ⟨[], []⟩ rfl HK3.out.setRow) rfl ⟨?_, below_setRow HB3.out (Nat.le_refl _) _⟩
      rw [hv.out]
      rfl
    | some n =>
      rw [ha, decV_some] at d1
      cases hb : decL true b with
      | none =>
        have hv : Hid (fieldO l = none) := by show _ = _; unfold fieldO; rw [hp]; simp only; rw [ha, hb]
        rw [hb, decV_none] at d2
        clear hp hs hsz hm ha hl1 hl2 hb
        go_enter Tryz.func98, Tryz.ntmps98
        go_wp2_with fail
        refine (cc.out _).mono ?_
        rintro _ w1 ⟨rfl, q, rfl⟩
        go_wp2_with fail
        refine (d1.out _ ((HD.out.below HB0.out).drewN q)).mono ?_
        rintro _ w2 ⟨rfl, hb2⟩
        have HB2 := Lib.hid (below_next (below_drewN HB0.out q) hb2)
        have HK2 := Lib.hid ((HK0.out.drewN q).below hb2 (HK0.out.drewN q).lt)
        have HD2 := Lib.hid (HD.out.below HB2.out)
        clear hb2 HB0 HK0
        go_wp2_with fail
        refine (d2.out _ HD2.out).mono ?_
        rintro _ w3 ⟨rfl, hb3⟩
        have HB3 := Lib.hid (below_next HB2.out hb3)
        have HK3 := Lib.hid (HK2.out.below hb3 HK2.out.lt)
        clear hb3 HB2 HK2 HD2
        go_wp2_with (refine wpList_store_fl2 rfl _ _ rfl w.heap.size HK3.out rfl rfl ?_)
        refine bodyPost_ret (results_fl_t Tryz.results98 _ _ w.heap.size ⟨[], []⟩ rfl HK3.out.setRow) rfl ⟨?_, below_setRow HB3.out (Nat.le_refl _) _⟩
        rw [hv.out]
        rfl
      | some v =>
        rw [hb, decV_some] at d2
        by_cases hn : n = []
        · have hv : Hid (fieldO l = none) := by show _ = _; unfold fieldO; rw [hp]; simp only; rw [ha, hb]; exact if_pos hn
          subst hn
          clear hp hs hsz hm ha hl1 hl2 hb
          go_enter Tryz.func98, Tryz.ntmps98
          go_wp2_with fail
          refine (cc.out _).mono ?_
          rintro _ w1 ⟨rfl, q, rfl⟩
          go_wp2_with fail
          refine (d1.out _ ((HD.out.below HB0.out).drewN q)).mono ?_
          rintro _ w2 ⟨rfl, hb2⟩
          have HB2 := Lib.hid (below_next (below_drewN HB0.out q) hb2)
          have HK2 := Lib.hid ((HK0.out.drewN q).below hb2 (HK0.out.drewN q).lt)
          have HD2 := Lib.hid (HD.out.below HB2.out)
          clear hb2 HB0 HK0
          go_wp2_with fail
          refine (d2.out _ HD2.out).mono ?_
          rintro _ w3 ⟨rfl, hb3⟩
          have HB3 := Lib.hid (below_next HB2.out hb3)
          have HK3 := Lib.hid (HK2.out.below hb3 HK2.out.lt)
          clear hb3 HB2 HK2 HD2
          go_wp2_with (refine wpList_store_fl2 rfl _ _ rfl w.heap.size HK3.out rfl rfl ?_)
          refine bodyPost_ret (results_fl_t Tryz.results98 _ _ w.heap.size ⟨[], []⟩ rfl HK3.out.setRow) rfl ⟨?_, below_setRow HB3.out (Nat.le_refl _) _⟩
          rw [hv.out]
          rfl
        · have hv : Hid (fieldO l = some ⟨n, v⟩) := by show _ = _; unfold fieldO; rw [hp]; simp only; rw [ha, hb]; exact if_neg hn
          have hn1 : n.isEmpty = false := by cases n with | nil => exact absurd rfl hn | cons _ _ => rfl
          clear hp hs hsz hm ha hl1 hl2 hb
          go_enter Tryz.func98, Tryz.ntmps98
          go_wp2_with fail
          refine (cc.out _).mono ?_
          rintro _ w1 ⟨rfl, q, rfl⟩
          go_wp2_with fail
          refine (d1.out _ ((HD.out.below HB0.out).drewN q)).mono ?_
          rintro _ w2 ⟨rfl, hb2⟩
          have HB2 := Lib.hid (below_next (below_drewN HB0.out q) hb2)
          have HK2 := Lib.hid ((HK0.out.drewN q).below hb2 (HK0.out.drewN q).lt)
          have HD2 := Lib.hid (HD.out.below HB2.out)
          clear hb2 HB0 HK0
          go_wp2_with fail
          refine (d2.out _ HD2.out).mono ?_
          rintro _ w3 ⟨rfl, hb3⟩
          have HB3 := Lib.hid (below_next HB2.out hb3)
          have HK3 := Lib.hid (HK2.out.below hb3 HK2.out.lt)
          clear hb3 HB2 HK2 HD2
          go_wp2_with (refine wpList_store_fl2 (f := ⟨n, v⟩) rfl _ _ rfl w.heap.size HK3.out rfl rfl ?_)
          refine bodyPost_ret (results_fl_t Tryz.results98 _ _ w.heap.size ⟨n, v⟩ rfl HK3.out.setRow) rfl ⟨?_, below_setRow HB3.out (Nat.le_refl _) _⟩
          rw [hv.out]
          rfl
end
section
open Go.RowKit Pc
/-- a field in a box -/
def BoxS (g : Nat) (f : Fl) (W : World) : Prop := Blk W g 90 f.arr ∧ W.cell? ⟨g, 0, none⟩ = some (.string ⟨f.n.toArray⟩) ∧ W.cell? ⟨g, 1, none⟩ = some (.string ⟨f.v.toArray⟩)
theorem boxS {g : Nat} {f : Fl} {W : World} (h : Blk W g 90 f.arr) : Blk W g 90 f.arr ∧ W.cell? ⟨g, 0, none⟩ = some (.string ⟨f.n.toArray⟩) ∧ W.cell? ⟨g, 1, none⟩ = some (.string ⟨f.v.toArray⟩) :=
  ⟨h, h.cell 0, h.cell 1⟩
theorem cat_field (f : Fl) : (⟨(encL true f.n).toArray⟩ : ByteArray) ++ ⟨#[61]⟩ ++ ⟨(encL true f.v).toArray⟩ = ⟨(encF f).toArray⟩ := by
  apply str_eq
  simp [ByteArray.data_append, encF]
def encS (fs : List Fl) : List (List UInt8) := fs.map encF
theorem encS_step (fs : List Fl) (k : Nat) (f : Fl) (h : fs[k]? = some f) : strVs (encS (fs.take (k + 1))) = strVs (encS (fs.take k)) ++ [strV (encF f)] := by
  rw [List.take_add_one, h]
  simp [strVs, encS]
theorem encS_len (fs : List Fl) (k : Nat) (h : k ≤ fs.length) : (strVs (encS (fs.take k))).length = k := by simp [strVs, encS]; omega
end
section
open Go.RowKit Pc
end
section
open Go.RowKit Pc
theorem splitC_mem (c : UInt8) : ∀ (l : List UInt8) (p : List UInt8), p ∈ splitC c l → p.length ≤ l.length
  | [], p, h => by simp [splitC] at h; subst h; simp
  | x :: l, p, h => by
    have ih := splitC_mem c l
    rw [splitC] at h
    split at h
    · rcases List.mem_cons.1 h with rfl | h
      · simp
      · have := ih p h; simp; omega
    · split at h
      · simp at h; subst h; simp
      · rename_i q qs hq
        rcases List.mem_cons.1 h with rfl | h
        · have := ih q (by rw [hq]; simp); simp; omega
        · have := ih p (by rw [hq]; simp [h]); simp; omega
/-- a row of texts in memory -/
def RowS (w : World) (g : Nat) (ps : List (List UInt8)) : Prop := g < w.heap.size ∧ ∀ j p, ps[j]? = some p → w.cell? ⟨g, j, none⟩ = some (.string ⟨p.toArray⟩)
theorem RowS.below {w w' : World} {g : Nat} {ps : List (List UInt8)} (h : RowS w g ps) {B : Nat} (hb : Below B w w') (hg : g < B) : RowS w' g ps :=
  ⟨by have := h.1; have := hb.size; omega, fun j p hp => (hb.cell hg).trans (h.2 j p hp)⟩
theorem RowS.of_blk {w : World} {g : Nat} {ps : List (List UInt8)} {t : TypeId} (h : Blk w g t (strVs ps).toArray) : RowS w g ps :=
  ⟨h.lt, fun j p hp => by rw [h.cell j]; simp [strVs, strV, hp]⟩
theorem RowS.only {w w' : World} {g b : Nat} {ps : List (List UInt8)} (h : RowS w g ps) (hg : w.grownBy w' (some b)) (hne : g ≠ b) : RowS w' g ps := by
  refine ⟨Nat.lt_of_lt_of_le h.1 hg.size, fun j p hp => ?_⟩
  rw [← h.2 j p hp]
  have := hg.block g h.1 (fun e => hne (by injection e))
  exact World.cell?_of_block this
theorem only_grown {a w w' : World} {g : Nat} {row : Option Nat} (h : a.grownBy w (some g)) (k : w.grownBy w' row) (hr : ∀ r, row = some r → a.heap.size ≤ r) : a.grownBy w' (some g) :=
  ⟨k.os.trans h.os, k.tape.trans h.tape, k.output.trans h.output, Nat.le_trans h.size k.size, fun i hi hne => (k.block i (Nat.lt_of_lt_of_le hi h.size) (fun e => by have := hr i e.symm; omega)).trans (h.block i hi hne)⟩
theorem setRow_only (w : World) (b : Nat) (cs : Array Value) : w.grownBy (w.setRow b cs) (some b) :=
  ⟨rfl, rfl, rfl, by simp, fun i _ hne => setRow_other w b i cs (fun e => hne (by rw [e]))⟩
theorem only_setRow {a w : World} {b : Nat} (h : a.grownBy w (some b)) (cs : Array Value) : a.grownBy (w.setRow b cs) (some b) :=
  ⟨h.os, h.tape, h.output, by rw [size_setRow]; exact h.size, fun i hi hne => (setRow_other w b i cs (fun e => hne (by rw [e]))).trans (h.block i hi hne)⟩
/-- what a text's fields come back as -/
def FormR (l : List UInt8) (w : World) (e : Ending) (w' : World) : Prop :=
  ∃ v, e = .returned (.tuple #[v, .int .i64 (formE l).1]) ∧ w'.ownsRow w.heap.size 90 2 v (formE l).2.length (fCells (formE l).2) ∧ Below w.heap.size w w'
theorem FormR.err {l : List UInt8} {w w' : World} (n : Nat) (hn : formE l = (n, [])) (hb : Below w.heap.size w w') : FormR l w (.returned (.tuple #[.slice none 0 0, .int .i64 n])) w' := by
  refine ⟨.slice none 0 0, by rw [hn], ?_, hb⟩
  rw [hn]
  exact World.ownsRow_nil _ _ _ _
theorem fold_fl (f : Fl) : Array.foldl (fun (cs : Array Value) (x : Value × Nat) => cs.setIfInBounds x.snd x.fst) #[.string ⟨#[]⟩, .string ⟨#[]⟩] (f.arr.zipIdx) 0 2 = f.arr := by kernel_rfl
set_option maxHeartbeats 16000000 in
theorem parse_walk (s : ByteArray) (l : List UInt8) (hs : s.data.toList = l) (w : World) (hd : DigOk w) (hm : s.size ≤ 1000000) :
    Calls Tryz.prog 81 #[.string s] w (FormR l w) := by
  obtain ⟨i0, hi, hz0, hz1, hz2⟩ := infoS4 info_fl
  have hmf : ∀ (fn : Fn) (first cap : Array Value) (w : World), (Instr.makeFunc fn first cap).run Tryz.prog w = .ok (.func fn first cap) w := fun _ _ _ _ => rfl
  by_cases h0 : l = []
  · have hv : Hid (formE l = (0, [])) := by show _ = _; rw [h0]; rfl
    have he : s = ⟨#[]⟩ := by apply str_eq; rw [hs, h0]
    subst he
    have hb0 := Lib.hid ((Below.refl w.heap.size w).alloc (Nat.le_refl _) (.cells (Fl.mk [] []).arr 90))
    clear h0 hs
    go_enter Tryz.func81, Tryz.ntmps81
    go_wp2_with fail
    go_step3
    go_wp2_with fail
    rw [Exit.noGoto_ret]
    go_ret2
    exact FormR.err 0 hv.out hb0.out
  have hsz : l.length = s.size := by rw [← hs, Lib.size_eq]
  have he1 : s.toList.isEmpty = false := by
    rw [ByteArray.toList_eq, hs]
    cases l with
    | nil => exact absurd rfl h0
    | cons _ _ => rfl
  have he2 : ¬ s.toList = [] := by
    rw [ByteArray.toList_eq, hs]
    exact h0
  have cs := Lib.hid (fun W => split_walk s l hs 38 W hm)
  have hmem := Lib.hid (splitC_mem 38 l)
  have hlen : (splitC 38 l).length ≤ s.size + 1 := by
    have := splitC_len 38 l
    have : l.count 38 ≤ l.length := List.count_le_length
    omega
  have hF : Hid (formE l = if (splitC 38 l).length ≤ 24 then goF [] (splitC 38 l) else (7, [])) := by show _ = _; rw [formE, if_neg h0]
  obtain ⟨ps, hps⟩ : ∃ ps, splitC 38 l = ps := ⟨_, rfl⟩
  rw [hps] at cs hmem hlen hF
  have HD := Lib.hid hd
  have HB0 : Hid (Below w.heap.size w (w.alloc (.cells (Fl.mk [] []).arr 90))) := (Below.refl w.heap.size w).alloc (Nat.le_refl _) _
  have HK0 := Lib.hid (Blk.new w 90 (Fl.mk [] []).arr)
  have hz := zero_of
  clear hd hps h0
  by_cases h24 : 24 < ps.length
  · have hv : Hid (formE l = (7, [])) := by show _ = _; rw [hF.out, if_neg (by omega)]
    have h24d : decide ((24 : Int) < (ps.length : Int)) = true := by simp; omega
    clear hF h24
    go_enter Tryz.func81, Tryz.ntmps81
    go_wp2_with fail
    refine wp_scope_jumps 0 (fun a' w' => Below w.heap.size w w' ∧ ∃ (u0 u1 u2 u3 u4 u5 u6 u7 u9 u10 u11 u12 u13 u14 u15 u16 u17 u18 u19 u20 u21 u22 u23 u24 u25 u26 u27 u28 u29 u30 u31 u32 u33 u34 u35 u36 u37 u38 u39 u40 u41 u42 u43 u44 : Value), a' = { tmps := #[u0, u1, u2, u3, u4, u5, u6, u7, .int .i64 7, u9, u10, u11, u12, u13, u14, u15, u16, u17, u18, u19, u20, u21, u22, u23, u24, u25, u26, u27, u28, u29, u30, u31, u32, u33, u34, u35, u36, u37, u38, u39, u40, u41, u42, u43, u44], defers := [] }) (fun _ _ => 0) rfl ?_ ?_
    · go_wp2_with fail
      refine (cs.out _).mono ?_
      rintro _ w1 ⟨gp, rfl, hgp, hblk, hbel⟩
      have HR := Lib.hid (RowS.of_blk hblk)
      have HB1 := Lib.hid (below_next HB0.out hbel)
      have HK1 := Lib.hid (HK0.out.below hbel HK0.out.lt)
      have hgne : gp ≠ w.heap.size := by have := HK0.out.lt; omega
      have hwl := HK1.out.lt
      clear hblk hbel hgp HB0 HK0 cs hz
      go_wp2_with fail
      go_step3
      exact ⟨rfl, HB1.out, _, _, _, _, _, _, _, _, _, _, _, _, _, _, _, _, _, _, _, _, _, _, _, _, _, _, _, _, _, _, _, _, _, _, _, _, _, _, _, _, _, _, _, _, rfl⟩
    · rintro a' w' ⟨hb, u0, u1, u2, u3, u4, u5, u6, u7, u9, u10, u11, u12, u13, u14, u15, u16, u17, u18, u19, u20, u21, u22, u23, u24, u25, u26, u27, u28, u29, u30, u31, u32, u33, u34, u35, u36, u37, u38, u39, u40, u41, u42, u43, u44, rfl⟩
      go_wp2_with fail
      simp only [Exit.jump]
      go_ret2
      exact FormR.err 7 hv.out hb
  · have hv : Hid (formE l = goF [] ps) := by show _ = _; rw [hF.out, if_pos (by omega)]
    have h24d : decide ((24 : Int) < (ps.length : Int)) = false := by simp; omega
    clear hF
    go_enter Tryz.func81, Tryz.ntmps81
    go_wp2_with fail
    go_step3
    go_wp2_with fail
    refine (cs.out _).mono ?_
    rintro _ w1 ⟨gp, rfl, hgp, hblk, hbel⟩
    have HR := Lib.hid (RowS.of_blk hblk)
    have HB1 := Lib.hid (below_next HB0.out hbel)
    have HK1 := Lib.hid (HK0.out.below hbel HK0.out.lt)
    have hgne : gp ≠ w.heap.size := by have := HK0.out.lt; omega
    have hwl := HK1.out.lt
    clear hblk hbel hgp HB0 HK0 cs hz
    go_wp2_with fail
    go_step3
    go_wp2_with fail
    go_loopw [4, 8, 20] (fun ov ev iv wr => ∃ (k : Nat) (acc : List Fl) (f0 : Fl), k ≤ ps.length ∧ acc.length ≤ k ∧ iv = .int .i64 k ∧ ev = .int .i64 0 ∧ wr.ownsRow w1.heap.size 90 2 ov acc.length (fCells acc) ∧ Hid (goF acc (ps.drop k) = formE l) ∧ Hid (Blk wr w.heap.size 90 f0.arr) ∧ Hid (w1.grownBy wr (some w.heap.size)) ∧ Hid (Below w.heap.size w wr)) (fun _ _ iv _ => ps.length - (intOf iv).toNat)
    case atStart => exact ⟨0, [], ⟨[], []⟩, by omega, by simp, rfl, rfl, World.ownsRow_nil _ _ _ _, hv.out.symm, HK1, only_refl _ _, HB1⟩
    case round =>
      clear HK1 HB1
      obtain ⟨k, acc, f0, hk, hak, rfl, rfl, hown, hgo, HK, HG, HB⟩ := hrel
      have HRr := Lib.hid (HR.out.only HG.out hgne)
      obtain ⟨A, c, rfl, hfs⟩ := FsAt.own hown (by omega)
      by_cases hlt : k < ps.length
      · obtain ⟨p, hpk⟩ : ∃ p, ps[k]? = some p := ⟨_, List.getElem?_eq_getElem (by omega)⟩
        have hc := HRr.out.2 k p hpk
        have hpl := hmem.out p (List.mem_of_getElem? hpk)
        have hst := Lib.hid (goF_at acc ps k p hpk)
        have cf := Lib.hid (field_walk ⟨p.toArray⟩ p (by simp) wr (HD.out.below HB.out) (by rw [size_mks]; omega))
        have HO := Lib.hid hown
        have HF := Lib.hid hfs
        clear hpk hpl hown hfs
        cases hfo : fieldO p with
        | none =>
          rw [hfo] at cf hst
          rw [show fieldV none = .tuple #[.agg (Fl.mk [] []).arr, .bool false] from rfl] at cf
          have hv3 : Hid (formE l = (3, [])) := by show _ = _; rw [← hgo.out, hst.out]
          clear hfo hst
          go_wp2_with fail
          refine cf.out.mono ?_
          rintro _ w2 ⟨rfl, hbn⟩
          have HB2 := Lib.hid (below_next HB.out hbn)
          have HK2 := Lib.hid (HK.out.below hbn HK.out.lt)
          clear hbn
          go_wp2_with (refine wpList_store_fl2 rfl _ _ rfl w.heap.size HK2.out rfl rfl ?_)
          go_step3
          go_wp2_with fail
          rw [Exit.noGoto_ret]
          go_ret2
          exact FormR.err 3 hv3.out (below_setRow HB2.out (Nat.le_refl _) _)
        | some f =>
          rw [hfo] at cf hst
          rw [show fieldV (some f) = .tuple #[.agg f.arr, .bool true] from rfl] at cf
          clear hfo
          go_wp2_with fail
          refine cf.out.mono ?_
          rintro _ w2 ⟨rfl, hbn⟩
          have HB2 := Lib.hid (below_setRow (below_next HB.out hbn) (Nat.le_refl _) f.arr)
          have HK2' := Lib.hid (HK.out.below hbn HK.out.lt)
          have HK2 : Hid (Blk (w2.setRow w.heap.size f.arr) w.heap.size 90 f.arr) := HK2'.out.setRow
          have HG2 := Lib.hid (only_setRow (only_grown HG.out (only_of_below hbn none) (fun r e => by cases e)) f.arr)
          have HO2 : Hid ((w2.setRow w.heap.size f.arr).ownsRow w1.heap.size 90 2 (.slice A acc.length c) acc.length (fCells acc)) :=
            (ownsRow_below HO.out hbn).kept (setRow_only _ _ _) (.inr (fun e => by have := (HO.out.lt _ e).1; omega))
          have hsz2 := hbn.size
          clear hbn
          obtain ⟨A2, c2, e2, hfs2⟩ := FsAt.own HO2.out (by omega)
          injection e2 with eA _ ec
          subst eA ec
          have ct := Lib.hid (fcontains_walk _ _ _ (w2.setRow w.heap.size f.arr) (parse1_walk w.heap.size f _ (HK2.out.cell 0)) acc A c hfs2)
          clear hfs2
          have hany : (acc.any fun r => decide (r.n = f.n)) = hasF f.n acc := rfl
          rw [hany] at ct
          cases hh : hasF f.n acc with
          | true =>
            rw [hh] at ct hst
            have hv6 : Hid (formE l = (6, [])) := by show _ = _; rw [← hgo.out, hst.out]; rfl
            clear hh hany hst
            go_wp2_with (refine wpList_store_fl2 rfl _ _ rfl w.heap.size HK2'.out rfl rfl ?_)
            refine ct.out.mono ?_
            rintro _ w3 ⟨rfl, hbn⟩
            have HB3 := Lib.hid (below_next HB2.out hbn)
            go_wp2_with fail
            go_step3
            go_wp2_with fail
            rw [Exit.noGoto_ret]
            go_ret2
            exact FormR.err 6 hv6.out HB3.out
          | false =>
            rw [hh] at ct hst
            have HNX : Hid (goF (acc ++ [f]) (ps.drop (k + 1)) = formE l) := by show _ = _; rw [← hgo.out, hst.out]; rfl
            clear hh hany hst
            go_wp2_with (refine wpList_store_fl2 rfl _ _ rfl w.heap.size HK2'.out rfl rfl ?_)
            refine ct.out.mono ?_
            rintro _ w3 ⟨rfl, hbn⟩
            have HB3 := Lib.hid (below_next HB2.out hbn)
            have HK3 := Lib.hid (HK2.out.below hbn HK2.out.lt)
            have HG3 := Lib.hid (only_grown HG2.out (only_of_below hbn none) (fun r e => by cases e))
            have HO3 := Lib.hid (ownsRow_below HO2.out hbn)
            have hbf := Lib.hid (blk_fl HK3.out)
            have hal : acc.length ≤ 24 := by omega
            have hfz := f.sz
            have hrd := reads_new w3 90 f.cells
            have hsz3 := hbn.size
            have hws : (w2.setRow w.heap.size f.arr).heap.size = w2.heap.size := size_setRow _ _ _
            have hw13 : w1.heap.size ≤ w3.heap.size := HG3.out.size
            clear hbn ct HB2 HK2 HK2' HG2 HO2 h24
            go_wp2_with (first
              | (refine wpList_load_fl rfl _ rfl ⟨w.heap.size, 0, none⟩ rfl f hbf.out ?_)
              | (at_builtin; rw [fold_fl]; refine wpList_append_any (w3.alloc (.cells f.arr 90)) rfl (.tmp 36) (.tmp 38) 58 rfl w1.heap.size 90 i0 (.agg (Fl.mk [] []).arr) 2 32 Tryz.underlying58 hi hz0 hz1 hz2 rfl (by decide) (.slice A acc.length c) acc.length (fCells acc) rfl (HO3.out.alloc _) (w3.heap.size + 1) _ 1 1 f.cells rfl hrd (fun u hu => fCells_ones [f] u (by simpa [fCells] using hu)) (by unfold maxLen; omega) (by omega) (by simp; omega) ?_; intro v' w5 hown5 hg5 hat5))
            have hown6 := fl_next (l' := acc ++ [f]) hown5 rfl rfl
            have hlt6 : ∀ g', (Value.slice A acc.length c).ownBlock = some g' → w1.heap.size ≤ g' := fun g' h => (HO3.out.lt g' h).1
            have HG5 := Lib.hid (only_grown (only_grown HG3.out (only_alloc (only_refl w3 none) (.cells f.arr 90)) (fun r e => by cases e)) hg5 hlt6)
            have HK5 := Lib.hid ((HK3.out.alloc (.cells f.arr 90)).grown hg5 (fun e => by have := hlt6 _ e.symm; omega))
            have HB5 := Lib.hid ((HB3.out.alloc HB3.out.size (.cells f.arr 90)).grown hg5 (by have := HB3.out.size; simp; omega) (fun g' h => by have := hlt6 g' h; omega))
            exact ⟨⟨k + 1, acc ++ [f], f, by omega, by simp; omega, by go_num, rfl, hown6, HNX, HK5, HG5, HB5⟩, by simp [intOf]; omega⟩
      · obtain rfl : k = ps.length := by omega
        have hv0 : Hid (formE l = (0, acc)) := by show _ = _; rw [← hgo.out]; exact goF_end acc ps
        have HO := Lib.hid hown
        clear hown hfs
        go_wp2_with fail
        rw [Exit.noGoto_ret]
        go_ret2
        refine ⟨.slice A acc.length c, by rw [hv0.out]; rfl, ?_, HB.out⟩
        rw [hv0.out]
        exact World.ownsRow.mono HO.out (Nat.le_of_lt hwl)
end
section
open Go.RowKit Pc
set_option maxHeartbeats 16000000 in
theorem rparse_walk (s : ByteArray) (l : List UInt8) (hs : s.data.toList = l) (w : World) (hm : s.size ≤ 1000000) :
    Calls Tryz.prog 53 #[.string s] w (FormR l w) := by
  obtain ⟨i0, hi, hz0, hz1, hz2⟩ := infoS4 info_fl
  by_cases h0 : l = []
  · have hv : Hid (formE l = (0, [])) := by show _ = _; rw [h0]; rfl
    have he : s = ⟨#[]⟩ := by apply str_eq; rw [hs, h0]
    subst he
    clear h0 hs
    go_enter Tryz.func53, Tryz.ntmps53
    go_wp2_with fail
    go_ret2
    exact FormR.err 0 hv.out (Below.refl _ _)
  have hsz : l.length = s.size := by rw [← hs, Lib.size_eq]
  have he1 : s.toList.isEmpty = false := by
    rw [ByteArray.toList_eq, hs]
    cases l with
    | nil => exact absurd rfl h0
    | cons _ _ => rfl
  have he2 : ¬ s.toList = [] := by
    rw [ByteArray.toList_eq, hs]
    exact h0
  have cs := Lib.hid (fun W => parts_walk s l hs 38 W hm)
  have hmem := Lib.hid (splitC_mem 38 l)
  have hlen : (splitC 38 l).length ≤ s.size + 1 := by
    have := splitC_len 38 l
    have : l.count 38 ≤ l.length := List.count_le_length
    omega
  have hne : 0 < (splitC 38 l).length := by have := splitC_len 38 l; omega
  have hF : Hid (formE l = if (splitC 38 l).length ≤ 24 then goF [] (splitC 38 l) else (7, [])) := by show _ = _; rw [formE, if_neg h0]
  obtain ⟨ps, hps⟩ : ∃ ps, splitC 38 l = ps := ⟨_, rfl⟩
  rw [hps] at cs hmem hlen hF hne
  clear hps h0
  go_enter Tryz.func53, Tryz.ntmps53
  go_wp2_with fail
  refine (cs.out _).mono ?_
  rintro _ w1 ⟨vp, rfl, hownp, hbel⟩
  rcases hownp.2 with ⟨_, hn0⟩ | ⟨gp, cp, cur, rfl, hgl, hcur, hnc, hcm, _, _⟩
  · omega
  have hglt : gp < w1.heap.size := by
    rcases Nat.lt_or_ge gp w1.heap.size with h | h
    · exact h
    · rw [Array.getElem?_eq_none h] at hcur; cases hcur
  have HR := Lib.hid (show RowS w1 gp ps from ⟨hglt, fun j p hp => by
    have := hownp.cells (g := gp) rfl j (strV p) (by simp [strVs, hp])
    have hadd : (⟨gp, 0, none⟩ : Addr).add j = ⟨gp, j, none⟩ := by unfold Addr.add; split <;> simp_all
    rw [hadd] at this
    exact this⟩)
  have HB1 := Lib.hid hbel
  have hwl := hbel.size
  clear hownp hcur hbel cs hne hcm
  by_cases h24 : 24 < ps.length
  · have hv : Hid (formE l = (7, [])) := by show _ = _; rw [hF.out, if_neg (by omega)]
    have h24d : decide ((24 : Int) < (ps.length : Int)) = true := by simp; omega
    clear hF h24
    go_wp2_with fail
    go_ret2
    exact FormR.err 7 hv.out HB1.out
  · have hv : Hid (formE l = goF [] ps) := by show _ = _; rw [hF.out, if_pos (by omega)]
    have h24d : decide ((24 : Int) < (ps.length : Int)) = false := by simp; omega
    have h24e : ps.length ≤ 24 := by omega
    clear hF h24
    go_wp2_with fail
    go_loopw [5, 6] (fun ov iv wr => ∃ (k : Nat) (acc : List Fl), k ≤ ps.length ∧ acc.length ≤ k ∧ iv = .int .i64 k ∧ wr.ownsRow w1.heap.size 90 2 ov acc.length (fCells acc) ∧ Hid (goF acc (ps.drop k) = formE l) ∧ Hid (Below w1.heap.size w1 wr) ∧ Hid (Below w.heap.size w wr)) (fun _ iv _ => ps.length - (intOf iv).toNat)
    case atStart => exact ⟨0, [], by omega, by simp, rfl, World.ownsRow_nil _ _ _ _, hv.out.symm, Below.refl _ _, HB1⟩
    case round =>
      clear HB1
      obtain ⟨k, acc, hk, hak, rfl, hown, hgo, HG, HB⟩ := hrel
      have HRr := Lib.hid (HR.out.below HG.out hglt)
      obtain ⟨A, c, rfl, hfs⟩ := FsAt.own hown (by omega)
      have hi2 : (k : Int) ≤ (cp : Int) := by omega
      by_cases hlt : k < ps.length
      · obtain ⟨p, hpk⟩ : ∃ p, ps[k]? = some p := ⟨_, List.getElem?_eq_getElem (by omega)⟩
        have hc := HRr.out.2 k p hpk
        have hpl := hmem.out p (List.mem_of_getElem? hpk)
        have hst := Lib.hid (goF_at acc ps k p hpk)
        have cc := Lib.hid (fun W => rcut_walk ⟨p.toArray⟩ p (by simp) 61 W (by rw [size_mks]; omega))
        have HO := Lib.hid hown
        have HF := Lib.hid hfs
        have hsw := HB.out.size
        have hsg := HG.out.size
        clear hpk hown hfs
        cases hp : cutP 61 p with
        | none =>
          have hfo : fieldO p = none := by unfold fieldO; rw [hp]
          have hv3 : Hid (formE l = (3, [])) := by show _ = _; rw [← hgo.out, hst.out, hfo]
          rw [hp, show cutV p none = .tuple #[.string ⟨p.toArray⟩, .string ⟨#[]⟩, .bool false] from rfl] at cc
          obtain ⟨x1, k1, e1⟩ := decV_any (decL true p)
          obtain ⟨x2, k2, e2⟩ := decV_any (decL true [])
          have d1 := Lib.hid (fun W => rdec_walk ⟨p.toArray⟩ p (by simp) true W (by rw [size_mks]; omega))
          have d2 := Lib.hid (fun W => rdec_walk ⟨#[]⟩ [] rfl true W (by decide))
          rw [e1] at d1
          rw [e2] at d2
          clear e1 e2 hp hfo hst
          go_wp2_with fail
          refine (cc.out _).mono ?_
          rintro _ w2 ⟨rfl, q, rfl⟩
          go_wp2_with fail
          refine (d1.out _).mono ?_
          rintro _ w3 ⟨rfl, hbn⟩
          have HB3 := Lib.hid (below_next (below_drewN HB.out q) hbn)
          have HG3 := Lib.hid (below_next (below_drewN HG.out q) hbn)
          have HO3 : Hid (w3.ownsRow w1.heap.size 90 2 (.slice A acc.length c) acc.length (fCells acc)) := ownsRow_below (w := wr.drewN q) HO.out hbn
          clear hbn
          go_wp2_with fail
          refine (d2.out _).mono ?_
          rintro _ w4 ⟨rfl, hbn⟩
          have HB4 := Lib.hid (below_next HB3.out hbn)
          have HG4 := Lib.hid (below_next HG3.out hbn)
          have HO4 := Lib.hid (ownsRow_below HO3.out hbn)
          clear hbn HB3 HG3 HO3
          go_wp2_with fail
          go_ret2
          exact FormR.err 3 hv3.out HB4.out
        | some ab =>
          obtain ⟨a, b⟩ := ab
          obtain ⟨hl1, hl2⟩ := cutP_len hp
          simp only at hl1 hl2
          rw [hp, show cutV p (some (a, b)) = .tuple #[.string ⟨a.toArray⟩, .string ⟨b.toArray⟩, .bool true] from rfl] at cc
          have d1 := Lib.hid (fun W => rdec_walk ⟨a.toArray⟩ a (by simp) true W (by rw [size_mks]; omega))
          have d2 := Lib.hid (fun W => rdec_walk ⟨b.toArray⟩ b (by simp) true W (by rw [size_mks]; omega))
          clear hl1 hl2 hpl
          cases ha : decL true a with
          | none =>
            have hfo : fieldO p = none := by unfold fieldO; rw [hp]; simp only; rw [ha]
            have hv3 : Hid (formE l = (3, [])) := by show _ = _; rw [← hgo.out, hst.out, hfo]
            obtain ⟨x2, k2, e2⟩ := decV_any (decL true b)
            rw [ha, decV_none] at d1
            rw [e2] at d2
            clear e2 hp hfo hst ha
            go_wp2_with fail
            refine (cc.out _).mono ?_
            rintro _ w2 ⟨rfl, q, rfl⟩
            go_wp2_with fail
            refine (d1.out _).mono ?_
            rintro _ w3 ⟨rfl, hbn⟩
            have HB3 := Lib.hid (below_next (below_drewN HB.out q) hbn)
            have HG3 := Lib.hid (below_next (below_drewN HG.out q) hbn)
            have HO3 : Hid (w3.ownsRow w1.heap.size 90 2 (.slice A acc.length c) acc.length (fCells acc)) := ownsRow_below (w := wr.drewN q) HO.out hbn
            clear hbn
            go_wp2_with fail
            refine (d2.out _).mono ?_
            rintro _ w4 ⟨rfl, hbn⟩
            have HB4 := Lib.hid (below_next HB3.out hbn)
            have HG4 := Lib.hid (below_next HG3.out hbn)
            have HO4 := Lib.hid (ownsRow_below HO3.out hbn)
            clear hbn HB3 HG3 HO3
            go_wp2_with fail
            go_ret2
            exact FormR.err 3 hv3.out HB4.out
          | some n =>
            rw [ha, decV_some] at d1
            cases hb : decL true b with
            | none =>
              have hfo : fieldO p = none := by unfold fieldO; rw [hp]; simp only; rw [ha, hb]
              have hv3 : Hid (formE l = (3, [])) := by show _ = _; rw [← hgo.out, hst.out, hfo]
              rw [hb, decV_none] at d2
              clear hp hfo hst ha hb
              go_wp2_with fail
              refine (cc.out _).mono ?_
              rintro _ w2 ⟨rfl, q, rfl⟩
              go_wp2_with fail
              refine (d1.out _).mono ?_
              rintro _ w3 ⟨rfl, hbn⟩
              have HB3 := Lib.hid (below_next (below_drewN HB.out q) hbn)
              have HG3 := Lib.hid (below_next (below_drewN HG.out q) hbn)
              have HO3 : Hid (w3.ownsRow w1.heap.size 90 2 (.slice A acc.length c) acc.length (fCells acc)) := ownsRow_below (w := wr.drewN q) HO.out hbn
              clear hbn
              go_wp2_with fail
              refine (d2.out _).mono ?_
              rintro _ w4 ⟨rfl, hbn⟩
              have HB4 := Lib.hid (below_next HB3.out hbn)
              have HG4 := Lib.hid (below_next HG3.out hbn)
              have HO4 := Lib.hid (ownsRow_below HO3.out hbn)
              clear hbn HB3 HG3 HO3
              go_wp2_with fail
              go_ret2
              exact FormR.err 3 hv3.out HB4.out
            | some v =>
              rw [hb, decV_some] at d2
              by_cases hn : n = []
              · have hfo : fieldO p = none := by unfold fieldO; rw [hp]; simp only; rw [ha, hb]; exact if_pos hn
                have hv3 : Hid (formE l = (3, [])) := by show _ = _; rw [← hgo.out, hst.out, hfo]
                subst hn
                clear hp hfo hst ha hb
                go_wp2_with fail
                refine (cc.out _).mono ?_
                rintro _ w2 ⟨rfl, q, rfl⟩
                go_wp2_with fail
                refine (d1.out _).mono ?_
                rintro _ w3 ⟨rfl, hbn⟩
                have HB3 := Lib.hid (below_next (below_drewN HB.out q) hbn)
                have HG3 := Lib.hid (below_next (below_drewN HG.out q) hbn)
                have HO3 : Hid (w3.ownsRow w1.heap.size 90 2 (.slice A acc.length c) acc.length (fCells acc)) := ownsRow_below (w := wr.drewN q) HO.out hbn
                clear hbn
                go_wp2_with fail
                refine (d2.out _).mono ?_
                rintro _ w4 ⟨rfl, hbn⟩
                have HB4 := Lib.hid (below_next HB3.out hbn)
                have HG4 := Lib.hid (below_next HG3.out hbn)
                have HO4 := Lib.hid (ownsRow_below HO3.out hbn)
                clear hbn HB3 HG3 HO3
                go_wp2_with fail
                go_ret2
                exact FormR.err 3 hv3.out HB4.out
              · have hfo : fieldO p = some ⟨n, v⟩ := by unfold fieldO; rw [hp]; simp only; rw [ha, hb]; exact if_neg hn
                have hn1 : n.isEmpty = false := by cases n with | nil => exact absurd rfl hn | cons _ _ => rfl
                rw [hfo] at hst
                clear hp hfo ha hb
                go_wp2_with fail
                refine (cc.out _).mono ?_
                rintro _ w2 ⟨rfl, q, rfl⟩
                go_wp2_with fail
                refine (d1.out _).mono ?_
                rintro _ w3 ⟨rfl, hbn⟩
                have HB3 := Lib.hid (below_next (below_drewN HB.out q) hbn)
                have HG3 := Lib.hid (below_next (below_drewN HG.out q) hbn)
                have HO3 : Hid (w3.ownsRow w1.heap.size 90 2 (.slice A acc.length c) acc.length (fCells acc)) := ownsRow_below (w := wr.drewN q) HO.out hbn
                clear hbn
                go_wp2_with fail
                refine (d2.out _).mono ?_
                rintro _ w4 ⟨rfl, hbn⟩
                have HB4 := Lib.hid (below_next HB3.out hbn)
                have HG4 := Lib.hid (below_next HG3.out hbn)
                have HO4 := Lib.hid (ownsRow_below HO3.out hbn)
                clear hbn HB3 HG3 HO3
                obtain ⟨A2, c2, e2, hfs2⟩ := FsAt.own HO4.out (by omega)
                injection e2 with eA _ ec
                subst eA ec
                have ct := Lib.hid (rhas_walk acc A c n ⟨n.toArray⟩ (by simp) w4 hfs2)
                clear hfs2
                cases hh : hasF n acc with
                | true =>
                  have hv6 : Hid (formE l = (6, [])) := by show _ = _; rw [← hgo.out, hst.out]; show (if hasF n acc = true then ((6, []) : Nat × List Fl) else goF (acc ++ [⟨n, v⟩]) (ps.drop (k + 1))) = _; rw [hh]; rfl
                  rw [hh] at ct
                  clear hh hst
                  go_wp2_with fail
                  refine ct.out.mono ?_
                  rintro _ w5 ⟨rfl, rfl⟩
                  go_wp2_with fail
                  go_ret2
                  exact FormR.err 6 hv6.out HB4.out
                | false =>
                  have HNX : Hid (goF (acc ++ [⟨n, v⟩]) (ps.drop (k + 1)) = formE l) := by show _ = _; rw [← hgo.out, hst.out]; show _ = (if hasF n acc = true then ((6, []) : Nat × List Fl) else goF (acc ++ [⟨n, v⟩]) (ps.drop (k + 1))); rw [hh]; rfl
                  rw [hh] at ct
                  have hal : acc.length ≤ 24 := by omega
                  have hrd := reads_new w4 90 (Fl.mk n v).cells
                  have hw14 : w1.heap.size ≤ w4.heap.size := HG4.out.size
                  clear hh hst
                  go_wp2_with fail
                  refine ct.out.mono ?_
                  rintro _ w5 ⟨rfl, rfl⟩
                  go_wp2_with (at_builtin; refine wpList_append_any (w4.alloc (.cells (Fl.mk n v).arr 90)) rfl (.tmp 65) (.tmp 69) 58 rfl w1.heap.size 90 i0 (.agg (Fl.mk [] []).arr) 2 32 Tryz.underlying58 hi hz0 hz1 hz2 rfl (by decide) (.slice A acc.length c) acc.length (fCells acc) rfl (HO4.out.alloc _) (w4.heap.size + 1) _ 1 1 (Fl.mk n v).cells rfl hrd (fun u hu => fCells_ones [⟨n, v⟩] u (by simpa [fCells] using hu)) (by unfold maxLen; omega) (by omega) (by simp; omega) ?_; intro v' w6 hown6 hg6 hat6)
                  have hown7 := fl_next (l' := acc ++ [⟨n, v⟩]) hown6 rfl rfl
                  have hlt6 : ∀ g', (Value.slice A acc.length c).ownBlock = some g' → w1.heap.size ≤ g' := fun g' h => (HO4.out.lt g' h).1
                  have HG6 := Lib.hid ((HG4.out.alloc hw14 (.cells (Fl.mk n v).arr 90)).grown hg6 (by simp; omega) hlt6)
                  have HB6 := Lib.hid ((HB4.out.alloc HB4.out.size (.cells (Fl.mk n v).arr 90)).grown hg6 (by have := HB4.out.size; simp; omega) (fun g' h => by have := hlt6 g' h; omega))
                  exact ⟨⟨k + 1, acc ++ [⟨n, v⟩], by omega, by simp; omega, by go_num, hown7, HNX, HG6, HB6⟩, by simp [intOf]; omega⟩
      · obtain rfl : k = ps.length := by omega
        have hv0 : Hid (formE l = (0, acc)) := by show _ = _; rw [← hgo.out]; exact goF_end acc ps
        have HO := Lib.hid hown
        clear hown hfs
        go_wp2_with fail
        go_ret2
        refine ⟨.slice A acc.length c, by rw [hv0.out]; rfl, ?_, HB.out⟩
        rw [hv0.out]
        exact World.ownsRow.mono HO.out hwl
end
section
open Go.RowKit Pc
theorem tape_new {w : World} {A : Option Addr} {c : Nat} {zs : List Int} (h : IntsIn w A c zs) :
    TapeAt (w.alloc (.cells #[.slice A zs.length c, .int .i64 0] 41)) w.heap.size zs 0 :=
  ⟨Nat.zero_le _, h.2.1, h.2.2.1, A, c, h.1, Blk.new _ _ _, h.2.2.2.alloc (Nat.le_refl _) _⟩
def textL : List ByteArray := [⟨#[97]⟩, ⟨#[98]⟩, ⟨#[61]⟩, ⟨#[61, 49]⟩, ⟨#[38]⟩, ⟨#[38, 97, 61]⟩, ⟨#[99, 61, 50]⟩, ⟨#[37, 50, 48]⟩, ⟨#[43]⟩, ⟨#[37, 50, 70]⟩, ⟨#[37, 50, 102]⟩, ⟨#[126]⟩, ⟨#[38, 100, 61, 52]⟩, ⟨#[38, 38]⟩, ⟨#[101]⟩, ⟨#[37]⟩]
def nameL : List ByteArray := [⟨#[97]⟩, ⟨#[98]⟩, ⟨#[99, 111, 100, 101]⟩, ⟨#[115, 116, 97, 116, 101]⟩, ⟨#[120, 32, 121]⟩, ⟨#[195, 169]⟩, ⟨#[61]⟩, ⟨#[38]⟩, ⟨#[126]⟩]
def valL : List ByteArray := [⟨#[]⟩, ⟨#[49]⟩, ⟨#[97, 32, 98]⟩, ⟨#[126, 65, 103, 65, 65, 65, 65, 69, 126]⟩, ⟨#[37]⟩, ⟨#[43]⟩, ⟨#[0]⟩, ⟨#[104, 116, 116, 112, 115, 58, 47, 47, 99, 49, 47, 99, 98]⟩]
theorem getD_size {L : List ByteArray} {n : Nat} (h : ∀ x ∈ L, x.size ≤ n) (r : Nat) : (L.getD r ByteArray.empty).size ≤ n := by
  rw [List.getD_eq_getElem?_getD]
  cases e : L[r]? with
  | none => simp
  | some x => exact h x (List.mem_of_getElem? e)
theorem getD_mem {L : List ByteArray} {r : Nat} (h : r < L.length) : L.getD r ByteArray.empty ∈ L := by
  rw [List.getD_eq_getElem?_getD, List.getElem?_eq_getElem h]
  exact List.getElem_mem h
end
section
open Go.RowKit Pc
theorem str_of (x : ByteArray) : ∃ n : List UInt8, x = ⟨n.toArray⟩ := ⟨x.data.toList, by simp⟩
/-- some fields come back -/
def FieldsR (most : Nat) (w : World) (e : Ending) (w' : World) : Prop :=
  ∃ (v : Value) (fs : List Fl), e = .returned v ∧ w'.ownsRow w.heap.size 90 2 v fs.length (fCells fs) ∧ UnlikeP fs ∧ fs.length ≤ most ∧ (∀ f ∈ fs, f.n.length ≤ 5 ∧ f.v.length ≤ 13) ∧ Below w.heap.size w w'
end
section
open Go.RowKit Pc
theorem FsAt.take {w : World} {A : Option Addr} {c : Nat} {fs : List Fl} (h : FsAt w A c fs) {k : Nat} (hk : k ≤ fs.length) : FsAt w A c (fs.take k) := by
  have hl : (fs.take k).length = k := by rw [List.length_take]; omega
  refine ⟨by rw [hl]; exact Nat.le_trans hk h.1, by rw [hl]; exact Nat.le_trans hk h.2.1, ?_⟩
  rw [hl, fCells_take]
  exact h.2.2.front hk
end
section
open Go.RowKit Go.ChangeShapes Go.WideShapes Go.ChangeAt
section
variable {H : Type} {enc : TypeId × Value → H} {w : World} {base n : Nat} {spare : Nat → Bool} {held : Bool}
theorem cell_string {c : Value} {x : DataW H × List MemPlace} (h : DataW.trod enc Tryz.prog w base spare held n 9 [c] = some x) : ∃ v, c = .string v := by
  obtain ⟨v, hv, _⟩ := DataW.trod_string Tryz.underlying9 h
  injection hv with e _
  exact ⟨v, e⟩
theorem cells_string : Tryz.prog.cellsOf 9 = 1 := by kernel_rfl
theorem cells_field : Tryz.prog.cellsOf 90 = 2 := by kernel_rfl
theorem some_of {α : Type} {l : List α} {i : Nat} (h : i < l.length) : ∃ x, l[i]? = some x := ⟨l[i], List.getElem?_eq_getElem h⟩
theorem field_trod {cs : List Value} {x : DataW H × List MemPlace} (h : DataW.trod enc Tryz.prog w base spare held n 90 cs = some x) : ∃ r : Fl, cs = r.cells := by
  obtain ⟨xs, k, _, _, hlen, hl, hf⟩ := DataW.trod_struct Tryz.underlying90 h
  rw [cells_field] at hlen
  obtain ⟨x0, e0⟩ := some_of (l := xs) (i := 0) (by rw [hl]; decide)
  obtain ⟨x1, e1⟩ := some_of (l := xs) (i := 1) (by rw [hl]; decide)
  have g0 := (hf 0 _ rfl).trans e0
  have g1 := (hf 1 _ rfl).trans e1
  clear hf e0 e1
  match cs, hlen with
  | [c0, c1], _ =>
    simp only [List.getElem_toArray, List.getElem_cons_zero, List.getElem_cons_succ, cells_string, List.drop_zero, List.drop_succ_cons, List.take_succ_cons, List.take_zero] at g0 g1
    obtain ⟨v0, rfl⟩ := cell_string g0
    obtain ⟨v1, rfl⟩ := cell_string g1
    exact ⟨⟨v0.data.toList, v1.data.toList⟩, by simp [Fl.cells, strV]⟩
theorem cell_lt {w : World} {a : Addr} {v : Value} (h : w.cell? a = some v) : a.block < w.heap.size := by
  unfold World.cell? at h
  rcases Nat.lt_or_ge a.block w.heap.size with hl | hl
  · exact hl
  · rw [Array.getElem?_eq_none hl] at h
    simp at h
theorem fCells_flat (rs : List Fl) : ∀ (j : Nat) u, (fCells rs)[j]? = some u → ∃ r, rs[j / 2]? = some r ∧ r.cells[j % 2]? = some u := by
  induction rs with
  | nil => intro j u h; simp [fCells] at h
  | cons r rs ih =>
    intro j u h
    rw [fCells, List.flatMap_cons, ← fCells] at h
    rcases Nat.lt_or_ge j 2 with hj | hj
    · rw [List.getElem?_append_left (by rw [Fl.len]; exact hj)] at h
      exact ⟨r, by rw [Nat.div_eq_of_lt hj]; rfl, by rw [Nat.mod_eq_of_lt hj]; exact h⟩
    · rw [List.getElem?_append_right (by rw [Fl.len]; exact hj), Fl.len] at h
      obtain ⟨x, h1, h2⟩ := ih _ _ h
      refine ⟨x, ?_, ?_⟩
      · rw [show j / 2 = (j - 2) / 2 + 1 by omega, List.getElem?_cons_succ]; exact h1
      · rw [show j % 2 = (j - 2) % 2 by omega]; exact h2
instance : Inhabited Fl := ⟨⟨[], []⟩⟩
theorem fields_trod {w : World} {base : Nat} {A : Option Addr} {len cap n : Nat} {x : DataW H × List MemPlace} (h : DataW.trod enc Tryz.prog w base spare held n 58 [.slice A len cap] = some x) (hm : len ≤ 1000000) :
    ∃ rs : List Fl, rs.length = len ∧ FsAt w A cap rs := by
  rcases Go.Deep.open_slice Tryz.underlying58 h with ⟨h0, _⟩ | ⟨a, l, c, m, k, D, Pl, h0, hb, hl, hc, hmm, _, hx⟩
  · simp at h0
    obtain ⟨rfl, rfl, rfl⟩ := h0
    exact ⟨[], rfl, FsAt.none_ w none 0⟩
  · simp at h0
    obtain ⟨rfl, rfl, rfl⟩ := h0
    have hlm : len ≤ m := by rw [hmm]; split <;> omega
    obtain ⟨R, hR⟩ := Go.Deep.choose_lt (α := Fl) (p := fun i r => w.cells? base (a.add (i * 2)) 2 = some r.cells) (fun i hi => by
      obtain ⟨cs', h1, h2⟩ := hx i hi
      rw [cells_field] at h1
      obtain ⟨r, rfl⟩ := field_trod h2
      exact ⟨r, h1⟩)
    refine ⟨(List.range len).map R, by simp, by simpa using hl, by simpa using hm, ?_, fun h => ?_⟩
    · rw [fCells_len]; omega
    · have h0 : 0 < len := by simpa using h
      refine ⟨a, rfl, ?_, ?_⟩
      · obtain ⟨_, _, h3⟩ := World.cells?_some (hR 0 (by omega))
        have := h3 0 (by omega)
        have h4 := cell_lt (this.trans (show (R 0).cells[0]? = some _ from rfl))
        simpa [Addr.add] using h4
      · intro j u hu
        obtain ⟨r, h1, h2⟩ := fCells_flat _ _ _ hu
        rw [List.getElem?_map] at h1
        have hj : j / 2 < len := by
          rcases Nat.lt_or_ge (j / 2) len with q | q
          · exact q
          · rw [List.getElem?_eq_none (by simpa using q)] at h1; simp at h1
        rw [List.getElem?_range hj] at h1
        simp at h1
        obtain ⟨_, _, h3⟩ := World.cells?_some (hR (j / 2) (by omega))
        have := h3 (j % 2) (by omega)
        rw [h1, h2] at this
        rw [show a.add j = (a.add (j / 2 * 2)).add (j % 2) by rw [Go.Deep.add_add]; congr 1; omega]
        exact this
instance : Inhabited ByteArray := ⟨ByteArray.empty⟩
theorem strs_trod {w : World} {base : Nat} {A : Option Addr} {len cap n : Nat} {x : DataW H × List MemPlace} (h : DataW.trod enc Tryz.prog w base spare held n 29 [.slice A len cap] = some x) :
    ∃ ss : List ByteArray, ss.length = len ∧ len ≤ cap ∧ Reads w w.heap.size 1 A len (ss.map Value.string) := by
  rcases Go.Deep.open_slice Tryz.underlying29 h with ⟨h0, _⟩ | ⟨a, l, c, m, k, D, Pl, h0, hb, hl, hc, hmm, _, hx⟩
  · simp at h0
    obtain ⟨rfl, rfl, rfl⟩ := h0
    exact ⟨[], rfl, Nat.le_refl _, Reads.none_⟩
  · simp at h0
    obtain ⟨rfl, rfl, rfl⟩ := h0
    have hlm : len ≤ m := by rw [hmm]; split <;> omega
    obtain ⟨R, hR⟩ := Go.Deep.choose_lt (α := ByteArray) (p := fun i r => w.cell? (a.add i) = some (.string r)) (fun i hi => by
      obtain ⟨cs', h1, h2⟩ := hx i hi
      rw [cells_string] at h1
      obtain ⟨_, hlen, h3⟩ := World.cells?_some h1
      match cs', hlen with
      | [c0], _ =>
        obtain ⟨v, rfl⟩ := cell_string h2
        have h4 := h3 0 (by omega)
        rw [Go.Deep.add_add] at h4
        refine ⟨v, ?_⟩
        simpa using h4)
    refine ⟨(List.range len).map R, by simp, by simpa using hl, ?_, fun h => ?_⟩
    · simp
    · have h0 : 0 < len := h
      refine ⟨a, rfl, ?_, ?_⟩
      · have := cell_lt (hR 0 (by omega))
        simpa [Addr.add] using this
      · intro j u hu
        rw [List.getElem?_map, List.getElem?_map] at hu
        have hj : j < len := by
          rcases Nat.lt_or_ge j len with q | q
          · exact q
          · rw [List.getElem?_eq_none (by simpa using q)] at hu; simp at hu
        rw [List.getElem?_range hj] at hu
        simp at hu
        rw [← hu]
        exact hR j (by omega)
end
end
end Go.Proofs.YtekbdfnbnpmclaaGreatDoor

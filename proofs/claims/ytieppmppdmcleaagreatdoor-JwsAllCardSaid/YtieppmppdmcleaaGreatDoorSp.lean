/- A text parted at one sign: strings.Split by a separator of one byte. No condition of its own. -/
import Derived.Test.YtieppmppdmcleaaGreatDoorKit
set_option linter.unusedVariables false
set_option linter.unusedSimpArgs false
set_option maxRecDepth 20000
namespace Go.Proofs.YtieppmppdmcleaaGreatDoor
open Go.RowKit
def splitC (c : UInt8) : List UInt8 → List (List UInt8)
 | [] => [[]]
 | x :: l => if x = c then [] :: splitC c l else match splitC c l with
  | [] => [[x]]
  | p :: ps => (x :: p) :: ps
theorem splitC_ne (c : UInt8) : ∀ l, splitC c l ≠ []
 | [] => by simp [splitC]
 | x :: l => by
  rw [splitC]
  split
  ·
   simp
  ·
   split <;> simp
theorem splitC_len (c : UInt8) : ∀ l, (splitC c l).length = l.count c + 1
 | [] => rfl
 | x :: l => by
  have ih := splitC_len c l
  rw [splitC]
  split
  ·
   rename_i h
   rw [List.length_cons, ih, h, List.count_cons_self]
  ·
   rename_i h
   rw [List.count_cons_of_ne (by simpa using h)]
   split
   ·
    rename_i h2; exact absurd h2 (splitC_ne c l)
   ·
    rename_i p ps h2
    rw [h2] at ih
    simpa using ih
theorem splitC_none (c : UInt8) : ∀ l, l.count c = 0 → splitC c l = [l]
 | [], _ => rfl
 | x :: l, h => by
  have hx : x ≠ c := by
   intro e
   rw [e, List.count_cons_self] at h
   omega
  rw [List.count_cons_of_ne hx] at h
  rw [splitC, if_neg hx, splitC_none c l h]
theorem splitC_at (c : UInt8) : ∀ (l : List UInt8) (m : Nat), l[m]? = some c → (∀ k, k < m → l[k]? ≠ some c) → splitC c l = l.take m :: splitC c (l.drop (m + 1)) ∧ l.count c = (l.drop (m + 1)).count c + 1
 | [], m, h, _ => by simp at h
 | x :: l, 0, h, _ => by
  have hx : x = c := by simpa using h
  rw [splitC, if_pos hx, hx]
  exact ⟨rfl, by rw [List.count_cons_self]; rfl⟩
 | x :: l, m + 1, h, hk => by
  have hx : x ≠ c := by
   intro e
   exact hk 0 (by omega) (by simp [e])
  obtain ⟨h1, h2⟩ := splitC_at c l m (by simpa using h) (fun k hkm => by have := hk (k + 1) (by omega); simpa using this)
  rw [splitC, if_neg hx, h1, List.count_cons_of_ne hx, h2]
  exact ⟨rfl, rfl⟩
theorem index_split (c : UInt8) (l : List UInt8) (h : 0 < l.count c) : ∃ m : Nat, Lib.indexByte l c = (m : Int) ∧ m < l.length ∧ splitC c l = l.take m :: splitC c (l.drop (m + 1)) ∧ l.count c = (l.drop (m + 1)).count c + 1 := by
 have hge := Lib.indexByte_ge l c
 rcases Int.lt_or_le (Lib.indexByte l c) 0 with h0 | h0
 ·
  have hn := Lib.indexByte_none (show Lib.indexByte l c = -1 by omega)
  obtain ⟨k, hk⟩ := List.mem_iff_getElem?.1 (List.count_pos_iff.1 h)
  exact absurd hk (hn k)
 ·
  obtain ⟨m, hm⟩ := Int.eq_ofNat_of_zero_le h0
  obtain ⟨h1, h2⟩ := Lib.indexByte_some hm
  obtain ⟨h3, h4⟩ := splitC_at c l m h1 h2
  exact ⟨m, hm, (List.getElem?_eq_some_iff.1 h1).1, h3, h4⟩
theorem size_mks (l : List UInt8) : (⟨l.toArray⟩ : ByteArray).size = l.length := by simp [ByteArray.size]
theorem str_eta (s : ByteArray) (l : List UInt8) (h : s.data.toList = l) : s = ⟨l.toArray⟩ := by subst h; simp
def strV (l : List UInt8) : Value := .string ⟨l.toArray⟩
def strVs (ps : List (List UInt8)) : List Value := ps.map strV
def fillS (done : List (List UInt8)) (n : Nat) : List Value := strVs done ++ List.replicate (n - done.length) (.string ⟨#[]⟩)
theorem fillS_cell {done : List (List UInt8)} {n : Nat} (h : done.length < n) : (fillS done n).toArray[done.length]? = some (.string ⟨#[]⟩) := by
 have h1 : (fillS done n)[done.length]? = some (.string ⟨#[]⟩) := by
  rw [fillS, List.getElem?_append_right (by simp [strVs]), show done.length - (strVs done).length = 0 by simp [strVs], List.getElem?_replicate, if_pos (by omega)]
 simpa using h1
theorem fillS_set {done : List (List UInt8)} {n : Nat} (p : List UInt8) (h : done.length < n) : (fillS done n).toArray.setIfInBounds done.length (.string ⟨p.toArray⟩) = (fillS (done ++ [p]) n).toArray := by
 have e : fillS done n = strVs done ++ .string ⟨#[]⟩ :: List.replicate (n - (done.length + 1)) (.string ⟨#[]⟩) := by
  rw [fillS, show n - done.length = (n - (done.length + 1)) + 1 by omega, List.replicate_succ]
 have e2 : fillS (done ++ [p]) n = strVs done ++ .string ⟨p.toArray⟩ :: List.replicate (n - (done.length + 1)) (.string ⟨#[]⟩) := by
  rw [fillS, strVs, List.map_append, List.length_append]
  simp [strVs, strV]
 rw [e, e2, List.setIfInBounds_toArray]
 congr 1
 have hl : (strVs done).length = done.length := by simp [strVs]
 rw [List.set_append_right _ _ (by omega), hl, Nat.sub_self]
 rfl
theorem fillS_full (ps : List (List UInt8)) : fillS ps ps.length = strVs ps := by simp [fillS]
theorem fillS_made (n : Nat) : madeCells #[.string ⟨#[]⟩] n = (fillS [] n).toArray := by
 apply Array.ext_getElem?
 intro j
 have e : (fillS [] n).toArray = Array.replicate n (Value.string ⟨#[]⟩) := by simp [fillS, strVs]
 rw [e]
 by_cases hj : j < n
 ·
  simp [madeCells, hj, Nat.mod_one]
 ·
  simp [madeCells, hj]
theorem info_string : (Tryz.prog.info? 9).map (fun i => (i.zero, i.size, i.bytes)) = some (some (.string ⟨#[]⟩), 1, 16) := by kernel_rfl
theorem infoS4 {P : Program} {t : TypeId} {z : Value} {n b : Nat} (h : (P.info? t).map (fun i => (i.zero, i.size, i.bytes)) = some (some z, n, b)) : ∃ i, P.info? t = some i ∧ i.zero = some z ∧ i.size = n ∧ i.bytes = b := by
 cases hi : P.info? t with
 | none => rw [hi] at h; cases h
 | some i =>
  rw [hi] at h
  simp at h
  exact ⟨i, rfl, h.1, h.2.1, h.2.2⟩
def SplitR (ps : List (List UInt8)) (w : World) (e : Ending) (w' : World) : Prop :=
 ∃ g : Nat, e = .returned (.slice (some ⟨g, 0, none⟩) ps.length ps.length) ∧ w.heap.size ≤ g ∧ Blk w' g 9 (strVs ps).toArray ∧ Below w.heap.size w w'
set_option maxHeartbeats 4000000 in
theorem genSplit_walk (s : ByteArray) (l : List UInt8) (hs : s.data.toList = l) (c : UInt8) (w : World) (hm : s.size ≤ 1000000) :
  Calls Tryz.prog 48 #[.string s, .string ⟨#[c]⟩, .int .i64 0, .int .i64 (-1)] w (SplitR (splitC c l) w) := by
 obtain ⟨i0, hi, hz0, hz1, hz2⟩ := infoS4 info_string
 have hsz : l.length = s.size := by rw [← hs, Lib.size_eq]
 have hcl : l.count c ≤ l.length := List.count_le_length
 have cc := Lib.hid (Tryz.strings_Count_one s c w)
 have hce : Lib.countByte s.data.toList c = l.count c := by rw [hs]; rfl
 rw [hce] at cc
 have hsl := splitC_len c l
 obtain ⟨n, hn⟩ : ∃ n, l.count c = n := ⟨_, rfl⟩
 rw [hn] at cc hcl hsl
 have HN := Lib.hid hn
 obtain ⟨N, hN⟩ : ∃ N : Nat, n + 1 = N := ⟨_, rfl⟩
 have hmin : min ((n : Int) + 1) ((s.size : Int) + 1) = (N : Int) := by omega
 have hN1 : (N : Int) - 1 = (n : Int) := by omega
 rw [hN] at hsl
 clear hce hn
 go_enter Tryz.func48, Tryz.ntmps48
 go_wp2_with fail
 refine cc.out.mono ?_
 rintro _ w1 ⟨rfl, rfl⟩
 have hbr := Blk.new w1 9 (madeCells #[.string ⟨#[]⟩] N)
 have hbl := (Below.refl w1.heap.size w1).alloc (Nat.le_refl _) (.cells (madeCells #[.string ⟨#[]⟩] N) 9)
 rw [fillS_made] at hbr hbl
 have HBR := Lib.hid hbr
 have HBL := Lib.hid hbl
 clear hbr hbl
 go_wp2_with (refine wpList_make_row w1 rfl _ _ 23 rfl 9 i0 (.string ⟨#[]⟩) Tryz.underlying23 hi hz0 hz1 rfl .i64 .i64 N rfl rfl (by rw [hz2]; omega) (by omega) ?_)
 rw [fillS_made]
 go_loopw [0, 10] (fun sv iv wr => ∃ (done : List (List UInt8)) (t : ByteArray) (lt : List UInt8), t.data.toList = lt ∧ Hid (splitC c l = done ++ splitC c lt) ∧ done.length ≤ n ∧ Hid (lt.count c = n - done.length) ∧ t.size ≤ 1000000 ∧ sv = .string t ∧ iv = .int .i64 done.length ∧ Hid (Blk wr w1.heap.size 9 (fillS done N).toArray) ∧ Hid (Below w1.heap.size w1 wr)) (fun _ iv _ => n - (intOf iv).toNat)
 case atStart => exact ⟨[], s, l, hs, rfl, by simp, by show _ = _; rw [HN.out]; rfl, hm, rfl, rfl, HBR, HBL⟩
 case round =>
  clear HBR HBL cc
  obtain ⟨done, t, lt, ht, hsp, hdn, hct, htm, rfl, rfl, hbk, hb⟩ := hrel
  have hdN : done.length < N := by omega
  have hc0 : wr.cell? ⟨w1.heap.size, done.length, none⟩ = some (.string ⟨#[]⟩) := (hbk.out.cell _).trans (fillS_cell hdN)
  have hf0 := hbk.out.frozen done.length
  by_cases hlt : done.length < n
  ·
   obtain ⟨m, hm1, hm2, hm3, hm4⟩ := index_split c lt (by have := hct.out; omega)
   have ci := Lib.hid (Tryz.strings_Index_one t c wr)
   rw [ht, hm1] at ci
   have htl : lt.length = t.size := by rw [← ht, Lib.size_eq]
   have hd1 : (t.extract 0 m).data.toList = lt.take m := by rw [Lib.extract_data, ht]; simp
   have hd2 : (t.extract (m + 1) t.size).data.toList = lt.drop (m + 1) := by rw [Lib.extract_to_end, ht]
   have hst := str_eta _ _ hd1
   have HNX := Lib.hid (hbk.out.set_ done.length (.string ⟨(lt.take m).toArray⟩))
   have HBX := Lib.hid (hb.out.setCell (p := ⟨w1.heap.size, done.length, none⟩) (Nat.le_refl _) (.string ⟨(lt.take m).toArray⟩))
   have hmt : m < t.size := by omega
   have HM3 := Lib.hid hm3
   have HM4 := Lib.hid hm4
   have HD2 := Lib.hid hd2
   have hsz2 : (t.extract (m + 1) t.size).size ≤ 1000000 := by rw [ByteArray.size_extract]; omega
   clear hm1 hm2 hm3 hm4 htl hd1 hd2 hbk hb
   go_wp2_with fail
   refine ci.out.mono ?_
   rintro _ w2 ⟨rfl, rfl⟩
   go_wp2_with fail
   rw [fillS_set _ hdN] at HNX
   refine ⟨⟨done ++ [lt.take m], t.extract (m + 1) t.size, lt.drop (m + 1), HD2.out, ?_, by simp; omega, ?_, hsz2, rfl, by simp, HNX.out, HBX.out⟩, by simp [intOf]; omega⟩
   ·
    show _ = _
    rw [hsp.out, HM3.out, List.append_assoc]
    rfl
   ·
    show _ = _
    have h1 := hct.out
    have h2 := HM4.out
    simp
    omega
  ·
   obtain rfl : n = done.length := by omega
   have hl0 : lt.count c = 0 := by have := hct.out; omega
   have hone := splitC_none c lt hl0
   have hst := str_eta _ _ ht
   have HSP : Hid (splitC c l = done ++ [lt]) := by show _ = _; rw [hsp.out, hone]
   have HNX := Lib.hid (hbk.out.set_ done.length (.string ⟨lt.toArray⟩))
   have HBX := Lib.hid (hb.out.setCell (p := ⟨w1.heap.size, done.length, none⟩) (Nat.le_refl _) (.string ⟨lt.toArray⟩))
   clear hone hl0 hbk hb
   subst hst
   have e1 : (done.length : Int) + 1 ≤ (N : Int) := by omega
   have e2 : ((done.length : Int) + 1).toNat = N := by omega
   rw [fillS_set _ hdN] at HNX
   have hfull : fillS (done ++ [lt]) N = strVs (splitC c l) := by rw [HSP.out, show N = (done ++ [lt]).length by simp; omega, fillS_full]
   rw [hfull] at HNX
   have hsl2 := Lib.hid hsl
   clear hfull hsl
   go_wp2_with fail
   go_ret
   exact ⟨w1.heap.size, by rw [hsl2.out]; rfl, Nat.le_refl _, HNX.out, HBX.out⟩
theorem split_walk (s : ByteArray) (l : List UInt8) (hs : s.data.toList = l) (c : UInt8) (w : World) (hm : s.size ≤ 1000000) :
  Calls Tryz.prog 30 #[.string s, .string ⟨#[c]⟩] w (SplitR (splitC c l) w) := by
 have cg := Lib.hid (genSplit_walk s l hs c w hm)
 clear hm
 go_enter Tryz.func30, Tryz.ntmps30
 go_wp2_with fail
 refine cg.out.mono ?_
 rintro _ w1 ⟨g, rfl, hg, hk, hb⟩
 have HK := Lib.hid hk
 have HB := Lib.hid hb
 clear hk hb cg
 go_wp2_with fail
 go_ret
 exact ⟨g, rfl, hg, HK.out, HB.out⟩
end Go.Proofs.YtieppmppdmcleaaGreatDoor

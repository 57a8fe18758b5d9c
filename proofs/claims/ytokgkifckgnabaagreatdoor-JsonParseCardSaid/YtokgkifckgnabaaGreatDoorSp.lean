/- A text parted at one sign: strings.Split by a separator of one byte. No condition of its own. -/
import Derived.Test.YtokgkifckgnabaaGreatDoorKit
import Derived.Lib.IndexLaws
import Derived.Lib.Bytealg
import Derived.Laws.Rows
set_option linter.unusedVariables false
set_option linter.unusedSimpArgs false
set_option maxRecDepth 20000
namespace Go.Proofs.YtokgkifckgnabaaGreatDoor
open Go.RowKit
/-- the parts of a text between signs c -/
def splitC (c : UInt8) : List UInt8 → List (List UInt8)
  | [] => [[]]
  | x :: l => if x = c then [] :: splitC c l else match splitC c l with
    | [] => [[x]]
    | p :: ps => (x :: p) :: ps
theorem splitC_ne (c : UInt8) : ∀ l, splitC c l ≠ []
  | [] => by simp [splitC]
  | x :: l => by
    rw [splitC]
    split
    · simp
    · split <;> simp
theorem splitC_len (c : UInt8) : ∀ l, (splitC c l).length = l.count c + 1
  | [] => rfl
  | x :: l => by
    have ih := splitC_len c l
    rw [splitC]
    split
    · rename_i h
      rw [List.length_cons, ih, h, List.count_cons_self]
    · rename_i h
      rw [List.count_cons_of_ne (by simpa using h)]
      split
      · rename_i h2; exact absurd h2 (splitC_ne c l)
      · rename_i p ps h2
        rw [h2] at ih
        simpa using ih
theorem splitC_none (c : UInt8) : ∀ l, l.count c = 0 → splitC c l = [l]
  | [], _ => rfl
  | x :: l, h => by
    have hx : x ≠ c := by
      intro e
      rw [e, List.count_cons_self] at h
      omega
    rw [List.count_cons_of_ne hx] at h
    rw [splitC, if_neg hx, splitC_none c l h]
theorem splitC_at (c : UInt8) : ∀ (l : List UInt8) (m : Nat), l[m]? = some c → (∀ k, k < m → l[k]? ≠ some c) → splitC c l = l.take m :: splitC c (l.drop (m + 1)) ∧ l.count c = (l.drop (m + 1)).count c + 1
  | [], m, h, _ => by simp at h
  | x :: l, 0, h, _ => by
    have hx : x = c := by simpa using h
    rw [splitC, if_pos hx, hx]
    exact ⟨rfl, by rw [List.count_cons_self]; rfl⟩
  | x :: l, m + 1, h, hk => by
    have hx : x ≠ c := by
      intro e
      exact hk 0 (by omega) (by simp [e])
    obtain ⟨h1, h2⟩ := splitC_at c l m (by simpa using h) (fun k hkm => by have := hk (k + 1) (by omega); simpa using this)
    rw [splitC, if_neg hx, h1, List.count_cons_of_ne hx, h2]
    exact ⟨rfl, rfl⟩
theorem index_split (c : UInt8) (l : List UInt8) (h : 0 < l.count c) : ∃ m : Nat, Lib.indexByte l c = (m : Int) ∧ m < l.length ∧ splitC c l = l.take m :: splitC c (l.drop (m + 1)) ∧ l.count c = (l.drop (m + 1)).count c + 1 := by
  have hge := Lib.indexByte_ge l c
  rcases Int.lt_or_le (Lib.indexByte l c) 0 with h0 | h0
  · have hn := Lib.indexByte_none (show Lib.indexByte l c = -1 by omega)
    obtain ⟨k, hk⟩ := List.mem_iff_getElem?.1 (List.count_pos_iff.1 h)
    exact absurd hk (hn k)
  · obtain ⟨m, hm⟩ := Int.eq_ofNat_of_zero_le h0
    obtain ⟨h1, h2⟩ := Lib.indexByte_some hm
    obtain ⟨h3, h4⟩ := splitC_at c l m h1 h2
    exact ⟨m, hm, (List.getElem?_eq_some_iff.1 h1).1, h3, h4⟩
theorem size_mks (l : List UInt8) : (⟨l.toArray⟩ : ByteArray).size = l.length := by simp [ByteArray.size]
theorem str_eta (s : ByteArray) (l : List UInt8) (h : s.data.toList = l) : s = ⟨l.toArray⟩ := by subst h; simp
/-- texts as cells -/
def strV (l : List UInt8) : Value := .string ⟨l.toArray⟩
def strVs (ps : List (List UInt8)) : List Value := ps.map strV
/-- a row of k texts, the first of them filled -/
def fillS (done : List (List UInt8)) (n : Nat) : List Value := strVs done ++ List.replicate (n - done.length) (.string ⟨#[]⟩)
theorem fillS_len {done : List (List UInt8)} {n : Nat} (h : done.length ≤ n) : (fillS done n).length = n := by simp [fillS, strVs]; omega
theorem fillS_cell {done : List (List UInt8)} {n : Nat} (h : done.length < n) : (fillS done n).toArray[done.length]? = some (.string ⟨#[]⟩) := by
  have h1 : (fillS done n)[done.length]? = some (.string ⟨#[]⟩) := by
    rw [fillS, List.getElem?_append_right (by simp [strVs]), show done.length - (strVs done).length = 0 by simp [strVs], List.getElem?_replicate, if_pos (by omega)]
  simpa using h1
theorem fillS_set {done : List (List UInt8)} {n : Nat} (p : List UInt8) (h : done.length < n) : (fillS done n).toArray.setIfInBounds done.length (.string ⟨p.toArray⟩) = (fillS (done ++ [p]) n).toArray := by
  have e : fillS done n = strVs done ++ .string ⟨#[]⟩ :: List.replicate (n - (done.length + 1)) (.string ⟨#[]⟩) := by
    rw [fillS, show n - done.length = (n - (done.length + 1)) + 1 by omega, List.replicate_succ]
  have e2 : fillS (done ++ [p]) n = strVs done ++ .string ⟨p.toArray⟩ :: List.replicate (n - (done.length + 1)) (.string ⟨#[]⟩) := by
    rw [fillS, strVs, List.map_append, List.length_append]
    simp [strVs, strV]
  rw [e, e2, List.setIfInBounds_toArray]
  congr 1
  have hl : (strVs done).length = done.length := by simp [strVs]
  rw [List.set_append_right _ _ (by omega), hl, Nat.sub_self]
  rfl
theorem fillS_full (ps : List (List UInt8)) : fillS ps ps.length = strVs ps := by simp [fillS]
theorem fillS_made (n : Nat) : madeCells #[.string ⟨#[]⟩] n = (fillS [] n).toArray := by
  apply Array.ext_getElem?
  intro j
  have e : (fillS [] n).toArray = Array.replicate n (Value.string ⟨#[]⟩) := by simp [fillS, strVs]
  rw [e]
  by_cases hj : j < n
  · simp [madeCells, hj, Nat.mod_one]
  · simp [madeCells, hj]
theorem info_string : (Tryz.prog.info? 9).map (fun i => (i.zero, i.size, i.bytes)) = some (some (.string ⟨#[]⟩), 1, 16) := by kernel_rfl
theorem infoS4 {P : Program} {t : TypeId} {z : Value} {n b : Nat} (h : (P.info? t).map (fun i => (i.zero, i.size, i.bytes)) = some (some z, n, b)) : ∃ i, P.info? t = some i ∧ i.zero = some z ∧ i.size = n ∧ i.bytes = b := by
  cases hi : P.info? t with
  | none => rw [hi] at h; cases h
  | some i =>
    rw [hi] at h
    simp at h
    exact ⟨i, rfl, h.1, h.2.1, h.2.2⟩
def SplitR (ps : List (List UInt8)) (w : World) (e : Ending) (w' : World) : Prop :=
  ∃ g : Nat, e = .returned (.slice (some ⟨g, 0, none⟩) ps.length ps.length) ∧ w.heap.size ≤ g ∧ Blk w' g 9 (strVs ps).toArray ∧ Below w.heap.size w w'
end Go.Proofs.YtokgkifckgnabaaGreatDoor

/- A text parted at one sign: countersignref6.Parts. No condition of its own. -/
import Derived.Test.YtolfcpbcccbmmaaDoorSp
set_option linter.unusedVariables false
set_option linter.unusedSimpArgs false
set_option maxRecDepth 20000
namespace Go.Proofs.YtolfcpbcccbmmaaDoor
open Go.RowKit
/-- the parts that are done behind so many bytes, and the part that has begun -/
def partsTo (c : UInt8) (l : List UInt8) : List (List UInt8) × List UInt8 :=
  l.foldl (fun r x => if x = c then (r.1 ++ [r.2], []) else (r.1, r.2 ++ [x])) ([], [])
theorem parts_from (c : UInt8) : ∀ (l : List UInt8) (a : List (List UInt8)) (b : List UInt8),
    (l.foldl (fun (r : List (List UInt8) × List UInt8) x => if x = c then (r.1 ++ [r.2], []) else (r.1, r.2 ++ [x])) (a, b)).1 ++ [(l.foldl (fun (r : List (List UInt8) × List UInt8) x => if x = c then (r.1 ++ [r.2], []) else (r.1, r.2 ++ [x])) (a, b)).2] = a ++ (match splitC c l with | [] => [b] | p :: ps => (b ++ p) :: ps)
  | [], a, b => by simp [splitC]
  | x :: l, a, b => by
    rw [List.foldl_cons]
    by_cases h : x = c
    · rw [if_pos h, parts_from c l, splitC, if_pos h]
      simp only
      cases hs : splitC c l with
      | nil => exact absurd hs (splitC_ne c l)
      | cons p ps => simp
    · rw [if_neg h, parts_from c l, splitC, if_neg h]
      simp only
      cases hs : splitC c l with
      | nil => exact absurd hs (splitC_ne c l)
      | cons p ps => simp
theorem parts_all (c : UInt8) (l : List UInt8) : (partsTo c l).1 ++ [(partsTo c l).2] = splitC c l := by
  rw [partsTo, parts_from c l [] []]
  cases hs : splitC c l with
  | nil => exact absurd hs (splitC_ne c l)
  | cons p ps => simp
theorem parts_succ (c : UInt8) (l : List UInt8) (i : Nat) (x : UInt8) (h : l[i]? = some x) : partsTo c (l.take (i + 1)) = if x = c then ((partsTo c (l.take i)).1 ++ [(partsTo c (l.take i)).2], []) else ((partsTo c (l.take i)).1, (partsTo c (l.take i)).2 ++ [x]) := by
  rw [partsTo, List.take_add_one, h, List.foldl_append]
  rfl
/-- where the part that has begun stands -/
theorem parts_at (c : UInt8) (l : List UInt8) : ∀ i, i ≤ l.length → (partsTo c (l.take i)).2.length ≤ i ∧ (partsTo c (l.take i)).2 = (l.take i).drop (i - (partsTo c (l.take i)).2.length) ∧ (partsTo c (l.take i)).1.length ≤ i
  | 0, _ => by simp [partsTo]
  | i + 1, h => by
    obtain ⟨h1, h2, h3⟩ := parts_at c l i (by omega)
    obtain ⟨x, hx⟩ : ∃ x, l[i]? = some x := ⟨l[i], List.getElem?_eq_getElem (by omega)⟩
    have ht : (l.take (i + 1)) = l.take i ++ [x] := by rw [List.take_add_one, hx]; rfl
    have hl : (l.take i).length = i := by rw [List.length_take]; omega
    rw [parts_succ c l i x hx]
    by_cases hc : x = c
    · rw [if_pos hc]
      refine ⟨by simp, ?_, by simp; omega⟩
      simp only [List.length_nil, Nat.sub_zero]
      rw [List.drop_eq_nil_of_le (by rw [List.length_take]; omega)]
    · rw [if_neg hc]
      refine ⟨by simp; omega, ?_, by show (partsTo c (l.take i)).1.length ≤ i + 1; omega⟩
      simp only [List.length_append, List.length_singleton]
      rw [ht, List.drop_append_of_le_length (by omega)]
      congr 1
      rw [show i + 1 - ((partsTo c (l.take i)).2.length + 1) = i - (partsTo c (l.take i)).2.length by omega]
      exact h2
def PartsR (ps : List (List UInt8)) (w : World) (e : Ending) (w' : World) : Prop :=
  ∃ v, e = .returned v ∧ w'.ownsRow w.heap.size 9 1 v ps.length (strVs ps) ∧ Below w.heap.size w w'
theorem one_str (s : ByteArray) (l : List UInt8) (hs : s.data.toList = l) (i : Nat) (x : UInt8) (h : l[i]? = some x) (c : UInt8) : ((s.extract i (i + 1)).toList == [c]) = decide (x = c) := by
  rw [ByteArray.toList_eq, Lib.extract_data, hs]
  have hi := (List.getElem?_eq_some_iff.1 h).1
  have : (l.drop i).take (i + 1 - i) = [x] := by
    rw [List.getElem?_eq_getElem hi] at h
    injection h with h
    rw [show i + 1 - i = 1 by omega, List.drop_eq_getElem_cons hi, List.take_succ_cons, List.take_zero, h]
  rw [this, Bool.eq_iff_iff]
  simp
end Go.Proofs.YtolfcpbcccbmmaaDoor

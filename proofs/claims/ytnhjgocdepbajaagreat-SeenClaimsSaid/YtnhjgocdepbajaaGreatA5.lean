/- json.named: are an object's names as they must be? Condition: small values. -/
import Derived.Test.YtnhjgocdepbajaaGreatA4
set_option linter.unusedVariables false
set_option linter.unusedSimpArgs false
set_option maxRecDepth 20000
namespace Go.Proofs.YtnhjgocdepbajaaGreat
open Go.RowKit Go.Maps
def namesB (names : List (List UInt8)) (m : Nat) : Bool := names.all validL && decide names.Nodup && decide (names.length = m)
theorem namesB_twice {names : List (List UInt8)} {m i : Nat} {p : List UInt8} (hp : names[i]? = some p) (hc : (names.take i).contains p = true) : namesB names m = false := by
 have : ¬ names.Nodup := by
  intro hnd
  rw [List.contains_iff_mem] at hc
  obtain ⟨j, hj, e⟩ := List.getElem_of_mem hc
  rw [List.getElem_take] at e
  obtain ⟨hi, e2⟩ := List.getElem?_eq_some_iff.1 hp
  have hji : j < i := by simp at hj; omega
  exact (List.pairwise_iff_getElem.1 hnd) j i (by omega) hi hji (by rw [e, e2])
 simp [namesB, this]
theorem namesB_bad {names : List (List UInt8)} {m i : Nat} {p : List UInt8} (hp : names[i]? = some p) (hc : validL p = false) : namesB names m = false := by
 have : names.all validL = false := by
  rw [List.all_eq_false]
  exact ⟨p, List.mem_of_getElem? hp, by simp [hc]⟩
 simp [namesB, this]
theorem nodup_snoc {names : List (List UInt8)} {i : Nat} {p : List UInt8} (hp : names[i]? = some p) (hc : (names.take i).contains p = false) (h : (names.take i).Nodup) : (names.take (i + 1)).Nodup := by
 rw [List.take_add_one, hp]
 have hm : p ∉ names.take i := by
  intro hm
  rw [← List.contains_iff_mem, hc] at hm
  cases hm
 simp only [Option.toList_some]
 rw [List.nodup_append]
 exact ⟨h, by simp, fun a ha b hb e => hm (by simp at hb; rw [← hb, ← e]; exact ha)⟩
theorem all_snoc {names : List (List UInt8)} {i : Nat} {p : List UInt8} (hp : names[i]? = some p) (hc : validL p = true) (h : (names.take i).all validL = true) : (names.take (i + 1)).all validL = true := by
 rw [List.take_add_one, hp, List.all_append, h]
 simp [hc]
end Go.Proofs.YtnhjgocdepbajaaGreat
/- json.alone: may a value be, but for its kids? Printed by genJl.py. Condition: small values. -/
set_option linter.unusedVariables false
set_option linter.unusedSimpArgs false
set_option maxRecDepth 20000
namespace Go.Proofs.YtnhjgocdepbajaaGreat
open Go.RowKit Go.Maps
theorem str_not {s : List UInt8} {y : ByteArray} (hy : (⟨s.toArray⟩ : ByteArray) = y) (h : ¬ s = []) : y.toList.isEmpty = false ∧ ¬ y.toList = [] ∧ (y.toList == []) = false ∧ (y.toList != []) = true := by
 subst hy
 have e : (⟨s.toArray⟩ : ByteArray).toList = s := by rw [ByteArray.toList_eq]
 rw [e]
 refine ⟨by simpa using h, h, by simpa using h, by simpa using h⟩
theorem str_nothing {s : List UInt8} {y : ByteArray} (hy : (⟨s.toArray⟩ : ByteArray) = y) (h : s = []) : y = ⟨#[]⟩ := by subst h; exact hy.symm
def CallsB (F : FuncId) (a : Value) (r : Bool) (W : World) : Prop := Calls Tryz.prog F #[a] W fun e w' => e = .returned (.bool r) ∧ Below W.heap.size W w'
end Go.Proofs.YtnhjgocdepbajaaGreat
/- json.alone joined; json.may and json.May. Condition: small values. -/
set_option linter.unusedVariables false
set_option linter.unusedSimpArgs false
set_option maxRecDepth 20000
namespace Go.Proofs.YtnhjgocdepbajaaGreat
open Go.RowKit
theorem mayJs_any (ok : List UInt8 → Bool) (d : Nat) : ∀ kids : List Jv, mayJs ok kids d = !(kids.any fun x => !mayJ ok x d)
 | [] => by rw [mayJs]; rfl
 | k :: ks => by rw [mayJs, mayJs_any ok d ks, List.any_cons]; cases mayJ ok k d <;> simp
def mayB (v : Jv) : Bool := mayJ validL v 0
end Go.Proofs.YtnhjgocdepbajaaGreat

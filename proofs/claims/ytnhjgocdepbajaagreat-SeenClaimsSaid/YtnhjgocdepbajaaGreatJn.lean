/- countersignref12.twice. No condition of its own. -/
import Derived.Test.YtnhjgocdepbajaaGreatA5
import Derived.Test.YtnhjgocdepbajaaGreatRj
set_option linter.unusedVariables false
set_option linter.unusedSimpArgs false
set_option maxRecDepth 20000
namespace Go.Proofs.YtnhjgocdepbajaaGreat
open Go.RowKit
theorem has_yes {ps : List (List UInt8)} {j i : Nat} {q : List UInt8} (h : ps[j]? = some q) (hj : j < i) : (ps.take i).contains q = true := by
 rw [List.contains_iff_mem]
 have : (ps.take i)[j]? = some q := by rw [List.getElem?_take, if_pos hj]; exact h
 exact List.mem_of_getElem? this
theorem has_no {ps : List (List UInt8)} {i : Nat} {q : List UInt8} (h : ∀ j p, j < i → ps[j]? = some p → p ≠ q) : (ps.take i).contains q = false := by
 rw [Bool.eq_false_iff, ne_eq, List.contains_iff_mem, List.mem_iff_getElem?]
 rintro ⟨j, hj⟩
 rw [List.getElem?_take] at hj
 split at hj
 ·
  exact h j q (by assumption) hj rfl
 ·
  cases hj
set_option maxHeartbeats 2000000 in
theorem twice_walk (A : Option Addr) (c B : Nat) (ps : List (List UInt8)) (i : Nat) (q : List UInt8) (hq : ps[i]? = some q) (w : World) (hr : Reads w B 1 A ps.length (strVs ps)) (hb : ps.length ≤ 1000001) :
  Calls Tryz.prog 94 #[.slice A ps.length c, .int .i64 (i : Int)] w fun e w' => e = .returned (.bool ((ps.take i).contains q)) ∧ ∃ n, w' = w.drewN n := by
 have hil := (List.getElem?_eq_some_iff.1 hq).1
 obtain ⟨ad, q', rfl, hq', had, hcq⟩ := name_at hr hil
 obtain rfl : q' = q := by rw [hq] at hq'; injection hq' with e; exact e.symm
 clear hq'
 go_enter Tryz.func94, Tryz.ntmps94
 go_wp2_with fail
 go_loopw [5] (fun iv wr => ∃ k : Nat, k ≤ i ∧ iv = .int .i64 k ∧ Hid (∀ j p, j < k → ps[j]? = some p → p ≠ q') ∧ ∃ n, wr = w.drewN n) (fun iv _ => i - (intOf iv).toNat)
 case atStart => exact ⟨0, by omega, rfl, fun j p hj => by omega, 0, rfl⟩
 case round =>
  obtain ⟨k, hk, rfl, hp, n, rfl⟩ := hrel
  by_cases hlt : k < i
  ·
   obtain ⟨ad', p, e', hpk, _, hcp⟩ := name_at hr (show k < ps.length by omega)
   injection e' with e'
   subst e'
   have hcmp := eq_strL p q'
   by_cases he : p = q'
   ·
    subst he
    have hv := Lib.hid (has_yes hpk hlt)
    clear hcmp hpk hq
    generalize (⟨p.toArray⟩ : ByteArray) = x at *
    go_wp2_with fail
    go_quiet (fail)
    go_wp2_with fail
    go_ret
    exact ⟨by rw [hv.out]; rfl, _, World.drewN_drewN _ _ _⟩
   ·
    have HN : Hid (∀ j p, j < k + 1 → ps[j]? = some p → p ≠ q') := fun j p' hj hp' => by
     rcases Nat.lt_succ_iff_lt_or_eq.1 hj with h | rfl
     ·
      exact hp.out j p' h hp'
     ·
      rw [hpk] at hp'; injection hp' with hp'; subst hp'; exact he
    rw [decide_eq_false he] at hcmp
    clear hpk he hq
    generalize (⟨q'.toArray⟩ : ByteArray) = x at *
    generalize (⟨p.toArray⟩ : ByteArray) = z at *
    go_wp2_with fail
    go_quiet (fail)
    go_wp2_with fail
    exact ⟨⟨k + 1, by omega, by go_num, HN, _, rfl⟩, by simp [intOf]; omega⟩
  ·
   obtain rfl : k = i := by omega
   have hv := Lib.hid (has_no hp.out)
   go_wp2_with fail
   go_ret
   exact ⟨by rw [hv.out]; rfl, n, rfl⟩
def RMayOk (v : Jv) : Prop := ∀ (cs : List Value) (deep : Nat) (w : World), smJ v → deep ≤ 8 → JvV w 0 v cs →
 Calls Tryz.prog 63 #[.agg cs.toArray, .int .i64 (deep : Int)] w fun e w' => e = .returned (.bool (mayJ validL v deep)) ∧ Below w.heap.size w w'
theorem mayJs_bad {ok : List UInt8 → Bool} {d i : Nat} {kids : List Jv} {k : Jv} (h : kids[i]? = some k) (hb : mayJ ok k d = false) : mayJs ok kids d = false := by
 rw [mayJs_any]
 have : (kids.any fun x => !mayJ ok x d) = true := List.any_eq_true.2 ⟨k, List.mem_of_getElem? h, by simp [hb]⟩
 rw [this]; rfl
theorem mayJs_good {ok : List UInt8 → Bool} {d : Nat} {kids : List Jv} (h : ∀ j k, j < kids.length → kids[j]? = some k → mayJ ok k d = true) : mayJs ok kids d = true := by
 rw [mayJs_any]
 have : (kids.any fun x => !mayJ ok x d) = false := by
  rw [List.any_eq_false]
  intro x hx
  obtain ⟨j, hj, e⟩ := List.getElem_of_mem hx
  simp [h j x hj (by rw [List.getElem?_eq_getElem hj, e])]
 rw [this]; rfl
end Go.Proofs.YtnhjgocdepbajaaGreat

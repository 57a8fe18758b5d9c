/- A text parted at one sign: countersignref6.Parts. No condition of its own. -/
import Derived.Test.YtieppmppdmcleaaGreatDoorSp
set_option linter.unusedVariables false
set_option linter.unusedSimpArgs false
set_option maxRecDepth 20000
namespace Go.Proofs.YtieppmppdmcleaaGreatDoor
open Go.RowKit
/-- the parts that are done behind so many bytes, and the part that has begun -/
def partsTo (c : UInt8) (l : List UInt8) : List (List UInt8) × List UInt8 :=
  l.foldl (fun r x => if x = c then (r.1 ++ [r.2], []) else (r.1, r.2 ++ [x])) ([], [])
theorem parts_from (c : UInt8) : ∀ (l : List UInt8) (a : List (List UInt8)) (b : List UInt8),
    (l.foldl (fun (r : List (List UInt8) × List UInt8) x => if x = c then (r.1 ++ [r.2], []) else (r.1, r.2 ++ [x])) (a, b)).1 ++ [(l.foldl (fun (r : List (List UInt8) × List UInt8) x => if x = c then (r.1 ++ [r.2], []) else (r.1, r.2 ++ [x])) (a, b)).2] = a ++ (match splitC c l with | [] => [b] | p :: ps => (b ++ p) :: ps)
  | [], a, b => by simp [splitC]
  | x :: l, a, b => by
    rw [List.foldl_cons]
    by_cases h : x = c
    · rw [if_pos h, parts_from c l, splitC, if_pos h]
      simp only
      cases hs : splitC c l with
      | nil => exact absurd hs (splitC_ne c l)
      | cons p ps => simp
    · rw [if_neg h, parts_from c l, splitC, if_neg h]
      simp only
      cases hs : splitC c l with
      | nil => exact absurd hs (splitC_ne c l)
      | cons p ps => simp
theorem parts_all (c : UInt8) (l : List UInt8) : (partsTo c l).1 ++ [(partsTo c l).2] = splitC c l := by
  rw [partsTo, parts_from c l [] []]
  cases hs : splitC c l with
  | nil => exact absurd hs (splitC_ne c l)
  | cons p ps => simp
theorem parts_succ (c : UInt8) (l : List UInt8) (i : Nat) (x : UInt8) (h : l[i]? = some x) : partsTo c (l.take (i + 1)) = if x = c then ((partsTo c (l.take i)).1 ++ [(partsTo c (l.take i)).2], []) else ((partsTo c (l.take i)).1, (partsTo c (l.take i)).2 ++ [x]) := by
  rw [partsTo, List.take_add_one, h, List.foldl_append]
  rfl
/-- where the part that has begun stands -/
theorem parts_at (c : UInt8) (l : List UInt8) : ∀ i, i ≤ l.length → (partsTo c (l.take i)).2.length ≤ i ∧ (partsTo c (l.take i)).2 = (l.take i).drop (i - (partsTo c (l.take i)).2.length) ∧ (partsTo c (l.take i)).1.length ≤ i
  | 0, _ => by simp [partsTo]
  | i + 1, h => by
    obtain ⟨h1, h2, h3⟩ := parts_at c l i (by omega)
    obtain ⟨x, hx⟩ : ∃ x, l[i]? = some x := ⟨l[i], List.getElem?_eq_getElem (by omega)⟩
    have ht : (l.take (i + 1)) = l.take i ++ [x] := by rw [List.take_add_one, hx]; rfl
    have hl : (l.take i).length = i := by rw [List.length_take]; omega
    rw [parts_succ c l i x hx]
    by_cases hc : x = c
    · rw [if_pos hc]
      refine ⟨by simp, ?_, by simp; omega⟩
      simp only [List.length_nil, Nat.sub_zero]
      rw [List.drop_eq_nil_of_le (by rw [List.length_take]; omega)]
    · rw [if_neg hc]
      refine ⟨by simp; omega, ?_, by show (partsTo c (l.take i)).1.length ≤ i + 1; omega⟩
      simp only [List.length_append, List.length_singleton]
      rw [ht, List.drop_append_of_le_length (by omega)]
      congr 1
      rw [show i + 1 - ((partsTo c (l.take i)).2.length + 1) = i - (partsTo c (l.take i)).2.length by omega]
      exact h2
def PartsR (ps : List (List UInt8)) (w : World) (e : Ending) (w' : World) : Prop :=
  ∃ v, e = .returned v ∧ w'.ownsRow w.heap.size 9 1 v ps.length (strVs ps) ∧ Below w.heap.size w w'
theorem one_str (s : ByteArray) (l : List UInt8) (hs : s.data.toList = l) (i : Nat) (x : UInt8) (h : l[i]? = some x) (c : UInt8) : ((s.extract i (i + 1)).toList == [c]) = decide (x = c) := by
  rw [ByteArray.toList_eq, Lib.extract_data, hs]
  have hi := (List.getElem?_eq_some_iff.1 h).1
  have : (l.drop i).take (i + 1 - i) = [x] := by
    rw [List.getElem?_eq_getElem hi] at h
    injection h with h
    rw [show i + 1 - i = 1 by omega, List.drop_eq_getElem_cons hi, List.take_succ_cons, List.take_zero, h]
  rw [this, Bool.eq_iff_iff]
  simp
set_option maxHeartbeats 4000000 in
theorem parts_walk (s : ByteArray) (l : List UInt8) (hs : s.data.toList = l) (c : UInt8) (w : World) (hm : s.size ≤ 1000000) :
    Calls Tryz.prog 16 #[.string s, .string ⟨#[c]⟩] w (PartsR (splitC c l) w) := by
  obtain ⟨i0, hi, hz0, hz1, hz2⟩ := infoS4 info_string
  have hsz : l.length = s.size := by rw [← hs, Lib.size_eq]
  go_enter Tryz.func16, Tryz.ntmps16
  go_wp2_with fail
  go_loopw [5, 6, 7] (fun ov fv iv wr => ∃ i : Nat, i ≤ s.size ∧ iv = .int .i64 i ∧ fv = .int .i64 ((i - (partsTo c (l.take i)).2.length : Nat) : Int) ∧ Hid (wr.ownsRow w.heap.size 9 1 ov (partsTo c (l.take i)).1.length (strVs (partsTo c (l.take i)).1)) ∧ Hid (Below w.heap.size w wr)) (fun _ _ iv _ => s.size - (intOf iv).toNat)
  case atStart => exact ⟨0, by omega, rfl, by simp [partsTo], World.ownsRow_nil _ _ _ _, Below.refl _ _⟩
  case round =>
    obtain ⟨i, his, rfl, rfl, hown, hb⟩ := hrel
    obtain ⟨hp1, hp2, hp3⟩ := parts_at c l i (by omega)
    obtain ⟨a, b, hab⟩ : ∃ a b, partsTo c (l.take i) = (a, b) := ⟨_, _, rfl⟩
    rw [hab] at hp1 hp2 hp3 hown ⊢
    have HAB := Lib.hid hab
    have HP2 := Lib.hid hp2
    clear hab hp2
    simp only at hp1 hp3 hown ⊢
    obtain ⟨f, hf⟩ : ∃ f, i - b.length = f := ⟨_, rfl⟩
    have hfi : f ≤ i := by omega
    rw [hf] at HP2 ⊢
    have HF := Lib.hid hf
    clear hf
    have hbe : (s.extract f i).data.toList = b := by
      rw [Lib.extract_data, hs, ← List.drop_take]
      exact HP2.out.symm
    have hst := str_eta _ _ hbe
    have hsz2 := hb.out.size
    have hal : a.length ≤ 1000000 := by omega
    have hfd : decide ((f : Int) ≤ (i : Int)) = true := by simp; omega
    have hfd2 : decide (f ≤ i) = true := by simpa using hfi
    clear hbe
    by_cases hlt : i < s.size
    · obtain ⟨x, hx⟩ : ∃ x, l[i]? = some x := ⟨l[i]'(by omega), List.getElem?_eq_getElem (by omega)⟩
      have hone := one_str s l hs i x hx c
      have HX := Lib.hid hx
      clear hx
      by_cases hc : x = c
      · have hcd : ((s.extract i (i + 1)).toList == [c]) = true := by rw [hone]; simpa using hc
        clear hone
        subst hc
        go_wp2_with (at_builtin; refine wpList_append_new wr rfl (.tmp 31) (.tmp 36) 23 rfl w.heap.size 9 i0 (.string ⟨#[]⟩) 1 16 Tryz.underlying23 hi hz0 hz1 hz2 rfl (by decide) u5 a.length (strVs a) rfl hown.out [.string ⟨b.toArray⟩] rfl rfl (by simp [Value.oneCell']) (by unfold maxLen; omega) (by omega) hsz2 ?_; intro v' w2 hown2 hg2)
        have hns : partsTo x (l.take (i + 1)) = (a ++ [b], []) := by rw [parts_succ x l i x HX.out, if_pos rfl, HAB.out]
        have HB2 := Lib.hid (hb.out.grown hg2 hsz2 (fun q e => (hown.out.lt q e).1))
        refine ⟨⟨i + 1, by omega, by go_num, by rw [hns]; rfl, ?_, HB2⟩, by simp [intOf]; omega⟩
        show World.ownsRow _ _ _ _ _ _ _
        rw [hns]
        simpa [strVs, strV] using hown2
      · have hcd : ((s.extract i (i + 1)).toList == [c]) = false := by rw [hone]; simpa using hc
        have hns : partsTo c (l.take (i + 1)) = (a, b ++ [x]) := by rw [parts_succ c l i x HX.out, if_neg hc, HAB.out]
        have HNS := Lib.hid hns
        clear hone hst hns
        go_wp2_with fail
        refine ⟨⟨i + 1, by omega, by go_num, ?_, ?_, hb⟩, by simp [intOf]; omega⟩
        · rw [HNS.out]
          congr 2
          have := HF.out
          simp
          omega
        · show World.ownsRow _ _ _ _ _ _ _
          rw [HNS.out]
          exact hown.out
    · obtain rfl : i = s.size := by omega
      have hall := parts_all c l
      have hl2 : l.take s.size = l := by rw [← hsz, List.take_length]
      rw [hl2] at HAB
      rw [HAB.out] at hall
      have HALL := Lib.hid hall
      clear hall hl2
      go_wp2_with (at_builtin; refine wpList_append_new wr rfl (.tmp 42) (.tmp 46) 23 rfl w.heap.size 9 i0 (.string ⟨#[]⟩) 1 16 Tryz.underlying23 hi hz0 hz1 hz2 rfl (by decide) u5 a.length (strVs a) rfl hown.out [.string ⟨b.toArray⟩] rfl rfl (by simp [Value.oneCell']) (by unfold maxLen; omega) (by omega) hsz2 ?_; intro v' w2 hown2 hg2)
      go_ret
      refine ⟨v', rfl, ?_, hb.out.grown hg2 hsz2 (fun q e => (hown.out.lt q e).1)⟩
      rw [← HALL.out]
      simpa [strVs, strV] using hown2
end Go.Proofs.YtieppmppdmcleaaGreatDoor

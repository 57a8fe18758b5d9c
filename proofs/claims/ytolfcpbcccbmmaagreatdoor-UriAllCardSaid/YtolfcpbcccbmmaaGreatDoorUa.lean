/- Addresses, plain: which may be, what they are written as, which a text is; the laws of them. No condition of its own. -/
import Derived.Test.YtolfcpbcccbmmaaGreatDoorHn
set_option linter.unusedVariables false
set_option linter.unusedSimpArgs false
set_option maxRecDepth 20000
namespace Go.Proofs.YtolfcpbcccbmmaaGreatDoor
open Go.RowKit Pc
def inHostB (c : Nat) : Bool := smallB c || digitB c || decide (c = 45) || decide (c = 46)
def inPathB (c : Nat) : Bool := plainB c || decide (c = 47)
def hostB (l : List UInt8) : Bool := decide (1 ≤ l.length) && decide (l.length ≤ 64) && l.all fun b => inHostB b.toNat
def pathB (l : List UInt8) : Bool := (l.head? == some 47) && l.all fun b => inPathB b.toNat
structure Ur where
  h : List UInt8
  p : List UInt8
  q : List Fl
def schemeL : List UInt8 := [104, 116, 116, 112, 115, 58, 47, 47]
def targetL (u : Ur) : List UInt8 := if u.q = [] then u.p else u.p ++ 63 :: printL u.q
def unlikeQ (fs : List Fl) : Bool := (List.range fs.length).all fun i => match fs[i]? with
  | some f => decide (f.n ≠ []) && !hasF f.n (fs.take i)
  | none => true
theorem unlikeQ_iff (fs : List Fl) : unlikeQ fs = true ↔ UnlikeP fs := by
  rw [unlikeQ, List.all_eq_true]
  constructor
  · intro h i f hf
    have := h i (List.mem_range.2 (List.getElem?_eq_some_iff.1 hf).1)
    rw [hf] at this
    simpa using this
  · intro h i hi
    cases hf : fs[i]? with
    | none => rfl
    | some f =>
      have := h i f hf
      simpa using this
def mayB (u : Ur) : Bool := hostB u.h && pathB u.p && decide (u.q.length ≤ 24) && unlikeQ u.q && decide (8 + u.h.length + (targetL u).length ≤ 1024)
/-- what stands behind the place -/
def restE (path query : List UInt8) (is : Bool) : Nat × List UInt8 × List Fl :=
  if pathB path = false ∨ is = true ∧ query = [] then (3, [], []) else if (formE query).1 = 0 then (0, path, (formE query).2) else ((formE query).1, [], [])
def splitE (l : List UInt8) : Nat × List UInt8 × List Fl :=
  if 1024 < l.length then (4, [], []) else restE (cutA l (cutP 63 l)) (cutB (cutP 63 l)) (cutP 63 l).isSome
def uriE (l : List UInt8) : Nat × Ur :=
  if 1024 < l.length then (4, ⟨[], [], []⟩) else if l.take 8 = schemeL then match cutP 47 (l.drop 8) with
    | none => (3, ⟨[], [], []⟩)
    | some p => if hostB p.1 = false then (3, ⟨[], [], []⟩) else
        if (splitE (47 :: p.2)).1 = 0 then (0, ⟨p.1, (splitE (47 :: p.2)).2.1, (splitE (47 :: p.2)).2.2⟩) else ((splitE (47 :: p.2)).1, ⟨[], [], []⟩)
  else (3, ⟨[], [], []⟩)
theorem pathB_no {l : List UInt8} (h : pathB l = true) : ∀ x ∈ l, x ≠ 63 := by
  rw [pathB, Bool.and_eq_true, List.all_eq_true] at h
  rintro x hx rfl
  have := h.2 63 hx
  revert this
  decide
theorem hostB_no {l : List UInt8} (h : hostB l = true) : ∀ x ∈ l, x ≠ 47 := by
  rw [hostB, Bool.and_eq_true, List.all_eq_true] at h
  rintro x hx rfl
  have := h.2 47 hx
  revert this
  decide
theorem cutP_no (c : UInt8) (l : List UInt8) (h : ∀ x ∈ l, x ≠ c) : cutP c l = none := by
  apply cutP_none
  intro k hk
  exact h c (List.mem_of_getElem? hk) rfl
theorem pathB_head {l : List UInt8} (h : pathB l = true) : ∃ r, l = 47 :: r := by
  rw [pathB, Bool.and_eq_true] at h
  cases l with
  | nil => simp at h
  | cons x r =>
    have h1 := h.1
    simp at h1
    exact ⟨r, by rw [h1]⟩
theorem printL_ne {fs : List Fl} (h : fs ≠ []) : printL fs ≠ [] := by
  cases fs with
  | nil => exact absurd rfl h
  | cons f fs => rw [printL_cons]; intro e; exact encF_ne f (List.append_eq_nil_iff.1 e).1
theorem formE_nil : formE [] = (0, []) := rfl
theorem mayB_parts {u : Ur} (h : mayB u = true) : hostB u.h = true ∧ pathB u.p = true ∧ u.q.length ≤ 24 ∧ UnlikeP u.q ∧ 8 + u.h.length + (targetL u).length ≤ 1024 := by
  rw [mayB] at h
  simp only [Bool.and_eq_true, decide_eq_true_eq] at h
  exact ⟨h.1.1.1.1, h.1.1.1.2, h.1.1.2, (unlikeQ_iff _).1 h.1.2, h.2⟩
theorem mayB_of {u : Ur} (h1 : hostB u.h = true) (h2 : pathB u.p = true) (h3 : u.q.length ≤ 24) (h4 : UnlikeP u.q) (h5 : 8 + u.h.length + (targetL u).length ≤ 1024) : mayB u = true := by
  rw [mayB]
  simp only [Bool.and_eq_true, decide_eq_true_eq]
  exact ⟨⟨⟨⟨h1, h2⟩, h3⟩, (unlikeQ_iff _).2 h4⟩, h5⟩
theorem split_target {u : Ur} (h : mayB u = true) : splitE (targetL u) = (0, u.p, u.q) := by
  obtain ⟨h1, h2, h3, h4, h5⟩ := mayB_parts h
  rw [splitE, if_neg (by omega)]
  by_cases hq : u.q = []
  · have ht : targetL u = u.p := if_pos hq
    rw [ht, cutP_no 63 u.p (pathB_no h2)]
    show restE u.p [] false = _
    rw [restE, if_neg (by rw [h2]; simp), formE_nil, if_pos rfl, hq]
  · have ht : targetL u = u.p ++ 63 :: printL u.q := if_neg hq
    rw [ht, cutP_front 63 _ _ (pathB_no h2)]
    show restE u.p (printL u.q) true = _
    rw [restE, if_neg (by rw [h2]; simp [printL_ne hq]), formE_print h4 h3, if_pos rfl]
def uriL (u : Ur) : List UInt8 := schemeL ++ u.h ++ targetL u
theorem uri_print {u : Ur} (h : mayB u = true) : uriE (uriL u) = (0, u) := by
  obtain ⟨h1, h2, h3, h4, h5⟩ := mayB_parts h
  obtain ⟨r, hr⟩ := pathB_head h2
  obtain ⟨t, ht⟩ : ∃ t, targetL u = 47 :: t := by
    unfold targetL
    split
    · exact ⟨r, hr⟩
    · exact ⟨r ++ 63 :: printL u.q, by rw [hr]; rfl⟩
  have hl : (uriL u).length ≤ 1024 := by rw [uriL, List.length_append, List.length_append]; have : schemeL.length = 8 := rfl; omega
  have hs : schemeL.length = 8 := rfl
  have e1 : (uriL u).take 8 = schemeL := by rw [uriL, List.append_assoc, ← hs, List.take_left]
  have e2 : (uriL u).drop 8 = u.h ++ 47 :: t := by rw [uriL, List.append_assoc, ← hs, List.drop_left, ht]
  rw [uriE, if_neg (by omega), if_pos e1, e2, cutP_front 47 _ _ (hostB_no h1)]
  simp only
  rw [if_neg (by rw [h1]; simp), ← ht, split_target h, if_pos rfl]
theorem splitE_ok {l : List UInt8} (h : (splitE l).1 = 0) : pathB (splitE l).2.1 = true ∧ UnlikeP (splitE l).2.2 ∧ (splitE l).2.2.length ≤ 24 ∧ targetL ⟨[], (splitE l).2.1, (splitE l).2.2⟩ = l ∧ l.length ≤ 1024 := by
  unfold splitE at h ⊢
  split
  · rename_i h1; rw [if_pos h1] at h; cases h
  · rename_i h1
    rw [if_neg h1] at h
    unfold restE at h ⊢
    split
    · rename_i h2; rw [if_pos h2] at h; cases h
    · rename_i h2
      rw [if_neg h2] at h
      have h2a : pathB (cutA l (cutP 63 l)) = true := by
        cases hp : pathB (cutA l (cutP 63 l)) with
        | true => rfl
        | false => exact absurd (.inl hp) h2
      split
      · rename_i h3
        obtain ⟨h4, h5⟩ := formE_ok h3
        refine ⟨h2a, h4, ?_, ?_, by omega⟩
        · by_cases hq : cutB (cutP 63 l) = []
          · rw [hq]; simp [formE_nil]
          · have h6 := h3
            unfold formE at h6 ⊢
            rw [if_neg hq] at h6 ⊢
            split
            · rename_i h7
              rw [if_pos h7] at h6
              obtain ⟨_, gs, h8, h9⟩ := goF_ok (splitC 38 (cutB (cutP 63 l))) [] (goF [] (splitC 38 (cutB (cutP 63 l)))).2 unlikeP_nil (by rw [← h6])
              rw [List.nil_append] at h8
              rw [h8]
              rw [h9, List.length_map] at h7
              exact h7
            · simp
        · show (if (formE (cutB (cutP 63 l))).2 = [] then cutA l (cutP 63 l) else cutA l (cutP 63 l) ++ 63 :: printL (formE (cutB (cutP 63 l))).2) = l
          cases hc : cutP 63 l with
          | none =>
            rw [if_pos (by rfl)]
            rfl
          | some p =>
            have hl := cutP_is 63 l p hc
            rw [hc] at h5 h2
            have hq : cutB (some p) ≠ [] := fun e => h2 (.inr ⟨rfl, e⟩)
            rw [if_neg (by intro e; rw [e] at h5; exact hq h5.symm), h5]
            exact hl.symm
      · rename_i h3; rw [if_neg h3] at h; exact absurd h h3
theorem splitE_err {l : List UInt8} (h : (splitE l).1 ≠ 0) : (splitE l).2 = ([], []) := by
  unfold splitE at h ⊢
  split
  · rfl
  · rename_i h1
    rw [if_neg h1] at h
    unfold restE at h ⊢
    split
    · rfl
    · rename_i h2
      rw [if_neg h2] at h
      split
      · rename_i h3; rw [if_pos h3] at h; exact absurd rfl h
      · rfl
theorem uriE_err {l : List UInt8} (h : (uriE l).1 ≠ 0) : (uriE l).2 = ⟨[], [], []⟩ := by
  unfold uriE at h ⊢
  split
  · rfl
  · rename_i h1
    rw [if_neg h1] at h
    split
    · rename_i h2
      rw [if_pos h2] at h
      split
      · rfl
      · rename_i p hp
        rw [hp] at h
        simp only at h
        split
        · rfl
        · rename_i h3
          rw [if_neg h3] at h
          split
          · rename_i h4; rw [if_pos h4] at h; exact absurd rfl h
          · rfl
    · rfl
theorem uriE_ok {l : List UInt8} (h : (uriE l).1 = 0) : mayB (uriE l).2 = true ∧ uriL (uriE l).2 = l := by
  unfold uriE at h ⊢
  split
  · rename_i h1; rw [if_pos h1] at h; cases h
  · rename_i h1
    rw [if_neg h1] at h
    split
    · rename_i h2
      rw [if_pos h2] at h
      split
      · rename_i hp; rw [hp] at h; cases h
      · rename_i p hp
        rw [hp] at h
        simp only at h
        split
        · rename_i h3; rw [if_pos h3] at h; cases h
        · rename_i h3
          rw [if_neg h3] at h
          split
          · rename_i h4
            have hh : hostB p.1 = true := by
              cases hq : hostB p.1 with
              | true => rfl
              | false => exact absurd hq h3
            obtain ⟨g1, g2, g3, g4, g5⟩ := splitE_ok h4
            have hl := cutP_is 47 (l.drop 8) p hp
            have hsp : l = schemeL ++ (p.1 ++ 47 :: p.2) := by rw [← hl, ← h2, List.take_append_drop]
            have ht : targetL ⟨p.1, (splitE (47 :: p.2)).2.1, (splitE (47 :: p.2)).2.2⟩ = 47 :: p.2 := g4
            have hlen := congrArg List.length hsp
            rw [List.length_append, List.length_append] at hlen
            refine ⟨mayB_of hh g1 g3 g2 ?_, ?_⟩
            · rw [ht]
              have : schemeL.length = 8 := rfl
              simp only
              omega
            · rw [uriL, ht, List.append_assoc]
              exact hsp.symm
          · rename_i h4; rw [if_neg h4] at h; exact absurd h h4
    · rename_i h2; rw [if_neg h2] at h; cases h
end Go.Proofs.YtolfcpbcccbmmaaGreatDoor

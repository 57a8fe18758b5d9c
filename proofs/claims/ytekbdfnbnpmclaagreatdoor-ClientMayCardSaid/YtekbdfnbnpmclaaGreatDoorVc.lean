/- Addresses. No condition of its own. -/
import Derived.Test.YtekbdfnbnpmclaaGreatDoorVb
import Derived.Test.YtekbdfnbnpmclaaGreatDoorVa
import Derived.Deep.RegionHeld
import Derived.Deep.AppendLies
set_option linter.unusedVariables false
set_option linter.unusedSimpArgs false
set_option maxRecDepth 20000
namespace Go.Proofs.YtekbdfnbnpmclaaGreatDoor
section
open Go.RowKit Pc
def inHostB (c : Nat) : Bool := smallB c || digitB c || decide (c = 45) || decide (c = 46)
def inPathB (c : Nat) : Bool := plainB c || decide (c = 47)
def hostB (l : List UInt8) : Bool := decide (1 ≤ l.length) && decide (l.length ≤ 64) && l.all fun b => inHostB b.toNat
def pathB (l : List UInt8) : Bool := (l.head? == some 47) && l.all fun b => inPathB b.toNat
structure Ur where
  h : List UInt8
  p : List UInt8
  q : List Fl
def schemeL : List UInt8 := [104, 116, 116, 112, 115, 58, 47, 47]
def targetL (u : Ur) : List UInt8 := if u.q = [] then u.p else u.p ++ 63 :: printL u.q
def unlikeQ (fs : List Fl) : Bool := (List.range fs.length).all fun i => match fs[i]? with
  | some f => decide (f.n ≠ []) && !hasF f.n (fs.take i)
  | none => true
theorem unlikeQ_iff (fs : List Fl) : unlikeQ fs = true ↔ UnlikeP fs := by
  rw [unlikeQ, List.all_eq_true]
  constructor
  · intro h i f hf
    have := h i (List.mem_range.2 (List.getElem?_eq_some_iff.1 hf).1)
    rw [hf] at this
    simpa using this
  · intro h i hi
    cases hf : fs[i]? with
    | none => rfl
    | some f =>
      have := h i f hf
      simpa using this
def mayB (u : Ur) : Bool := hostB u.h && pathB u.p && decide (u.q.length ≤ 24) && unlikeQ u.q && decide (8 + u.h.length + (targetL u).length ≤ 1024)
/-- what stands behind the place -/
def restE (path query : List UInt8) (is : Bool) : Nat × List UInt8 × List Fl :=
  if pathB path = false ∨ is = true ∧ query = [] then (3, [], []) else if (formE query).1 = 0 then (0, path, (formE query).2) else ((formE query).1, [], [])
def splitE (l : List UInt8) : Nat × List UInt8 × List Fl :=
  if 1024 < l.length then (4, [], []) else restE (cutA l (cutP 63 l)) (cutB (cutP 63 l)) (cutP 63 l).isSome
def uriE (l : List UInt8) : Nat × Ur :=
  if 1024 < l.length then (4, ⟨[], [], []⟩) else if l.take 8 = schemeL then match cutP 47 (l.drop 8) with
    | none => (3, ⟨[], [], []⟩)
    | some p => if hostB p.1 = false then (3, ⟨[], [], []⟩) else
        if (splitE (47 :: p.2)).1 = 0 then (0, ⟨p.1, (splitE (47 :: p.2)).2.1, (splitE (47 :: p.2)).2.2⟩) else ((splitE (47 :: p.2)).1, ⟨[], [], []⟩)
  else (3, ⟨[], [], []⟩)
theorem pathB_no {l : List UInt8} (h : pathB l = true) : ∀ x ∈ l, x ≠ 63 := by
  rw [pathB, Bool.and_eq_true, List.all_eq_true] at h
  rintro x hx rfl
  have := h.2 63 hx
  revert this
  decide
theorem hostB_no {l : List UInt8} (h : hostB l = true) : ∀ x ∈ l, x ≠ 47 := by
  rw [hostB, Bool.and_eq_true, List.all_eq_true] at h
  rintro x hx rfl
  have := h.2 47 hx
  revert this
  decide
theorem cutP_no (c : UInt8) (l : List UInt8) (h : ∀ x ∈ l, x ≠ c) : cutP c l = none := by
  apply cutP_none
  intro k hk
  exact h c (List.mem_of_getElem? hk) rfl
theorem pathB_head {l : List UInt8} (h : pathB l = true) : ∃ r, l = 47 :: r := by
  rw [pathB, Bool.and_eq_true] at h
  cases l with
  | nil => simp at h
  | cons x r =>
    have h1 := h.1
    simp at h1
    exact ⟨r, by rw [h1]⟩
theorem printL_ne {fs : List Fl} (h : fs ≠ []) : printL fs ≠ [] := by
  cases fs with
  | nil => exact absurd rfl h
  | cons f fs => rw [printL_cons]; intro e; exact encF_ne f (List.append_eq_nil_iff.1 e).1
theorem formE_nil : formE [] = (0, []) := rfl
theorem mayB_parts {u : Ur} (h : mayB u = true) : hostB u.h = true ∧ pathB u.p = true ∧ u.q.length ≤ 24 ∧ UnlikeP u.q ∧ 8 + u.h.length + (targetL u).length ≤ 1024 := by
  rw [mayB] at h
  simp only [Bool.and_eq_true, decide_eq_true_eq] at h
  exact ⟨h.1.1.1.1, h.1.1.1.2, h.1.1.2, (unlikeQ_iff _).1 h.1.2, h.2⟩
theorem mayB_of {u : Ur} (h1 : hostB u.h = true) (h2 : pathB u.p = true) (h3 : u.q.length ≤ 24) (h4 : UnlikeP u.q) (h5 : 8 + u.h.length + (targetL u).length ≤ 1024) : mayB u = true := by
  rw [mayB]
  simp only [Bool.and_eq_true, decide_eq_true_eq]
  exact ⟨⟨⟨⟨h1, h2⟩, h3⟩, (unlikeQ_iff _).2 h4⟩, h5⟩
theorem split_target {u : Ur} (h : mayB u = true) : splitE (targetL u) = (0, u.p, u.q) := by
  obtain ⟨h1, h2, h3, h4, h5⟩ := mayB_parts h
  rw [splitE, if_neg (by omega)]
  by_cases hq : u.q = []
  · have ht : targetL u = u.p := if_pos hq
    rw [ht, cutP_no 63 u.p (pathB_no h2)]
    show restE u.p [] false = _
    rw [restE, if_neg (by rw [h2]; simp), formE_nil, if_pos rfl, hq]
  · have ht : targetL u = u.p ++ 63 :: printL u.q := if_neg hq
    rw [ht, cutP_front 63 _ _ (pathB_no h2)]
    show restE u.p (printL u.q) true = _
    rw [restE, if_neg (by rw [h2]; simp [printL_ne hq]), formE_print h4 h3, if_pos rfl]
def uriL (u : Ur) : List UInt8 := schemeL ++ u.h ++ targetL u
theorem uri_print {u : Ur} (h : mayB u = true) : uriE (uriL u) = (0, u) := by
  obtain ⟨h1, h2, h3, h4, h5⟩ := mayB_parts h
  obtain ⟨r, hr⟩ := pathB_head h2
  obtain ⟨t, ht⟩ : ∃ t, targetL u = 47 :: t := by
    unfold targetL
    split
    · exact ⟨r, hr⟩
    · exact ⟨r ++ 63 :: printL u.q, by rw [hr]; rfl⟩
  have hl : (uriL u).length ≤ 1024 := by rw [uriL, List.length_append, List.length_append]; have : schemeL.length = 8 := rfl; omega
  have hs : schemeL.length = 8 := rfl
  have e1 : (uriL u).take 8 = schemeL := by rw [uriL, List.append_assoc, ← hs, List.take_left]
  have e2 : (uriL u).drop 8 = u.h ++ 47 :: t := by rw [uriL, List.append_assoc, ← hs, List.drop_left, ht]
  rw [uriE, if_neg (by omega), if_pos e1, e2, cutP_front 47 _ _ (hostB_no h1)]
  simp only
  rw [if_neg (by rw [h1]; simp), ← ht, split_target h, if_pos rfl]
theorem splitE_ok {l : List UInt8} (h : (splitE l).1 = 0) : pathB (splitE l).2.1 = true ∧ UnlikeP (splitE l).2.2 ∧ (splitE l).2.2.length ≤ 24 ∧ targetL ⟨[], (splitE l).2.1, (splitE l).2.2⟩ = l ∧ l.length ≤ 1024 := by
  unfold splitE at h ⊢
  split
  · rename_i h1; rw [if_pos h1] at h; cases h
  · rename_i h1
    rw [if_neg h1] at h
    unfold restE at h ⊢
    split
    · rename_i h2; rw [if_pos h2] at h; cases h
    · rename_i h2
      rw [if_neg h2] at h
      have h2a : pathB (cutA l (cutP 63 l)) = true := by
        cases hp : pathB (cutA l (cutP 63 l)) with
        | true => rfl
        | false => exact absurd (.inl hp) h2
      split
      · rename_i h3
        obtain ⟨h4, h5⟩ := formE_ok h3
        refine ⟨h2a, h4, ?_, ?_, by omega⟩
        · by_cases hq : cutB (cutP 63 l) = []
          · rw [hq]; simp [formE_nil]
          · have h6 := h3
            unfold formE at h6 ⊢
            rw [if_neg hq] at h6 ⊢
            split
            · rename_i h7
              rw [if_pos h7] at h6
              obtain ⟨_, gs, h8, h9⟩ := goF_ok (splitC 38 (cutB (cutP 63 l))) [] (goF [] (splitC 38 (cutB (cutP 63 l)))).2 unlikeP_nil (by rw [← h6])
              rw [List.nil_append] at h8
              rw [h8]
              rw [h9, List.length_map] at h7
              exact h7
            · simp
        · show (if (formE (cutB (cutP 63 l))).2 = [] then cutA l (cutP 63 l) else cutA l (cutP 63 l) ++ 63 :: printL (formE (cutB (cutP 63 l))).2) = l
          cases hc : cutP 63 l with
          | none =>
            rw [if_pos (by rfl)]
            rfl
          | some p =>
            have hl := cutP_is 63 l p hc
            rw [hc] at h5 h2
            have hq : cutB (some p) ≠ [] := fun e => h2 (.inr ⟨rfl, e⟩)
            rw [if_neg (by intro e; rw [e] at h5; exact hq h5.symm), h5]
            exact hl.symm
      · rename_i h3; rw [if_neg h3] at h; exact absurd h h3
theorem splitE_err {l : List UInt8} (h : (splitE l).1 ≠ 0) : (splitE l).2 = ([], []) := by
  unfold splitE at h ⊢
  split
  · rfl
  · rename_i h1
    rw [if_neg h1] at h
    unfold restE at h ⊢
    split
    · rfl
    · rename_i h2
      rw [if_neg h2] at h
      split
      · rename_i h3; rw [if_pos h3] at h; exact absurd rfl h
      · rfl
theorem uriE_err {l : List UInt8} (h : (uriE l).1 ≠ 0) : (uriE l).2 = ⟨[], [], []⟩ := by
  unfold uriE at h ⊢
  split
  · rfl
  · rename_i h1
    rw [if_neg h1] at h
    split
    · rename_i h2
      rw [if_pos h2] at h
      split
      · rfl
      · rename_i p hp
        rw [hp] at h
        simp only at h
        split
        · rfl
        · rename_i h3
          rw [if_neg h3] at h
          split
          · rename_i h4; rw [if_pos h4] at h; exact absurd rfl h
          · rfl
    · rfl
theorem uriE_ok {l : List UInt8} (h : (uriE l).1 = 0) : mayB (uriE l).2 = true ∧ uriL (uriE l).2 = l := by
  unfold uriE at h ⊢
  split
  · rename_i h1; rw [if_pos h1] at h; cases h
  · rename_i h1
    rw [if_neg h1] at h
    split
    · rename_i h2
      rw [if_pos h2] at h
      split
      · rename_i hp; rw [hp] at h; cases h
      · rename_i p hp
        rw [hp] at h
        simp only at h
        split
        · rename_i h3; rw [if_pos h3] at h; cases h
        · rename_i h3
          rw [if_neg h3] at h
          split
          · rename_i h4
            have hh : hostB p.1 = true := by
              cases hq : hostB p.1 with
              | true => rfl
              | false => exact absurd hq h3
            obtain ⟨g1, g2, g3, g4, g5⟩ := splitE_ok h4
            have hl := cutP_is 47 (l.drop 8) p hp
            have hsp : l = schemeL ++ (p.1 ++ 47 :: p.2) := by rw [← hl, ← h2, List.take_append_drop]
            have ht : targetL ⟨p.1, (splitE (47 :: p.2)).2.1, (splitE (47 :: p.2)).2.2⟩ = 47 :: p.2 := g4
            have hlen := congrArg List.length hsp
            rw [List.length_append, List.length_append] at hlen
            refine ⟨mayB_of hh g1 g3 g2 ?_, ?_⟩
            · rw [ht]
              have : schemeL.length = 8 := rfl
              simp only
              omega
            · rw [uriL, ht, List.append_assoc]
              exact hsp.symm
          · rename_i h4; rw [if_neg h4] at h; exact absurd h h4
    · rename_i h2; rw [if_neg h2] at h; cases h
end
section
open Go.RowKit
/-- a function value that tells of a byte -/
def TellsC (F : FuncId) (p : Nat → Bool) : Prop := (∀ (args : Array Value) (w : World), (callFunc F args).run Tryz.prog w = .ok (.enter F args) w) ∧ ∀ (c : Nat) (w : World), c < 256 → Calls Tryz.prog F #[.int .u8 (c : Int)] w fun e w' => e = .returned (.bool (p c)) ∧ w = w'
theorem all_no {l : List UInt8} {p : Nat → Bool} {k : Nat} (hk : k < l.length) (h : p (l.getD k 0).toNat = false) : (l.all fun b => p b.toNat) = false := by
  rw [List.all_eq_false]
  exact ⟨l[k], List.getElem_mem hk, by rw [List.getD_eq_getElem?_getD, List.getElem?_eq_getElem hk] at h; simpa using h⟩
theorem all_yes {l : List UInt8} {p : Nat → Bool} (h : ∀ j, j < l.length → p (l.getD j 0).toNat = true) : (l.all fun b => p b.toNat) = true := by
  rw [List.all_eq_true]
  intro x hx
  obtain ⟨j, hj, he⟩ := List.getElem_of_mem hx
  have := h j hj
  rwa [List.getD_eq_getElem?_getD, List.getElem?_eq_getElem hj, Option.getD_some, he] at this
set_option maxHeartbeats 400000 in
theorem all_walk (F : FuncId) (p : Nat → Bool) (hF : TellsC F p) (s : ByteArray) (l : List UInt8) (hs : s.data.toList = l) (w : World) (hm : s.size ≤ 1000000) :
    Calls Tryz.prog 39 #[.string s, .func (.func F) #[] #[]] w fun e w' => e = .returned (.bool (l.all fun b => p b.toNat)) ∧ w = w' := by
  have hcf := hF.1
  go_enter Tryz.func39, Tryz.ntmps39
  go_wp2_with fail
  have hsz : l.length = s.size := by rw [← hs, Lib.size_eq]
  go_loopw [8] (fun nv wr => ∃ k : Nat, k ≤ s.size ∧ nv = .int .i64 k ∧ Hid (∀ j, j < k → p (l.getD j 0).toNat = true) ∧ w = wr) (fun nv _ => s.size - (intOf nv).toNat)
  case atStart => exact ⟨0, by omega, rfl, fun j hj => by omega, rfl⟩
  case round =>
    obtain ⟨k, hk, rfl, hp, rfl⟩ := hrel
    by_cases hlt : k < s.size
    · have cF := Lib.hid (fun w => hF.2 (l.getD k 0).toNat w (l.getD k 0).toNat_lt)
      obtain ⟨b, eb, hb, hb2⟩ : ∃ b : Nat, (s[k]'hlt).toNat = b ∧ Hid ((l.getD k 0).toNat = b) ∧ b < 256 := ⟨_, str_at hs hlt, rfl, (l.getD k 0).toNat_lt⟩
      rw [hb.out] at cF
      cases hpk : p b <;> rw [hpk] at cF
      · have hv : Hid ((l.all fun b => p b.toNat) = false) := all_no (k := k) (by omega) (by rw [hb.out]; exact hpk)
        go_wp2_with fail
        try rw [hcf, Oper.upon_enter]
        refine (cF.out _).mono ?_
        rintro _ w1 ⟨rfl, rfl⟩
        go_wp2_with fail
        go_ret
        exact ⟨by rw [hv.out]; rfl, rfl⟩
      · have HN : Hid (∀ j, j < k + 1 → p (l.getD j 0).toNat = true) := by
          show ∀ j, j < k + 1 → _
          intro j hj
          rcases Nat.lt_or_ge j k with h | h
          · exact hp.out j h
          · rw [show j = k by omega, hb.out]; exact hpk
        go_wp2_with fail
        try rw [hcf, Oper.upon_enter]
        refine (cF.out _).mono ?_
        rintro _ w1 ⟨rfl, rfl⟩
        go_wp2_with fail
        exact ⟨⟨k + 1, by omega, by go_num, HN, trivial⟩, by simp [intOf]; omega⟩
    · have hv : Hid ((l.all fun b => p b.toNat) = true) := all_yes (fun j hj => hp.out j (by omega))
      go_wp2_with fail
      go_ret
      exact ⟨by rw [hv.out]; rfl, rfl⟩
end
section
open Go.RowKit Pc
theorem inHost_walk (c : Nat) (w : World) : Calls Tryz.prog 78 #[.int .u8 (c : Int)] w fun e w' => e = .returned (.bool (inHostB c)) ∧ w = w' := by
  have e : Hid (inHostB c = (smallB c || digitB c || decide (c = 45) || decide (c = 46))) := rfl
  have c1 := Lib.hid (small_walk c)
  have c2 := Lib.hid (digit_walk c)
  cases h1 : smallB c <;> rw [h1] at c1 e
  · cases h2 : digitB c <;> rw [h2] at c2 e
    · have b4 : ((c : Int) == 45) = decide (c = 45) := beq_lit c 45
      have b5 : ((c : Int) == 46) = decide (c = 46) := beq_lit c 46
      cases h4 : decide (c = 45) <;> cases h5 : decide (c = 46) <;> rw [h4] at b4 e <;> rw [h5] at b5 e <;> clear h4 h5
      all_goals
        go_enter Tryz.func78, Tryz.ntmps78
        go_wp2_with fail
        refine (c1.out _).mono ?_
        rintro _ w1 ⟨rfl, rfl⟩
        go_wp2_with fail
        refine (c2.out _).mono ?_
        rintro _ w1 ⟨rfl, rfl⟩
        go_wp2_with fail
        all_goals
          go_ret
          refine ⟨?_, rfl⟩
          rw [e.out]
          first | rfl | simp
    · go_enter Tryz.func78, Tryz.ntmps78
      go_wp2_with fail
      refine (c1.out _).mono ?_
      rintro _ w1 ⟨rfl, rfl⟩
      go_wp2_with fail
      refine (c2.out _).mono ?_
      rintro _ w1 ⟨rfl, rfl⟩
      go_wp2_with fail
      go_ret
      exact ⟨by rw [e.out]; simp, rfl⟩
  · go_enter Tryz.func78, Tryz.ntmps78
    go_wp2_with fail
    refine (c1.out _).mono ?_
    rintro _ w1 ⟨rfl, rfl⟩
    go_wp2_with fail
    go_ret
    exact ⟨by rw [e.out]; simp, rfl⟩
theorem inPath_walk (c : Nat) (w : World) : Calls Tryz.prog 97 #[.int .u8 (c : Int)] w fun e w' => e = .returned (.bool (inPathB c)) ∧ w = w' := by
  have e : Hid (inPathB c = (plainB c || decide (c = 47))) := rfl
  have c1 := Lib.hid (plain_walk c)
  cases h1 : plainB c <;> rw [h1] at c1 e
  · have b4 : ((c : Int) == 47) = decide (c = 47) := beq_lit c 47
    cases h4 : decide (c = 47) <;> rw [h4] at b4 e <;> clear h4
    all_goals
      go_enter Tryz.func97, Tryz.ntmps97
      go_wp2_with fail
      refine (c1.out _).mono ?_
      rintro _ w1 ⟨rfl, rfl⟩
      go_wp2_with fail
      all_goals
        go_ret
        refine ⟨?_, rfl⟩
        rw [e.out]
        first | rfl | simp
  · go_enter Tryz.func97, Tryz.ntmps97
    go_wp2_with fail
    refine (c1.out _).mono ?_
    rintro _ w1 ⟨rfl, rfl⟩
    go_wp2_with fail
    go_ret
    exact ⟨by rw [e.out]; simp, rfl⟩
theorem tells_host : TellsC 78 inHostB := ⟨fun _ _ => by kernel_rfl, fun c w _ => inHost_walk c w⟩
theorem tells_path : TellsC 97 inPathB := ⟨fun _ _ => by kernel_rfl, fun c w _ => inPath_walk c w⟩
theorem hosted_walk (h p : List UInt8) (w : World) (hm : h.length ≤ 1000000) :
    Calls Tryz.prog 63 #[.agg #[.string ⟨h.toArray⟩, .string ⟨p.toArray⟩]] w fun e w' => e = .returned (.bool (hostB h)) ∧ Below w.heap.size w w' := by
  have hb := Lib.hid ((Below.refl w.heap.size w).alloc (Nat.le_refl _) (.cells #[.string ⟨h.toArray⟩, .string ⟨p.toArray⟩] 84))
  have ca := Lib.hid (fun W => all_walk _ _ tells_host ⟨h.toArray⟩ h (by simp) W (by rw [size_mks]; exact hm))
  have hs := size_mks h
  by_cases h0 : h = []
  · have hv : Hid (hostB h = false) := by show _ = _; rw [h0]; rfl
    subst h0
    go_enter Tryz.func63, Tryz.ntmps63
    go_wp2_with fail
    go_ret
    exact ⟨by rw [hv.out]; rfl, hb.out⟩
  · have hn1 : h.isEmpty = false := by cases h with | nil => exact absurd rfl h0 | cons _ _ => rfl
    have hl1 : 1 ≤ h.length := by cases h with | nil => exact absurd rfl h0 | cons _ _ => simp
    by_cases h64 : h.length ≤ 64
    · have hv : Hid (hostB h = h.all fun b => inHostB b.toNat) := by show _ = _; rw [hostB, decide_eq_true hl1, decide_eq_true h64]; rfl
      have hd : decide ((h.length : Int) ≤ 64) = true := by simp; omega
      clear hm
      go_enter Tryz.func63, Tryz.ntmps63
      go_wp2_with fail
      refine (ca.out _).mono ?_
      rintro _ w2 ⟨rfl, rfl⟩
      go_wp2_with fail
      go_ret
      exact ⟨by rw [hv.out]; rfl, hb.out⟩
    · have hv : Hid (hostB h = false) := by show _ = _; rw [hostB, decide_eq_false h64]; simp
      have hd : decide ((h.length : Int) ≤ 64) = false := by simp; omega
      clear hm
      go_enter Tryz.func63, Tryz.ntmps63
      go_wp2_with fail
      go_ret
      exact ⟨by rw [hv.out]; rfl, hb.out⟩
theorem pref_slash (l : List UInt8) : Lib.hasPrefix l [47] = (l.head? == some 47) := by
  cases l with
  | nil => rfl
  | cons x r =>
    rw [Bool.eq_iff_iff]
    simp only [Lib.hasPrefix, List.isPrefixOf, Bool.and_true, beq_iff_eq, List.head?_cons, Option.some.injEq]
    exact eq_comm
theorem pathed_walk (h p : List UInt8) (w : World) (hm : p.length ≤ 1000000) :
    Calls Tryz.prog 80 #[.agg #[.string ⟨h.toArray⟩, .string ⟨p.toArray⟩]] w fun e w' => e = .returned (.bool (pathB p)) ∧ Below w.heap.size w w' := by
  have hb := Lib.hid ((Below.refl w.heap.size w).alloc (Nat.le_refl _) (.cells #[.string ⟨h.toArray⟩, .string ⟨p.toArray⟩] 84))
  have ca := Lib.hid (fun W => all_walk _ _ tells_path ⟨p.toArray⟩ p (by simp) W (by rw [size_mks]; exact hm))
  have cp := Lib.hid (fun W => Tryz.strings_HasPrefix ⟨p.toArray⟩ ⟨#[47]⟩ W)
  rw [show Lib.hasPrefix (⟨p.toArray⟩ : ByteArray).data.toList (⟨#[47]⟩ : ByteArray).data.toList = (p.head? == some 47) from pref_slash p] at cp
  have hv : Hid (pathB p = ((p.head? == some 47) && p.all fun b => inPathB b.toNat)) := rfl
  cases hh : (p.head? == some 47) with
  | false =>
    rw [hh] at cp hv
    clear hh
    go_enter Tryz.func80, Tryz.ntmps80
    go_wp2_with fail
    refine (cp.out _).mono ?_
    rintro _ w2 ⟨rfl, rfl⟩
    go_wp2_with fail
    go_ret
    exact ⟨by rw [hv.out]; rfl, hb.out⟩
  | true =>
    rw [hh] at cp hv
    clear hh
    go_enter Tryz.func80, Tryz.ntmps80
    go_wp2_with fail
    refine (cp.out _).mono ?_
    rintro _ w2 ⟨rfl, rfl⟩
    go_wp2_with fail
    refine (ca.out _).mono ?_
    rintro _ w3 ⟨rfl, rfl⟩
    go_wp2_with fail
    go_ret
    exact ⟨by rw [hv.out]; rfl, hb.out⟩
end
section
open Go.RowKit Pc
theorem boxF {g : Nat} {f : Fl} {W : World} (h : Blk W g 90 f.arr) : Blk W g 90 f.arr ∧ W.cell? ⟨g, 0, none⟩ = some (.string ⟨f.n.toArray⟩) := ⟨h, h.cell 0⟩
theorem strVs_snoc (ps : List (List UInt8)) (q : List UInt8) : strVs (ps ++ [q]) = strVs ps ++ [.string ⟨q.toArray⟩] := by simp [strVs, strV]
theorem strVs_len (ps : List (List UInt8)) : (strVs ps).length = ps.length := by simp [strVs]
end
section
open Go.RowKit Pc
theorem unlikeP_step {fs : List Fl} {k : Nat} {f : Fl} (h : UnlikeP (fs.take k)) (hf : fs[k]? = some f) (h1 : f.n ≠ []) (h2 : ((fs.take k).map Fl.n).contains f.n = false) : UnlikeP (fs.take (k + 1)) := by
  rw [List.take_add_one, hf]
  refine unlikeP_snoc h h1 ?_
  rw [hasF, Bool.eq_false_iff]
  intro hh
  rw [List.any_eq_true] at hh
  obtain ⟨g, hg, he⟩ := hh
  rw [Bool.eq_false_iff] at h2
  apply h2
  rw [List.contains_iff_mem, List.mem_map]
  exact ⟨g, hg, by simpa using he⟩
theorem unlikeP_bad {fs : List Fl} {k : Nat} {f : Fl} (hf : fs[k]? = some f) (h : f.n = [] ∨ ((fs.take k).map Fl.n).contains f.n = true) : ¬ UnlikeP fs := by
  intro hu
  obtain ⟨h1, h2⟩ := hu k f hf
  rcases h with h | h
  · exact h1 h
  · rw [List.contains_iff_mem, List.mem_map] at h
    obtain ⟨g, hg, he⟩ := h
    rw [hasF, Bool.eq_false_iff] at h2
    apply h2
    rw [List.any_eq_true]
    exact ⟨g, hg, by simpa using he⟩
theorem map_take_succ (fs : List Fl) (k : Nat) (f : Fl) (h : fs[k]? = some f) : (fs.take (k + 1)).map Fl.n = (fs.take k).map Fl.n ++ [f.n] := by
  rw [List.take_add_one, h]; simp
end
section
open Go.RowKit Pc
def Ur.arr (u : Ur) (A : Option Addr) (c : Nat) : Array Value := #[.string ⟨u.h.toArray⟩, .string ⟨u.p.toArray⟩, .slice A u.q.length c]
/-- an address that is not long, its query in memory -/
def UrAt (w : World) (A : Option Addr) (c : Nat) (u : Ur) : Prop := FsAt w A c u.q ∧ u.h.length ≤ 10000 ∧ u.p.length ≤ 10000 ∧ sumF u.q ≤ 10000
theorem UrAt.below {w w' : World} {A : Option Addr} {c : Nat} {u : Ur} (h : UrAt w A c u) (hb : Below w.heap.size w w') : UrAt w' A c u := ⟨h.1.below hb, h.2⟩
theorem UrAt.drewN {w : World} {A : Option Addr} {c : Nat} {u : Ur} (h : UrAt w A c u) (q : Nat) : UrAt (w.drewN q) A c u := h
theorem UrAt.fs {w : World} {A : Option Addr} {c : Nat} {u : Ur} (h : UrAt w A c u) : FsAt w A c u.q := h.1
theorem boxU {g : Nat} {u : Ur} {A : Option Addr} {c : Nat} {W : World} (h : Blk W g 60 (u.arr A c)) :
    Blk W g 60 (u.arr A c) ∧ W.cell? ⟨g, 0, none⟩ = some (.string ⟨u.h.toArray⟩) ∧ W.cell? ⟨g, 1, none⟩ = some (.string ⟨u.p.toArray⟩) ∧ W.cell? ⟨g, 2, none⟩ = some (.slice A u.q.length c) := ⟨h, h.cell 0, h.cell 1, h.cell 2⟩
theorem ur_size : (Tryz.prog.info? 60).map (·.size) = some 3 := by kernel_rfl
theorem ur_at {g : Nat} {u : Ur} {A : Option Addr} {c : Nat} {W : World} (h : Blk W g 60 (u.arr A c)) : ∀ j v, (u.arr A c).toList[j]? = some v → W.cell? ((⟨g, 0, none⟩ : Addr).add j) = some v := by
  intro j v hv
  rw [show ((⟨g, 0, none⟩ : Addr).add j) = ⟨g, j, none⟩ by unfold Addr.add; split <;> simp_all, h.cell j]
  simpa using hv
theorem yieldsIf_load_ur {ops : Array Oper} {S : World → Prop} {op : Oper} {a : Act} (hw : Region.wanted op (yielded ops a.tmps) = true) (x : Operand) (ho : op.op = .load 60 x)
    (g : Nat) (hx : a.eval x = .pointer (some ⟨g, 0, none⟩)) (u : Ur) (A : Option Addr) (c : Nat) (hS : ∀ w, S w → Blk w g 60 (u.arr A c)) : YieldsIf Tryz.prog ops S op (.agg (u.arr A c)) a :=
  .inl ⟨hw, fun w hw' => by
    unfold execOp
    simp only [ho, hx, Instr.loadAt, Instr.sureAddr, Sem.run_bind, Sem.run_pure, Result.andThen_ok, run_loadVar_at w ⟨g, 0, none⟩ 60 (u.arr A c).toList _ (ur_at (hS w hw')) Tryz.underlying60 rfl ur_size]⟩
theorem wpList_load_ur {ops : Array Oper} {rest : List Oper} {o : Oper} {a : Act} {w : World} {Q : Exit → Act → World → Prop} (hgd : o.guard = none) (x : Operand) (ho : o.op = .load 60 x)
    (g : Nat) (hx : a.eval x = .pointer (some ⟨g, 0, none⟩)) (u : Ur) (A : Option Addr) (c : Nat) (hb : Blk w g 60 (u.arr A c))
    (h : wpList Tryz.prog ops Q rest (a.put o.dst (.agg (u.arr A c))) w) : wpList Tryz.prog ops Q (o :: rest) a w :=
  wpList_load_at hgd 60 x ho ⟨g, 0, none⟩ hx (u.arr A c).toList _ (ur_at hb) Tryz.underlying60 rfl ur_size h
theorem target_len (u : Ur) : (targetL u).length ≤ u.p.length + 1 + 3 * sumF u.q + 2 * u.q.length := by
  unfold targetL
  split
  · omega
  · rw [List.length_append, List.length_cons]
    have := printL_len u.q
    omega
end
section
open Go.RowKit Pc
theorem all_upto {l : List UInt8} {p : Nat → Bool} {k b : Nat} (h : ∀ j, j < k → p (l.getD j 0).toNat = true) (hb : (l.getD k 0).toNat = b) (hp : p b = true) : ∀ j, j < k + 1 → p (l.getD j 0).toNat = true := by
  intro j hj
  rcases Nat.lt_or_ge j k with h1 | h1
  · exact h j h1
  · rw [show j = k by omega, hb]; exact hp
set_option maxHeartbeats 8000000 in
theorem rhost_walk (s : ByteArray) (l : List UInt8) (hs : s.data.toList = l) (w : World) (hm : s.size ≤ 1000000) :
    Calls Tryz.prog 46 #[.string s] w fun e w' => e = .returned (.bool (hostB l)) ∧ w = w' := by
  have hsz : l.length = s.size := by rw [← hs, Lib.size_eq]
  go_enter Tryz.func46, Tryz.ntmps46
  go_wp2_with fail
  go_loopw [3] (fun nv wr => ∃ k : Nat, k ≤ s.size ∧ nv = .int .i64 k ∧ Hid (∀ j, j < k → inHostB (l.getD j 0).toNat = true) ∧ w = wr) (fun nv _ => s.size - (intOf nv).toNat)
  case atStart => exact ⟨0, by omega, rfl, fun j hj => by omega, rfl⟩
  case round =>
    obtain ⟨k, hk, rfl, hp, rfl⟩ := hrel
    by_cases hlt : k < s.size
    · obtain ⟨b, eb, hb, hb2⟩ : ∃ b : Nat, (s[k]'hlt).toNat = b ∧ Hid ((l.getD k 0).toNat = b) ∧ b < 256 := ⟨_, str_at hs hlt, rfl, (l.getD k 0).toNat_lt⟩
      have cd := Lib.hid (rdigit_walk b)
      have hD : Hid (inHostB b = (smallB b || digitB b || decide (b = 45) || decide (b = 46))) := rfl
      have hS : Hid (smallB b = (decide (97 ≤ b) && decide (b ≤ 122))) := rfl
      by_cases h12 : 97 ≤ b ∧ b ≤ 122
      · obtain ⟨h1, h2⟩ := h12
        have HN : Hid (∀ j, j < k + 1 → inHostB (l.getD j 0).toNat = true) := all_upto hp.out hb.out (by rw [hD.out, hS.out, decide_eq_true h1, decide_eq_true h2]; simp)
        go_wp2_with fail
        exact ⟨⟨k + 1, by omega, by go_num, HN, trivial⟩, by simp [intOf]; omega⟩
      · have hsm : Hid (smallB b = false) := by
          show _ = _
          rw [hS.out]
          by_cases q : 97 ≤ b
          · rw [decide_eq_false (show ¬ b ≤ 122 from fun e => h12 ⟨q, e⟩)]; simp
          · rw [decide_eq_false q]; rfl
        have b4 : ((b : Int) == 45) = decide (b = 45) := beq_lit b 45
        have b5 : ((b : Int) == 46) = decide (b = 46) := beq_lit b 46
        have n4 : ((b : Int) != 45) = !((b : Int) == 45) := rfl
        have n5 : ((b : Int) != 46) = !((b : Int) == 46) := rfl
        rw [b4] at n4
        rw [b5] at n5
        have h1x : ¬ 97 ≤ b ∨ 97 ≤ b ∧ ¬ b ≤ 122 := by omega
        clear h12
        cases hd : digitB b <;> rw [hd] at cd hD
        · cases h4 : decide (b = 45) <;> cases h5 : decide (b = 46) <;> rw [h4] at b4 hD n4 <;> rw [h5] at b5 hD n5 <;> simp only [Bool.not_true, Bool.not_false] at n4 n5 <;> clear h4 h5
          · have hv : Hid (hostB l = false) := by
              show _ = _
              rw [hostB, all_no (k := k) (by omega) (by rw [hb.out, hD.out, hsm.out]; rfl)]
              simp
            have n6 : (((b : Int) != 45) && ((b : Int) != 46)) = true := by rw [n4, n5]; rfl
            have n7 : ¬ (b : Int) = 45 := by intro e; rw [e] at b4; cases b4
            have n8 : ¬ (b : Int) = 46 := by intro e; rw [e] at b5; cases b5
            rcases h1x with h1 | ⟨h1, h2⟩
            · have d0 : decide ((97 : Int) ≤ (b : Int)) = false := by simp; omega
              go_wp2_with fail
              refine (cd.out _).mono ?_
              rintro _ w1 ⟨rfl, rfl⟩
              go_wp2_with fail
              go_ret
              exact ⟨by rw [hv.out]; rfl, rfl⟩
            · have d0 : decide ((97 : Int) ≤ (b : Int)) = true := by simp; omega
              have d1 : decide ((b : Int) ≤ 122) = false := by simp; omega
              go_wp2_with fail
              refine (cd.out _).mono ?_
              rintro _ w1 ⟨rfl, rfl⟩
              go_wp2_with fail
              go_ret
              exact ⟨by rw [hv.out]; rfl, rfl⟩
          all_goals
            have HN : Hid (∀ j, j < k + 1 → inHostB (l.getD j 0).toNat = true) := all_upto hp.out hb.out (by rw [hD.out]; simp)
            rcases h1x with h1 | ⟨h1, h2⟩
            · have d0 : decide ((97 : Int) ≤ (b : Int)) = false := by simp; omega
              go_wp2_with fail
              refine (cd.out _).mono ?_
              rintro _ w1 ⟨rfl, rfl⟩
              go_wp2_with fail
              exact ⟨⟨k + 1, by omega, by go_num, HN, trivial⟩, by simp [intOf]; omega⟩
            · have d0 : decide ((97 : Int) ≤ (b : Int)) = true := by simp; omega
              have d1 : decide ((b : Int) ≤ 122) = false := by simp; omega
              go_wp2_with fail
              refine (cd.out _).mono ?_
              rintro _ w1 ⟨rfl, rfl⟩
              go_wp2_with fail
              exact ⟨⟨k + 1, by omega, by go_num, HN, trivial⟩, by simp [intOf]; omega⟩
        · have HN : Hid (∀ j, j < k + 1 → inHostB (l.getD j 0).toNat = true) := all_upto hp.out hb.out (by rw [hD.out]; simp)
          rcases h1x with h1 | ⟨h1, h2⟩
          · have d0 : decide ((97 : Int) ≤ (b : Int)) = false := by simp; omega
            go_wp2_with fail
            refine (cd.out _).mono ?_
            rintro _ w1 ⟨rfl, rfl⟩
            go_wp2_with fail
            exact ⟨⟨k + 1, by omega, by go_num, HN, trivial⟩, by simp [intOf]; omega⟩
          · have d0 : decide ((97 : Int) ≤ (b : Int)) = true := by simp; omega
            have d1 : decide ((b : Int) ≤ 122) = false := by simp; omega
            go_wp2_with fail
            refine (cd.out _).mono ?_
            rintro _ w1 ⟨rfl, rfl⟩
            go_wp2_with fail
            exact ⟨⟨k + 1, by omega, by go_num, HN, trivial⟩, by simp [intOf]; omega⟩
    · obtain rfl : k = s.size := by omega
      have ha : Hid ((l.all fun b => inHostB b.toNat) = true) := all_yes (fun j hj => hp.out j (by omega))
      have hv : Hid (hostB l = (decide (1 ≤ s.size) && decide (s.size ≤ 64))) := by show _ = _; rw [hostB, ha.out, hsz]; simp
      by_cases h1 : 1 ≤ s.size
      · by_cases h2 : s.size ≤ 64
        · have hd1 : decide ((1 : Int) ≤ (s.size : Int)) = true := by simp; omega
          have hd2 : decide ((s.size : Int) ≤ 64) = true := by simp; omega
          rw [decide_eq_true h1, decide_eq_true h2] at hv
          go_wp2_with fail
          go_ret
          exact ⟨by rw [hv.out]; rfl, rfl⟩
        · have hd1 : decide ((1 : Int) ≤ (s.size : Int)) = true := by simp; omega
          have hd2 : decide ((s.size : Int) ≤ 64) = false := by simp; omega
          rw [decide_eq_true h1, decide_eq_false h2] at hv
          go_wp2_with fail
          go_ret
          exact ⟨by rw [hv.out]; rfl, rfl⟩
      · have hd1 : decide ((1 : Int) ≤ (s.size : Int)) = false := by simp; omega
        rw [decide_eq_false h1] at hv
        go_wp2_with fail
        go_ret
        exact ⟨by rw [hv.out]; rfl, rfl⟩
set_option maxHeartbeats 8000000 in
theorem rpath_walk (s : ByteArray) (l : List UInt8) (hs : s.data.toList = l) (w : World) (hm : s.size ≤ 1000000) :
    Calls Tryz.prog 52 #[.string s] w fun e w' => e = .returned (.bool (pathB l)) ∧ w = w' := by
  have hsz : l.length = s.size := by rw [← hs, Lib.size_eq]
  go_enter Tryz.func52, Tryz.ntmps52
  go_wp2_with fail
  go_loopw [3] (fun nv wr => ∃ k : Nat, k ≤ s.size ∧ nv = .int .i64 k ∧ Hid (∀ j, j < k → inPathB (l.getD j 0).toNat = true) ∧ w = wr) (fun nv _ => s.size - (intOf nv).toNat)
  case atStart => exact ⟨0, by omega, rfl, fun j hj => by omega, rfl⟩
  case round =>
    obtain ⟨k, hk, rfl, hp, rfl⟩ := hrel
    by_cases hlt : k < s.size
    · obtain ⟨b, eb, hb, hb2⟩ : ∃ b : Nat, (s[k]'hlt).toNat = b ∧ Hid ((l.getD k 0).toNat = b) ∧ b < 256 := ⟨_, str_at hs hlt, rfl, (l.getD k 0).toNat_lt⟩
      have cd := Lib.hid (rplain_walk b)
      rw [rplain_eq ⟨b, hb2⟩] at cd
      have hD : Hid (inPathB b = (plainB b || decide (b = 47))) := rfl
      have b4 : ((b : Int) == 47) = decide (b = 47) := beq_lit b 47
      cases hd : plainB b <;> rw [hd] at cd hD
      · cases h4 : decide (b = 47) <;> rw [h4] at b4 hD <;> clear h4
        · have hv : Hid (pathB l = false) := by
            show _ = _
            rw [pathB, all_no (k := k) (by omega) (by rw [hb.out, hD.out]; rfl)]
            simp
          go_wp2_with fail
          refine (cd.out _).mono ?_
          rintro _ w1 ⟨rfl, rfl⟩
          go_wp2_with fail
          go_ret
          exact ⟨by rw [hv.out]; rfl, rfl⟩
        · have HN : Hid (∀ j, j < k + 1 → inPathB (l.getD j 0).toNat = true) := all_upto hp.out hb.out (by rw [hD.out]; simp)
          go_wp2_with fail
          refine (cd.out _).mono ?_
          rintro _ w1 ⟨rfl, rfl⟩
          go_wp2_with fail
          exact ⟨⟨k + 1, by omega, by go_num, HN, trivial⟩, by simp [intOf]; omega⟩
      · have HN : Hid (∀ j, j < k + 1 → inPathB (l.getD j 0).toNat = true) := all_upto hp.out hb.out (by rw [hD.out]; simp)
        go_wp2_with fail
        refine (cd.out _).mono ?_
        rintro _ w1 ⟨rfl, rfl⟩
        go_wp2_with fail
        exact ⟨⟨k + 1, by omega, by go_num, HN, trivial⟩, by simp [intOf]; omega⟩
    · obtain rfl : k = s.size := by omega
      have ha : Hid ((l.all fun b => inPathB b.toNat) = true) := all_yes (fun j hj => hp.out j (by omega))
      have hv : Hid (pathB l = (l.head? == some 47)) := by show _ = _; rw [pathB, ha.out]; simp
      by_cases h1 : 1 ≤ s.size
      · have hlt0 : 0 < s.size := h1
        have hd1 : decide ((1 : Int) ≤ (s.size : Int)) = true := by simp; omega
        obtain ⟨b, eb, hb, hb2⟩ : ∃ b : Nat, (s[0]'hlt0).toNat = b ∧ Hid ((l.getD 0 0).toNat = b) ∧ b < 256 := ⟨_, str_at hs hlt0, rfl, (l.getD 0 0).toNat_lt⟩
        have hh : Hid ((l.head? == some 47) = decide (b = 47)) := by
          show _ = _
          cases hl : l with
          | nil => rw [hl] at hsz; simp at hsz; omega
          | cons x r =>
            have hbx : x.toNat = b := by rw [← hb.out, hl]; rfl
            rw [← hbx, Bool.eq_iff_iff]
            simp
            constructor
            · intro e; rw [e]; rfl
            · intro e; exact UInt8.toNat_inj.1 e
        have b4 : ((b : Int) == 47) = decide (b = 47) := beq_lit b 47
        cases h4 : decide (b = 47) <;> rw [h4] at b4 hh <;> clear h4
        all_goals
          go_wp2_with fail
          go_ret
          exact ⟨by rw [hv.out, hh.out]; rfl, rfl⟩
      · have hd1 : decide ((1 : Int) ≤ (s.size : Int)) = false := by simp; omega
        have hh : Hid ((l.head? == some 47) = false) := by
          show _ = _
          cases l with
          | nil => rfl
          | cons _ _ => simp at hsz; omega
        go_wp2_with fail
        go_ret
        exact ⟨by rw [hv.out, hh.out]; rfl, rfl⟩
end
section
open Go.RowKit Pc
theorem mayB_false {u : Ur} (h : hostB u.h = false ∨ pathB u.p = false ∨ 24 < u.q.length ∨ unlikeQ u.q = false) : mayB u = false := by
  rw [mayB]
  rcases h with h | h | h | h
  · rw [h]; simp
  · rw [h]; simp
  · rw [decide_eq_false (by omega : ¬ u.q.length ≤ 24)]; simp
  · rw [h]; simp
theorem mayB_last {u : Ur} (hh : hostB u.h = true) (hp : pathB u.p = true) (h24 : u.q.length ≤ 24) (hun : unlikeQ u.q = true) : mayB u = decide ((8 : Int) + (u.h.length : Int) + ((targetL u).length : Int) ≤ 1024) := by
  rw [mayB, hh, hp, hun, decide_eq_true h24, Bool.eq_iff_iff]
  simp
  omega
def targetE (u : Ur) : List UInt8 := if mayB u = true then targetL u else []
def printE (u : Ur) : List UInt8 := if mayB u = true then uriL u else []
end
section
open Go.RowKit Pc
end
section
open Go.RowKit Pc
/-- what a target comes back as -/
def SplitU (l : List UInt8) (w : World) (e : Ending) (w' : World) : Prop :=
  ∃ v, e = .returned (.tuple #[.string ⟨(splitE l).2.1.toArray⟩, v, .int .i64 (splitE l).1]) ∧ w'.ownsRow w.heap.size 90 2 v (splitE l).2.2.length (fCells (splitE l).2.2) ∧ Below w.heap.size w w'
theorem SplitU.err {l : List UInt8} {w w' : World} (n : Nat) (hn : splitE l = (n, [], [])) (hb : Below w.heap.size w w') : SplitU l w (.returned (.tuple #[.string ⟨#[]⟩, .slice none 0 0, .int .i64 n])) w' := by
  refine ⟨.slice none 0 0, by rw [hn], ?_, hb⟩
  rw [hn]
  exact World.ownsRow_nil _ _ _ _
set_option maxHeartbeats 8000000 in
theorem usplit_walk (s : ByteArray) (l : List UInt8) (hs : s.data.toList = l) (w : World) (hd : DigOk w) (hm : s.size ≤ 1000000) :
    Calls Tryz.prog 64 #[.string s] w (SplitU l w) := by
  have hsz : l.length = s.size := by rw [← hs, Lib.size_eq]
  have HD := Lib.hid hd
  clear hd
  by_cases h1 : 1024 < s.size
  · have hv : Hid (splitE l = (4, [], [])) := if_pos (by omega)
    have hdd : decide ((1024 : Int) < (s.size : Int)) = true := by simp; omega
    clear hs
    go_enter Tryz.func64, Tryz.ntmps64
    go_wp2_with fail
    go_ret3
    exact SplitU.err 4 hv.out (Below.refl _ _)
  have hdd : decide ((1024 : Int) < (s.size : Int)) = false := by simp; omega
  have hv : splitE l = restE (cutA l (cutP 63 l)) (cutB (cutP 63 l)) (cutP 63 l).isSome := if_neg (by omega)
  have cc := Lib.hid (fun W => scut_walk s l hs 63 W hm)
  have hla : (cutA l (cutP 63 l)).length ≤ l.length ∧ (cutB (cutP 63 l)).length ≤ l.length := by
    cases hp : cutP 63 l with
    | none => exact ⟨Nat.le_refl _, Nat.zero_le _⟩
    | some p => exact cutP_len hp
  have hnb : (cutP 63 l).isSome = false → cutB (cutP 63 l) = [] := by
    cases hp : cutP 63 l with
    | none => exact fun _ => rfl
    | some p => intro h; cases h
  rw [show cutV l (cutP 63 l) = .tuple #[.string ⟨(cutA l (cutP 63 l)).toArray⟩, .string ⟨(cutB (cutP 63 l)).toArray⟩, .bool (cutP 63 l).isSome] from rfl] at cc
  generalize cutA l (cutP 63 l) = a at cc hv hla
  generalize cutB (cutP 63 l) = b at cc hv hla hnb
  generalize (cutP 63 l).isSome = q at cc hv hnb
  obtain ⟨hla, hlb⟩ := hla
  have cp := Lib.hid (show ∀ W, Calls Tryz.prog 80 #[.agg #[.string ⟨#[]⟩, .string ⟨a.toArray⟩]] W fun e w' => e = .returned (.bool (pathB a)) ∧ Below W.heap.size W w' from fun W => pathed_walk [] a W (by omega))
  have cf := Lib.hid (fun W h => parse_walk ⟨b.toArray⟩ b (by simp) W h (by rw [size_mks]; omega))
  cases hp : pathB a with
  | false =>
    have HV : Hid (splitE l = (3, [], [])) := by show _ = _; rw [hv, restE, if_pos (.inl hp)]
    rw [hp] at cp
    clear hp hv hs hnb
    go_enter Tryz.func64, Tryz.ntmps64
    go_wp2_with fail
    refine (cc.out _).mono ?_
    rintro _ w1 ⟨rfl, n1, rfl⟩
    go_wp2_with fail
    refine (cp.out _).mono ?_
    rintro _ w2 ⟨rfl, hbn⟩
    have hb2 := below_next (below_drewN (Below.refl w.heap.size w) n1) hbn
    go_wp2_with fail
    go_ret3
    exact SplitU.err 3 HV.out hb2
  | true =>
    rw [hp] at cp
    by_cases hq : q = true ∧ b = []
    · have HV : Hid (splitE l = (3, [], [])) := by show _ = _; rw [hv, restE, if_pos (.inr hq)]
      obtain ⟨rfl, rfl⟩ := hq
      clear hp hv hs hnb
      go_enter Tryz.func64, Tryz.ntmps64
      go_wp2_with fail
      refine (cc.out _).mono ?_
      rintro _ w1 ⟨rfl, n1, rfl⟩
      go_wp2_with fail
      refine (cp.out _).mono ?_
      rintro _ w2 ⟨rfl, hbn⟩
      have hb2 := below_next (below_drewN (Below.refl w.heap.size w) n1) hbn
      go_wp2_with fail
      go_ret3
      exact SplitU.err 3 HV.out hb2
    · have hv2 : splitE l = if (formE b).1 = 0 then (0, a, (formE b).2) else ((formE b).1, [], []) := by
        rw [hv, restE, if_neg]
        rintro (h | h)
        · rw [hp] at h; cases h
        · exact hq h
      have hq2 : q = false ∨ q = true ∧ b.isEmpty = false := by
        cases q with
        | false => exact .inl rfl
        | true =>
          right
          refine ⟨rfl, ?_⟩
          cases b with
          | nil => exact absurd ⟨rfl, rfl⟩ hq
          | cons _ _ => rfl
      have HV := Lib.hid hv2
      have HE : Hid ((formE b).1 ≠ 0 → (formE b).2 = []) := formE_err
      clear hp hv hs hv2 hq hnb
      by_cases h0 : (formE b).1 = 0
      · have HV0 : Hid (splitE l = (0, a, (formE b).2)) := by show _ = _; rw [HV.out, if_pos h0]
        rcases hq2 with rfl | ⟨rfl, hbe⟩
        all_goals
          go_enter Tryz.func64, Tryz.ntmps64
          go_wp2_with fail
          refine (cc.out _).mono ?_
          rintro _ w1 ⟨rfl, n1, rfl⟩
          go_wp2_with fail
          refine (cp.out _).mono ?_
          rintro _ w2 ⟨rfl, hbn⟩
          have hb2 := below_next (below_drewN (Below.refl w.heap.size w) n1) hbn
          clear hbn
          go_wp2_with fail
          refine (cf.out _ (HD.out.below hb2)).mono ?_
          rintro _ w3 ⟨v, rfl, hown, hbn⟩
          have HB3 := Lib.hid (below_next hb2 hbn)
          have HO := Lib.hid hown
          have hsw := hb2.size
          rw [h0]
          clear hbn hown
          go_wp2_with fail
          go_ret3
          refine ⟨v, by rw [HV0.out]; rfl, ?_, HB3.out⟩
          rw [HV0.out]
          exact World.ownsRow.mono HO.out hsw
      · have HV0 : Hid (splitE l = ((formE b).1, [], [])) := by show _ = _; rw [HV.out, if_neg h0]
        have h0a : (((formE b).1 : Int) != 0) = true := by rw [bne_iff_ne]; omega
        have h0b : (((formE b).1 : Int) == 0) = false := by rw [beq_eq_false_iff_ne]; omega
        have h0c : ¬ ((formE b).1 : Int) = 0 := by omega
        clear h0
        rcases hq2 with rfl | ⟨rfl, hbe⟩
        all_goals
          go_enter Tryz.func64, Tryz.ntmps64
          go_wp2_with fail
          refine (cc.out _).mono ?_
          rintro _ w1 ⟨rfl, n1, rfl⟩
          go_wp2_with fail
          refine (cp.out _).mono ?_
          rintro _ w2 ⟨rfl, hbn⟩
          have hb2 := below_next (below_drewN (Below.refl w.heap.size w) n1) hbn
          clear hbn
          go_wp2_with fail
          refine (cf.out _ (HD.out.below hb2)).mono ?_
          rintro _ w3 ⟨v, rfl, _, hbn⟩
          have HB3 := Lib.hid (below_next hb2 hbn)
          clear hbn
          go_wp2_with fail
          go_ret3
          exact SplitU.err _ HV0.out HB3.out
end
section
open Go.RowKit Pc
theorem wp_store_blk {P : Program} {op : Oper} {a : Act} {w : World} {K : Act → World → Prop} {Q : Exit → Act → World → Prop} (ty : TypeId) (x y : Operand) (ho : op.op = .store ty x y)
    (g : Nat) (cur cells : Array Value) (t : TypeId) (hx : a.eval x = .pointer (some ⟨g, 0, none⟩)) (hy : a.eval y = .agg cells) (hb : Blk w g t cur) (hs : cur.size = cells.size)
    (hi : (P.info? ty).map (·.size) = some cells.size) (h1 : cells.all (·.oneCell') = true)
    (h : K (a.put op.dst undef) (w.setRow g cells)) : op.wp P a w K Q := by
  refine wp_store_mid ty x y ho g 0 cells hx hy (fun j hj => ?_) hi h1 ?_
  · rw [show 0 + j = j by omega, hb.cell]
    exact ⟨by rw [Array.getElem?_eq_getElem (by omega)]; rfl, hb.frozen j⟩
  · rw [setCells_row g t cells.toList 0 _ cur hb, putAll_whole _ _ (by simpa using hs)]
    simpa using h
def placeA (a b : List UInt8) : Array Value := #[.string ⟨a.toArray⟩, .string ⟨b.toArray⟩]
theorem placeA_ones (a b : List UInt8) : (placeA a b).all (·.oneCell') = true := by
  rw [Array.all_eq_true_iff_forall_mem]
  intro v hv
  simp [placeA] at hv
  rcases hv with rfl | rfl <;> rfl
theorem place_size : (Tryz.prog.info? 84).map (·.size) = some 2 := by kernel_rfl
def cutE (l : List UInt8) : List UInt8 × List UInt8 :=
  if l.take 8 = schemeL then match cutP 47 (l.drop 8) with
    | some p => (p.1, 47 :: p.2)
    | none => ([], [])
  else ([], [])
theorem pref_scheme (l : List UInt8) : Lib.hasPrefix l schemeL = decide (l.take 8 = schemeL) := by
  rw [Lib.hasPrefix, Bool.eq_iff_iff, decide_eq_true_eq, List.isPrefixOf_iff_prefix, List.prefix_iff_eq_take]
  exact eq_comm
set_option maxHeartbeats 8000000 in
theorem cut_walk (s : ByteArray) (l : List UInt8) (hs : s.data.toList = l) (w : World) (hm : s.size ≤ 1000000) :
    Calls Tryz.prog 62 #[.string s] w fun e w' => e = .returned (.agg (placeA (cutE l).1 (cutE l).2)) ∧ Below w.heap.size w w' := by
  have hsz : l.length = s.size := by rw [← hs, Lib.size_eq]
  have HB0 := Lib.hid ((Below.refl w.heap.size w).alloc (Nat.le_refl _) (.cells (placeA [] []) 84))
  have HK0 := Lib.hid (Blk.new w 84 (placeA [] []))
  have hz : (#[.string ⟨#[]⟩, .string ⟨#[]⟩] : Array Value) = placeA [] [] := rfl
  have cc := Lib.hid (fun W => Tryz.strings_CutPrefix s ⟨#[104, 116, 116, 112, 115, 58, 47, 47]⟩ W)
  rw [hs, show (⟨#[104, 116, 116, 112, 115, 58, 47, 47]⟩ : ByteArray).data.toList = schemeL from rfl, pref_scheme] at cc
  by_cases h8 : l.take 8 = schemeL
  · have ht : Lib.trimPrefix l schemeL = l.drop 8 := by rw [Lib.trimPrefix, pref_scheme, if_pos (by simpa using h8)]; rfl
    rw [ht, decide_eq_true h8] at cc
    have hdl : (l.drop 8).length ≤ s.size := by rw [List.length_drop]; omega
    obtain ⟨r, hr⟩ : ∃ r, l.drop 8 = r := ⟨_, rfl⟩
    have hC : cutE l = match cutP 47 r with | some p => (p.1, 47 :: p.2) | none => ([], []) := by rw [cutE, if_pos h8, hr]
    rw [hr] at cc hdl
    have ci := Lib.hid (fun W => Tryz.strings_IndexByte ⟨r.toArray⟩ 47 W)
    rw [show (⟨r.toArray⟩ : ByteArray).data.toList = r by simp, show (47 : Int).toNat.toUInt8 = 47 from rfl] at ci
    have hrs := size_mks r
    clear ht hr h8 hs
    rcases Int.lt_or_le (Lib.indexByte r 47) 0 with h0 | h0
    · have hge := Lib.indexByte_ge r 47
      have h1 : Lib.indexByte r 47 = -1 := by omega
      have hv : Hid (cutE l = ([], [])) := by show _ = _; rw [hC, cutP_none 47 r (Lib.indexByte_none h1)]
      rw [h1] at ci
      clear h0 hge h1 hC
      go_enter Tryz.func62, Tryz.ntmps62
      go_wp2_with fail
      refine (cc.out _).mono ?_
      rintro _ w2 ⟨rfl, rfl⟩
      go_wp2_with fail
      refine (ci.out _).mono ?_
      rintro _ w3 ⟨rfl, rfl⟩
      go_wp2_with (refine wpList_store_blk rfl 84 _ _ rfl w.heap.size (placeA [] []) (placeA [] []) _ rfl rfl HK0.out rfl place_size (placeA_ones _ _) ?_)
      refine bodyPost_ret (results_cell_row Tryz.results62 _ _ w.heap.size _ _ _ _ rfl HK0.out.setRow Tryz.underlying84 rfl (by kernel_rfl)) rfl ⟨?_, below_setRow HB0.out (Nat.le_refl _) _⟩
      rw [hv.out]
    · obtain ⟨m, hm2⟩ := Int.eq_ofNat_of_zero_le h0
      obtain ⟨h1, h2⟩ := Lib.indexByte_some hm2
      have hml := (List.getElem?_eq_some_iff.1 h1).1
      have hv : Hid (cutE l = (r.take m, 47 :: r.drop (m + 1))) := by show _ = _; rw [hC, cutP_at 47 r m h1 h2]
      have hd : r.drop m = 47 :: r.drop (m + 1) := by
        rw [List.drop_eq_getElem_cons hml]
        congr 1
        exact (List.getElem?_eq_some_iff.1 h1).2
      rw [hm2] at ci
      have hd1 : ((⟨r.toArray⟩ : ByteArray).extract 0 m).data.toList = r.take m := by rw [Lib.extract_data]; simp
      have hd2 : ((⟨r.toArray⟩ : ByteArray).extract m (⟨r.toArray⟩ : ByteArray).size).data.toList = 47 :: r.drop (m + 1) := by rw [Lib.extract_to_end, ← hd]
      have hst1 := Lib.hid (str_eta _ _ hd1)
      have hst2 := Lib.hid (str_eta _ _ hd2)
      have b1 : m < r.length := hml
      have b2 : (m : Int) ≤ (r.length : Int) := by omega
      clear h0 hm2 h1 h2 hC hd hd1 hd2 hml
      go_enter Tryz.func62, Tryz.ntmps62
      go_wp2_with fail
      refine (cc.out _).mono ?_
      rintro _ w2 ⟨rfl, rfl⟩
      go_wp2_with fail
      refine (ci.out _).mono ?_
      rintro _ w3 ⟨rfl, rfl⟩
      have hcells : Hid ((#[.string ((⟨r.toArray⟩ : ByteArray).extract 0 m), .string ((⟨r.toArray⟩ : ByteArray).extract m (⟨r.toArray⟩ : ByteArray).size)] : Array Value) = placeA (r.take m) (47 :: r.drop (m + 1))) := by
        show _ = _
        rw [hst1.out, hst2.out]
        rfl
      go_wp2_with fail
      clear hz
      refine wp_region_held_drew (S := fun _ => True) (by kernel_rfl) trivial (fun hHeld => ?_)
      first | (refine wpAnyH_take (i := 0) (v := _) rfl (by kernel_rfl) (by kernel_rfl) (by kernel_rfl) (fun _ _ _ h => h) (Or.inr ⟨?_, rfl⟩) (by assumption) ?_; rfl) | (refine wpAnyH_take (i := 0) (v := ?_) rfl (by kernel_rfl) (by kernel_rfl) (by kernel_rfl) (fun _ _ _ h => h) (Or.inl ⟨?_, ?_⟩) (by assumption) ?_; rotate_left; rfl; focus (intro w hSw; (try dsimp only at hSw); go_simp; all_goals (with_reducible rfl)))
      (try simp only [List.getElem_toArray, List.getElem_cons_zero, List.getElem_cons_succ, Act.put, List.setIfInBounds_toArray, List.set_cons_zero, List.set_cons_succ])
      first | (refine wpAnyH_take (i := 1) (v := _) rfl (by kernel_rfl) (by kernel_rfl) (by kernel_rfl) (fun _ _ _ h => h) (Or.inr ⟨?_, rfl⟩) (by assumption) ?_; rfl) | (refine wpAnyH_take (i := 1) (v := ?_) rfl (by kernel_rfl) (by kernel_rfl) (by kernel_rfl) (fun _ _ _ h => h) (Or.inl ⟨?_, ?_⟩) (by assumption) ?_; rotate_left; rfl; focus (intro w hSw; (try dsimp only at hSw); go_simp; all_goals (with_reducible rfl)))
      (try simp only [List.getElem_toArray, List.getElem_cons_zero, List.getElem_cons_succ, Act.put, List.setIfInBounds_toArray, List.set_cons_zero, List.set_cons_succ])
      first | (refine wpAnyH_take (i := 2) (v := _) rfl (by kernel_rfl) (by kernel_rfl) (by kernel_rfl) (fun _ _ _ h => h) (Or.inr ⟨?_, rfl⟩) (by assumption) ?_; rfl) | (refine wpAnyH_take (i := 2) (v := ?_) rfl (by kernel_rfl) (by kernel_rfl) (by kernel_rfl) (fun _ _ _ h => h) (Or.inl ⟨?_, ?_⟩) (by assumption) ?_; rotate_left; rfl; focus (intro w hSw; (try dsimp only at hSw); go_simp; all_goals (with_reducible rfl)))
      (try simp only [List.getElem_toArray, List.getElem_cons_zero, List.getElem_cons_succ, Act.put, List.setIfInBounds_toArray, List.set_cons_zero, List.set_cons_succ])
      first | (refine wpAnyH_take (i := 3) (v := _) rfl (by kernel_rfl) (by kernel_rfl) (by kernel_rfl) (fun _ _ _ h => h) (Or.inr ⟨?_, rfl⟩) (by assumption) ?_; rfl) | (refine wpAnyH_take (i := 3) (v := ?_) rfl (by kernel_rfl) (by kernel_rfl) (by kernel_rfl) (fun _ _ _ h => h) (Or.inl ⟨?_, ?_⟩) (by assumption) ?_; rotate_left; rfl; focus (intro w hSw; (try dsimp only at hSw); go_simp; all_goals (with_reducible rfl)))
      (try simp only [List.getElem_toArray, List.getElem_cons_zero, List.getElem_cons_succ, Act.put, List.setIfInBounds_toArray, List.set_cons_zero, List.set_cons_succ])
      first | (refine wpAnyH_take (i := 4) (v := _) rfl (by kernel_rfl) (by kernel_rfl) (by kernel_rfl) (fun _ _ _ h => h) (Or.inr ⟨?_, rfl⟩) (by assumption) ?_; rfl) | (refine wpAnyH_take (i := 4) (v := ?_) rfl (by kernel_rfl) (by kernel_rfl) (by kernel_rfl) (fun _ _ _ h => h) (Or.inl ⟨?_, ?_⟩) (by assumption) ?_; rotate_left; rfl; focus (intro w hSw; (try dsimp only at hSw); go_simp; all_goals (with_reducible rfl)))
      (try simp only [List.getElem_toArray, List.getElem_cons_zero, List.getElem_cons_succ, Act.put, List.setIfInBounds_toArray, List.set_cons_zero, List.set_cons_succ])
      first | (refine wpAnyH_take (i := 5) (v := _) rfl (by kernel_rfl) (by kernel_rfl) (by kernel_rfl) (fun _ _ _ h => h) (Or.inr ⟨?_, rfl⟩) (by assumption) ?_; rfl) | (refine wpAnyH_take (i := 5) (v := ?_) rfl (by kernel_rfl) (by kernel_rfl) (by kernel_rfl) (fun _ _ _ h => h) (Or.inl ⟨?_, ?_⟩) (by assumption) ?_; rotate_left; rfl; focus (intro w hSw; (try dsimp only at hSw); go_simp; all_goals (with_reducible rfl)))
      (try simp only [List.getElem_toArray, List.getElem_cons_zero, List.getElem_cons_succ, Act.put, List.setIfInBounds_toArray, List.set_cons_zero, List.set_cons_succ])
      first | (refine wpAnyH_take (i := 6) (v := _) rfl (by kernel_rfl) (by kernel_rfl) (by kernel_rfl) (fun _ _ _ h => h) (Or.inr ⟨?_, rfl⟩) (by assumption) ?_; rfl) | (refine wpAnyH_take (i := 6) (v := ?_) rfl (by kernel_rfl) (by kernel_rfl) (by kernel_rfl) (fun _ _ _ h => h) (Or.inl ⟨?_, ?_⟩) (by assumption) ?_; rotate_left; rfl; focus (intro w hSw; (try dsimp only at hSw); go_simp; all_goals (with_reducible rfl)))
      (try simp only [List.getElem_toArray, List.getElem_cons_zero, List.getElem_cons_succ, Act.put, List.setIfInBounds_toArray, List.set_cons_zero, List.set_cons_succ])
      refine wpAnyH_ready (rs := [7]) (by kernel_rfl) (by simp) ?_
      refine AllReadyH.cons rfl (fun K hK => ?_) AllReadyH.nil
      rw [if_pos (by rfl)]
      refine wp_store_blk 84 _ _ rfl w.heap.size (placeA [] []) #[.string ((⟨r.toArray⟩ : ByteArray).extract 0 m), .string ((⟨r.toArray⟩ : ByteArray).extract m (⟨r.toArray⟩ : ByteArray).size)] _ rfl rfl HK0.out.drew rfl place_size (by rw [hcells.out]; exact placeA_ones _ _) ?_
      refine hK.out _ _ trivial (fun hHeld => ?_)
      clear hK K
      (try simp only [List.getElem_toArray, List.getElem_cons_zero, List.getElem_cons_succ, Act.put, List.setIfInBounds_toArray, List.set_cons_zero, List.set_cons_succ])
      refine wpAnyH_done (by kernel_rfl) ?_ _
      go_wp2_with fail
      rw [hcells.out]
      refine bodyPost_ret (results_cell_row Tryz.results62 _ _ w.heap.size _ _ _ _ rfl HK0.out.drew.setRow Tryz.underlying84 rfl (by kernel_rfl)) rfl ⟨?_, below_setRow HB0.out.drew (Nat.le_refl _) _⟩
      rw [hv.out]
  · have hv : Hid (cutE l = ([], [])) := by show _ = _; rw [cutE, if_neg h8]
    rw [decide_eq_false h8] at cc
    clear h8 hs
    have ci := Lib.hid (fun X W => Tryz.strings_IndexByte X 47 W)
    go_enter Tryz.func62, Tryz.ntmps62
    go_wp2_with fail
    refine (cc.out _).mono ?_
    rintro _ w2 ⟨rfl, rfl⟩
    go_wp2_with fail
    refine (ci.out _ _).mono ?_
    rintro _ w3 ⟨rfl, rfl⟩
    go_wp2_with (refine wpList_store_blk rfl 84 _ _ rfl w.heap.size (placeA [] []) (placeA [] []) _ rfl rfl HK0.out rfl place_size (placeA_ones _ _) ?_)
    refine bodyPost_ret (results_cell_row Tryz.results62 _ _ w.heap.size _ _ _ _ rfl HK0.out.setRow Tryz.underlying84 rfl (by kernel_rfl)) rfl ⟨?_, below_setRow HB0.out (Nat.le_refl _) _⟩
    rw [hv.out]
end
section
open Go.RowKit Pc
set_option maxRecDepth 100000 in
set_option maxHeartbeats 4000000 in
theorem place_eq (a b : List UInt8) (W : World) : (Op.equalIn 10000 84 (.agg #[.string ⟨a.toArray⟩, .string ⟨b.toArray⟩]) (.agg #[.string ⟨#[]⟩, .string ⟨#[]⟩])).run Tryz.prog W = .ok (decide (a = [] ∧ b = [])) W := by
  have hs1 : Tryz.prog.stoodInHeld 84 = false := by kernel_rfl
  have hf1 : Tryz.prog.underlying 84 = some (.struct (Tryz.prog.fieldsOf 84)) := by kernel_rfl
  rw [run_equalIn_struct W 9999 _ _ _ hf1 hs1]
  rw [show (Tryz.prog.fieldsOf 84).toList = _ from (by unfold Program.fieldsOf; rw [Tryz.underlying84])]
  have k1 := tl_injL (a := a) (b := [])
  have k2 := tl_injL (a := b) (b := [])
  have e0 : (⟨([] : List UInt8).toArray⟩ : ByteArray) = ⟨#[]⟩ := rfl
  rw [e0] at k1 k2
  generalize hx1 : (⟨a.toArray⟩ : ByteArray).toList = x1 at k1
  generalize hx2 : (⟨b.toArray⟩ : ByteArray).toList = x2 at k2
  generalize hy1 : (⟨#[]⟩ : ByteArray).toList = y1 at k1 k2
  have j1 : x1 = y1 ↔ a = [] := ⟨k1, fun e => by rw [← hx1, e, e0, hy1]⟩
  have j2 : x2 = y1 ↔ b = [] := ⟨k2, fun e => by rw [← hx2, e, e0, hy1]⟩
  simp [go_sem, Tryz.underlying9, hx1, hx2, hy1]
  by_cases g0 : a = []
  · by_cases g1 : b = []
    · simp [j1, j2, g0, g1]
    · simp [j1, j2, g0, g1]
  · simp [j1, j2, g0]
theorem eql_place (a b : List UInt8) (W : World) : (binOp .eql 84 (.agg #[.string ⟨a.toArray⟩, .string ⟨b.toArray⟩]) (.agg #[.string ⟨#[]⟩, .string ⟨#[]⟩])).run Tryz.prog W = .ok (.bool (decide (a = [] ∧ b = []))) W := by
  rw [run_eql_struct, place_eq]
  rfl
/-- what an address's text comes back as -/
def UriR (l : List UInt8) (w : World) (e : Ending) (w' : World) : Prop :=
  ∃ A c, e = .returned (.tuple #[.agg ((uriE l).2.arr A c), .int .i64 (uriE l).1]) ∧ FsAt w' A c (uriE l).2.q ∧ Below w.heap.size w w'
theorem ones3 (u : Ur) (A : Option Addr) (c : Nat) : (u.arr A c).all (·.oneCell') = true := by
  rw [Array.all_eq_true_iff_forall_mem]
  intro v hv
  simp [Ur.arr] at hv
  rcases hv with rfl | rfl | rfl <;> rfl
theorem results_ur_t {fn : Func} {p t : Tmp} (h : fn.results = #[.cell p 60, .tmp t]) (tmps : Array Value) (w : World) (g : Nat) (u : Ur) (A : Option Addr) (c : Nat)
    (hp : tmps.getD p undef = .pointer (some ⟨g, 0, none⟩)) (hb : Blk w g 60 (u.arr A c)) : (results fn tmps).run Tryz.prog w = .ok (.tuple #[.agg (u.arr A c), tmps.getD t undef]) w := by
  have hp' : tmps[p]?.getD undef = .pointer (some ⟨g, 0, none⟩) := by simpa using hp
  simp [results, h, hp', asAddr, run_loadVar_row w g 60 60 (u.arr A c) (0, 0) _ hb Tryz.underlying60 rfl ur_size]
theorem UriR.err {l : List UInt8} {w w' : World} (n : Nat) (hn : uriE l = (n, ⟨[], [], []⟩)) (hb : Below w.heap.size w w') : UriR l w (.returned (.tuple #[.agg ((Ur.mk [] [] []).arr none 0), .int .i64 n])) w' :=
  ⟨none, 0, by rw [hn], by rw [hn]; exact FsAt.none_ _ _ _, hb⟩
theorem cut_uri (l : List UInt8) (h : ¬ 1024 < l.length) : (hostB (cutE l).1 = false → uriE l = (3, ⟨[], [], []⟩)) ∧ (hostB (cutE l).1 = true → uriE l = if (splitE (cutE l).2).1 = 0 then (0, ⟨(cutE l).1, (splitE (cutE l).2).2.1, (splitE (cutE l).2).2.2⟩) else ((splitE (cutE l).2).1, ⟨[], [], []⟩)) := by
  unfold uriE cutE
  rw [if_neg h]
  split
  · cases hp : cutP 47 (l.drop 8) with
    | none => exact ⟨fun _ => rfl, fun e => by cases e⟩
    | some p =>
      simp only
      constructor
      · intro e; rw [if_pos e]
      · intro e; rw [if_neg (by rw [e]; simp)]
  · exact ⟨fun _ => rfl, fun e => by cases e⟩
theorem cutE_len (l : List UInt8) : (cutE l).1.length ≤ l.length ∧ (cutE l).2.length ≤ l.length := by
  unfold cutE
  split
  · cases hp : cutP 47 (l.drop 8) with
    | none => simp
    | some p =>
      have h := cutP_is 47 _ p hp
      have hl := congrArg List.length h
      rw [List.length_drop, List.length_append, List.length_cons] at hl
      simp only [List.length_cons]
      omega
  · simp
theorem splitE_len (l : List UInt8) : (splitE l).2.2.length ≤ 1000000 := by
  by_cases h : (splitE l).1 = 0
  · have := (splitE_ok h).2.2.1; omega
  · rw [splitE_err h]; simp
set_option maxHeartbeats 16000000 in
theorem uparse_walk (s : ByteArray) (l : List UInt8) (hs : s.data.toList = l) (w : World) (hd : DigOk w) (hm : s.size ≤ 1000000) :
    Calls Tryz.prog 51 #[.string s] w (UriR l w) := by
  have hsz : l.length = s.size := by rw [← hs, Lib.size_eq]
  have HD := Lib.hid hd
  have HB0 := Lib.hid ((Below.refl w.heap.size w).alloc (Nat.le_refl _) (.cells ((Ur.mk [] [] []).arr none 0) 60))
  have HK0 := Lib.hid (Blk.new w 60 ((Ur.mk [] [] []).arr none 0))
  have hz : (#[.string ⟨#[]⟩, .string ⟨#[]⟩, .slice none 0 0] : Array Value) = (Ur.mk [] [] []).arr none 0 := rfl
  clear hd
  by_cases h1 : 1024 < s.size
  · have hv : Hid (uriE l = (4, ⟨[], [], []⟩)) := if_pos (by omega)
    have hdd : decide ((1024 : Int) < (s.size : Int)) = true := by simp; omega
    clear hs
    go_enter Tryz.func51, Tryz.ntmps51
    go_wp2_with (refine wpList_store_blk rfl 60 _ _ rfl w.heap.size ((Ur.mk [] [] []).arr none 0) ((Ur.mk [] [] []).arr none 0) _ rfl rfl HK0.out rfl ur_size (ones3 _ _ _) ?_)
    refine bodyPost_ret (results_ur_t Tryz.results51 _ _ w.heap.size _ _ _ rfl HK0.out.setRow) rfl ?_
    exact UriR.err 4 hv.out (below_setRow HB0.out (Nat.le_refl _) _)
  have hdd : decide ((1024 : Int) < (s.size : Int)) = false := by simp; omega
  obtain ⟨hv1, hv2⟩ := cut_uri l (by omega)
  obtain ⟨hl1, hl2⟩ := cutE_len l
  have cc := Lib.hid (fun W => cut_walk s l hs W hm)
  generalize cutE l = ab at hv1 hv2 hl1 hl2 cc
  obtain ⟨a, b⟩ := ab
  simp only at hv1 hv2 hl1 hl2 cc
  rw [show placeA a b = #[.string ⟨a.toArray⟩, .string ⟨b.toArray⟩] from rfl] at cc
  have ch := Lib.hid (fun W => hosted_walk a b W (by omega))
  have hpl := fun W : World => eql_place a b W
  have hqg : Tryz.prog.eqGuardType Tryz.prog.depth 84 = false := by kernel_rfl
  have cu := Lib.hid (fun W hd2 => usplit_walk ⟨b.toArray⟩ b (by simp) W hd2 (by rw [size_mks]; omega))
  cases hh : hostB a with
  | false =>
    have HV := Lib.hid (hv1 hh)
    rw [hh] at ch
    clear hv1 hv2 hs hh
    by_cases h00 : a = [] ∧ b = []
    · rw [decide_eq_true h00] at hpl
      clear h00
      go_enter Tryz.func51, Tryz.ntmps51
      go_wp2_with fail
      refine (cc.out _).mono ?_
      rintro _ w1 ⟨rfl, hbn⟩
      have HB1 := Lib.hid (below_next HB0.out hbn)
      have HK1 := Lib.hid (HK0.out.below hbn HK0.out.lt)
      have HB2 := Lib.hid (HB1.out.alloc HB1.out.size (.cells #[.string ⟨a.toArray⟩, .string ⟨b.toArray⟩] 84))
      have HK2 := Lib.hid (HK1.out.alloc (.cells #[.string ⟨a.toArray⟩, .string ⟨b.toArray⟩] 84))
      have HP2 := Lib.hid (Blk.new w1 84 #[.string ⟨a.toArray⟩, .string ⟨b.toArray⟩])
      clear hbn
      go_wp2_with (refine wpList_store_blk rfl 60 _ _ rfl w.heap.size ((Ur.mk [] [] []).arr none 0) ((Ur.mk [] [] []).arr none 0) _ rfl rfl HK2.out rfl ur_size (ones3 _ _ _) ?_)
      refine bodyPost_ret (results_ur_t Tryz.results51 _ _ w.heap.size _ _ _ rfl HK2.out.setRow) rfl ?_
      exact UriR.err 3 HV.out (below_setRow HB2.out (Nat.le_refl _) _)
    · rw [decide_eq_false h00] at hpl
      clear h00
      go_enter Tryz.func51, Tryz.ntmps51
      go_wp2_with fail
      refine (cc.out _).mono ?_
      rintro _ w1 ⟨rfl, hbn⟩
      have HB1 := Lib.hid (below_next HB0.out hbn)
      have HK1 := Lib.hid (HK0.out.below hbn HK0.out.lt)
      have HB2 := Lib.hid (HB1.out.alloc HB1.out.size (.cells #[.string ⟨a.toArray⟩, .string ⟨b.toArray⟩] 84))
      have HK2 := Lib.hid (HK1.out.alloc (.cells #[.string ⟨a.toArray⟩, .string ⟨b.toArray⟩] 84))
      have HP2 := Lib.hid (Blk.new w1 84 #[.string ⟨a.toArray⟩, .string ⟨b.toArray⟩])
      clear hbn
      go_wp2_with fail
      refine (ch.out _).mono ?_
      rintro _ w3 ⟨rfl, hbn⟩
      have HB3 := Lib.hid (below_next HB2.out hbn)
      have HK3 := Lib.hid (HK2.out.below hbn HK2.out.lt)
      have HP3 := Lib.hid (HP2.out.below hbn HP2.out.lt)
      have hp0 : w3.cell? ⟨w1.heap.size, 0, none⟩ = some (.string ⟨a.toArray⟩) := HP3.out.cell 0
      have hp1 : w3.cell? ⟨w1.heap.size, 1, none⟩ = some (.string ⟨b.toArray⟩) := HP3.out.cell 1
      have hlt3 := HP3.out.lt
      clear hbn
      go_wp2_with (refine wpList_store_blk rfl 60 _ _ rfl w.heap.size ((Ur.mk [] [] []).arr none 0) ((Ur.mk [] [] []).arr none 0) _ rfl rfl HK3.out rfl ur_size (ones3 _ _ _) ?_)
      refine bodyPost_ret (results_ur_t Tryz.results51 _ _ w.heap.size _ _ _ rfl HK3.out.setRow) rfl ?_
      exact UriR.err 3 HV.out (below_setRow HB3.out (Nat.le_refl _) _)
  | true =>
    have HV0 := hv2 hh
    have h00 : ¬ (a = [] ∧ b = []) := by rintro ⟨rfl, _⟩; cases hh
    rw [hh] at ch
    rw [decide_eq_false h00] at hpl
    have HL : Hid ((splitE b).2.2.length ≤ 1000000) := splitE_len b
    by_cases h0 : (splitE b).1 = 0
    · have HV : Hid (uriE l = (0, ⟨a, (splitE b).2.1, (splitE b).2.2⟩)) := by show _ = _; rw [HV0, if_pos h0]
      clear hv1 hv2 hs hh h00 HV0
      go_enter Tryz.func51, Tryz.ntmps51
      go_wp2_with fail
      refine (cc.out _).mono ?_
      rintro _ w1 ⟨rfl, hbn⟩
      have HB1 := Lib.hid (below_next HB0.out hbn)
      have HK1 := Lib.hid (HK0.out.below hbn HK0.out.lt)
      have HB2 := Lib.hid (HB1.out.alloc HB1.out.size (.cells #[.string ⟨a.toArray⟩, .string ⟨b.toArray⟩] 84))
      have HK2 := Lib.hid (HK1.out.alloc (.cells #[.string ⟨a.toArray⟩, .string ⟨b.toArray⟩] 84))
      have HP2 := Lib.hid (Blk.new w1 84 #[.string ⟨a.toArray⟩, .string ⟨b.toArray⟩])
      clear hbn
      go_wp2_with fail
      refine (ch.out _).mono ?_
      rintro _ w3 ⟨rfl, hbn⟩
      have HB3 := Lib.hid (below_next HB2.out hbn)
      have HK3 := Lib.hid (HK2.out.below hbn HK2.out.lt)
      have HP3 := Lib.hid (HP2.out.below hbn HP2.out.lt)
      have hp0 : w3.cell? ⟨w1.heap.size, 0, none⟩ = some (.string ⟨a.toArray⟩) := HP3.out.cell 0
      have hp1 : w3.cell? ⟨w1.heap.size, 1, none⟩ = some (.string ⟨b.toArray⟩) := HP3.out.cell 1
      have hlt3 := HP3.out.lt
      clear hbn
      go_wp2_with fail
      refine (cu.out _ (HD.out.below HB3.out)).mono ?_
      rintro _ w4 ⟨v, rfl, hown, hbn⟩
      have HB4 := Lib.hid (below_next HB3.out hbn)
      have HK4 := Lib.hid (HK3.out.below hbn HK3.out.lt)
      have hp2 : w4.cell? ⟨w1.heap.size, 0, none⟩ = some (.string ⟨a.toArray⟩) := (hbn.cell hlt3).trans hp0
      clear hp0 hp1
      rw [h0]
      obtain ⟨A4, c4, rfl, hf4⟩ := FsAt.own hown HL.out
      have HO := Lib.hid hown
      clear hown hf4 h0 hbn
      go_wp2_with (refine wpList_store_blk rfl 60 _ _ rfl w.heap.size ((Ur.mk [] [] []).arr none 0) ((Ur.mk a (splitE b).2.1 (splitE b).2.2).arr A4 c4) _ rfl rfl HK4.out rfl ur_size (ones3 _ _ _) ?_)
      refine bodyPost_ret (results_ur_t Tryz.results51 _ _ w.heap.size _ _ _ rfl HK4.out.setRow) rfl ?_
      refine ⟨A4, c4, by rw [HV.out]; rfl, ?_, below_setRow HB4.out (Nat.le_refl _) _⟩
      rw [HV.out]
      obtain ⟨A5, c5, e5, hf5⟩ := FsAt.own (World.ownsRow.kept HO.out (setRow_only w4 w.heap.size ((Ur.mk a (splitE b).2.1 (splitE b).2.2).arr A4 c4)) (.inr (fun e => by have := (World.ownsRow.lt HO.out _ e).1; have := HK3.out.lt; omega))) HL.out
      injection e5 with eA _ ec
      subst eA ec
      exact hf5
    · have HV : Hid (uriE l = ((splitE b).1, ⟨[], [], []⟩)) := by show _ = _; rw [HV0, if_neg h0]
      have h0a : (((splitE b).1 : Int) != 0) = true := by rw [bne_iff_ne]; omega
      have h0b : (((splitE b).1 : Int) == 0) = false := by rw [beq_eq_false_iff_ne]; omega
      have h0c : ¬ ((splitE b).1 : Int) = 0 := by omega
      clear hv1 hv2 hs hh h00 HV0 h0
      go_enter Tryz.func51, Tryz.ntmps51
      go_wp2_with fail
      refine (cc.out _).mono ?_
      rintro _ w1 ⟨rfl, hbn⟩
      have HB1 := Lib.hid (below_next HB0.out hbn)
      have HK1 := Lib.hid (HK0.out.below hbn HK0.out.lt)
      have HB2 := Lib.hid (HB1.out.alloc HB1.out.size (.cells #[.string ⟨a.toArray⟩, .string ⟨b.toArray⟩] 84))
      have HK2 := Lib.hid (HK1.out.alloc (.cells #[.string ⟨a.toArray⟩, .string ⟨b.toArray⟩] 84))
      have HP2 := Lib.hid (Blk.new w1 84 #[.string ⟨a.toArray⟩, .string ⟨b.toArray⟩])
      clear hbn
      go_wp2_with fail
      refine (ch.out _).mono ?_
      rintro _ w3 ⟨rfl, hbn⟩
      have HB3 := Lib.hid (below_next HB2.out hbn)
      have HK3 := Lib.hid (HK2.out.below hbn HK2.out.lt)
      have HP3 := Lib.hid (HP2.out.below hbn HP2.out.lt)
      have hp0 : w3.cell? ⟨w1.heap.size, 0, none⟩ = some (.string ⟨a.toArray⟩) := HP3.out.cell 0
      have hp1 : w3.cell? ⟨w1.heap.size, 1, none⟩ = some (.string ⟨b.toArray⟩) := HP3.out.cell 1
      have hlt3 := HP3.out.lt
      clear hbn
      go_wp2_with fail
      refine (cu.out _ (HD.out.below HB3.out)).mono ?_
      rintro _ w4 ⟨v, rfl, hown, hbn⟩
      have HB4 := Lib.hid (below_next HB3.out hbn)
      have HK4 := Lib.hid (HK3.out.below hbn HK3.out.lt)
      have hp2 : w4.cell? ⟨w1.heap.size, 0, none⟩ = some (.string ⟨a.toArray⟩) := (hbn.cell hlt3).trans hp0
      clear hp0 hp1
      clear hown hbn
      go_wp2_with (refine wpList_store_blk rfl 60 _ _ rfl w.heap.size ((Ur.mk [] [] []).arr none 0) ((Ur.mk [] [] []).arr none 0) _ rfl rfl HK4.out rfl ur_size (ones3 _ _ _) ?_)
      refine bodyPost_ret (results_ur_t Tryz.results51 _ _ w.heap.size _ _ _ rfl HK4.out.setRow) rfl ?_
      exact UriR.err _ HV.out (below_setRow HB4.out (Nat.le_refl _) _)
end
section
open Go.RowKit Pc
set_option maxHeartbeats 8000000 in
theorem rsplit_walk (s : ByteArray) (l : List UInt8) (hs : s.data.toList = l) (w : World) (hm : s.size ≤ 1000000) :
    Calls Tryz.prog 47 #[.string s] w (SplitU l w) := by
  have hsz : l.length = s.size := by rw [← hs, Lib.size_eq]
  by_cases h1 : 1024 < s.size
  · have hv : Hid (splitE l = (4, [], [])) := if_pos (by omega)
    have hdd : decide ((1024 : Int) < (s.size : Int)) = true := by simp; omega
    clear hs
    go_enter Tryz.func47, Tryz.ntmps47
    go_wp2_with fail
    go_ret3
    exact SplitU.err 4 hv.out (Below.refl _ _)
  have hdd : decide ((1024 : Int) < (s.size : Int)) = false := by simp; omega
  have hv : splitE l = restE (cutA l (cutP 63 l)) (cutB (cutP 63 l)) (cutP 63 l).isSome := if_neg (by omega)
  have cc := Lib.hid (fun W => rcut_walk s l hs 63 W hm)
  have hla : (cutA l (cutP 63 l)).length ≤ l.length ∧ (cutB (cutP 63 l)).length ≤ l.length := by
    cases hp : cutP 63 l with
    | none => exact ⟨Nat.le_refl _, Nat.zero_le _⟩
    | some p => exact cutP_len hp
  have hnb : (cutP 63 l).isSome = false → cutB (cutP 63 l) = [] := by
    cases hp : cutP 63 l with
    | none => exact fun _ => rfl
    | some p => intro h; cases h
  rw [show cutV l (cutP 63 l) = .tuple #[.string ⟨(cutA l (cutP 63 l)).toArray⟩, .string ⟨(cutB (cutP 63 l)).toArray⟩, .bool (cutP 63 l).isSome] from rfl] at cc
  generalize cutA l (cutP 63 l) = a at cc hv hla
  generalize cutB (cutP 63 l) = b at cc hv hla hnb
  generalize (cutP 63 l).isSome = q at cc hv hnb
  obtain ⟨hla, hlb⟩ := hla
  have cp := Lib.hid (show ∀ W, Calls Tryz.prog 52 #[.string ⟨a.toArray⟩] W fun e w' => e = .returned (.bool (pathB a)) ∧ W = w' from fun W => rpath_walk ⟨a.toArray⟩ a (by simp) W (by rw [size_mks]; omega))
  have cf := Lib.hid (fun W => rparse_walk ⟨b.toArray⟩ b (by simp) W (by rw [size_mks]; omega))
  cases hp : pathB a with
  | false =>
    have HV : Hid (splitE l = (3, [], [])) := by show _ = _; rw [hv, restE, if_pos (.inl hp)]
    rw [hp] at cp
    clear hp hv hs hnb
    go_enter Tryz.func47, Tryz.ntmps47
    go_wp2_with fail
    refine (cc.out _).mono ?_
    rintro _ w1 ⟨rfl, n1, rfl⟩
    have hb2 := below_drewN (Below.refl w.heap.size w) n1
    go_wp2_with fail
    refine (cp.out _).mono ?_
    rintro _ w2 ⟨rfl, rfl⟩
    go_wp2_with fail
    go_ret3
    exact SplitU.err 3 HV.out hb2
  | true =>
    rw [hp] at cp
    by_cases hq : q = true ∧ b = []
    · have HV : Hid (splitE l = (3, [], [])) := by show _ = _; rw [hv, restE, if_pos (.inr hq)]
      obtain ⟨rfl, rfl⟩ := hq
      clear hp hv hs hnb
      go_enter Tryz.func47, Tryz.ntmps47
      go_wp2_with fail
      refine (cc.out _).mono ?_
      rintro _ w1 ⟨rfl, n1, rfl⟩
      have hb2 := below_drewN (Below.refl w.heap.size w) n1
      go_wp2_with fail
      refine (cp.out _).mono ?_
      rintro _ w2 ⟨rfl, rfl⟩
      go_wp2_with fail
      go_ret3
      exact SplitU.err 3 HV.out hb2
    · have hv2 : splitE l = if (formE b).1 = 0 then (0, a, (formE b).2) else ((formE b).1, [], []) := by
        rw [hv, restE, if_neg]
        rintro (h | h)
        · rw [hp] at h; cases h
        · exact hq h
      have hq2 : q = false ∨ q = true ∧ b.isEmpty = false := by
        cases q with
        | false => exact .inl rfl
        | true =>
          right
          refine ⟨rfl, ?_⟩
          cases b with
          | nil => exact absurd ⟨rfl, rfl⟩ hq
          | cons _ _ => rfl
      have HV := Lib.hid hv2
      have HE : Hid ((formE b).1 ≠ 0 → (formE b).2 = []) := formE_err
      clear hp hv hs hv2 hq hnb
      by_cases h0 : (formE b).1 = 0
      · have HV0 : Hid (splitE l = (0, a, (formE b).2)) := by show _ = _; rw [HV.out, if_pos h0]
        rcases hq2 with rfl | ⟨rfl, hbe⟩
        all_goals
          go_enter Tryz.func47, Tryz.ntmps47
          go_wp2_with fail
          refine (cc.out _).mono ?_
          rintro _ w1 ⟨rfl, n1, rfl⟩
          have hb2 := below_drewN (Below.refl w.heap.size w) n1
          go_wp2_with fail
          refine (cp.out _).mono ?_
          rintro _ w2 ⟨rfl, rfl⟩
          go_wp2_with fail
          refine (cf.out _).mono ?_
          rintro _ w3 ⟨v, rfl, hown, hbn⟩
          have HB3 := Lib.hid (below_next hb2 hbn)
          have HO := Lib.hid hown
          have hsw := hb2.size
          rw [h0]
          clear hbn hown
          go_wp2_with fail
          go_ret3
          refine ⟨v, by rw [HV0.out]; rfl, ?_, HB3.out⟩
          rw [HV0.out]
          exact World.ownsRow.mono HO.out hsw
      · have HV0 : Hid (splitE l = ((formE b).1, [], [])) := by show _ = _; rw [HV.out, if_neg h0]
        have h0a : (((formE b).1 : Int) != 0) = true := by rw [bne_iff_ne]; omega
        have h0b : (((formE b).1 : Int) == 0) = false := by rw [beq_eq_false_iff_ne]; omega
        have h0c : ¬ ((formE b).1 : Int) = 0 := by omega
        clear h0
        rcases hq2 with rfl | ⟨rfl, hbe⟩
        all_goals
          go_enter Tryz.func47, Tryz.ntmps47
          go_wp2_with fail
          refine (cc.out _).mono ?_
          rintro _ w1 ⟨rfl, n1, rfl⟩
          have hb2 := below_drewN (Below.refl w.heap.size w) n1
          go_wp2_with fail
          refine (cp.out _).mono ?_
          rintro _ w2 ⟨rfl, rfl⟩
          go_wp2_with fail
          refine (cf.out _).mono ?_
          rintro _ w3 ⟨v, rfl, _, hbn⟩
          have HB3 := Lib.hid (below_next hb2 hbn)
          clear hbn
          go_wp2_with fail
          go_ret3
          exact SplitU.err _ HV0.out HB3.out
/-- what the first eight bytes say -/
theorem eight_eq (s : ByteArray) (l : List UInt8) (hs : s.data.toList = l) : ((s.extract 0 8).toList == [104, 116, 116, 112, 115, 58, 47, 47]) = decide (l.take 8 = schemeL) := by
  have hd1 : (s.extract 0 8).data.toList = l.take 8 := by rw [Lib.extract_data, hs]; simp
  have hst1 := str_eta _ _ hd1
  rw [Bool.eq_iff_iff, beq_iff_eq, decide_eq_true_eq, hst1]
  have k := tl_injL (a := l.take 8) (b := schemeL)
  have e0 : (⟨schemeL.toArray⟩ : ByteArray).toList = [104, 116, 116, 112, 115, 58, 47, 47] := by decide +kernel
  rw [e0] at k
  exact ⟨k, fun e => by rw [e, e0]⟩
set_option maxHeartbeats 16000000 in
theorem ruparse_walk (s : ByteArray) (l : List UInt8) (hs : s.data.toList = l) (w : World) (hm : s.size ≤ 1000000) :
    Calls Tryz.prog 33 #[.string s] w (UriR l w) := by
  have hsz : l.length = s.size := by rw [← hs, Lib.size_eq]
  have HB0 := Lib.hid ((Below.refl w.heap.size w).alloc (Nat.le_refl _) (.cells ((Ur.mk [] [] []).arr none 0) 60))
  have HK0 := Lib.hid (Blk.new w 60 ((Ur.mk [] [] []).arr none 0))
  have hz : (#[.string ⟨#[]⟩, .string ⟨#[]⟩, .slice none 0 0] : Array Value) = (Ur.mk [] [] []).arr none 0 := rfl
  by_cases h1 : 1024 < s.size
  · have hv : Hid (uriE l = (4, ⟨[], [], []⟩)) := if_pos (by omega)
    have hdd : decide ((1024 : Int) < (s.size : Int)) = true := by simp; omega
    clear hs
    go_enter Tryz.func33, Tryz.ntmps33
    go_wp2_with (refine wpList_store_blk rfl 60 _ _ rfl w.heap.size ((Ur.mk [] [] []).arr none 0) ((Ur.mk [] [] []).arr none 0) _ rfl rfl HK0.out rfl ur_size (ones3 _ _ _) ?_)
    refine bodyPost_ret (results_ur_t Tryz.results33 _ _ w.heap.size _ _ _ rfl HK0.out.setRow) rfl ?_
    exact UriR.err 4 hv.out (below_setRow HB0.out (Nat.le_refl _) _)
  have hdd : decide ((1024 : Int) < (s.size : Int)) = false := by simp; omega
  by_cases h8 : l.length < 8
  · have hv : Hid (uriE l = (3, ⟨[], [], []⟩)) := by
      show _ = _
      rw [uriE, if_neg (by omega), if_neg]
      intro e
      have := congrArg List.length e
      rw [List.length_take] at this
      have h9 : schemeL.length = 8 := rfl
      omega
    have hd8 : decide ((s.size : Int) < (8 : Int)) = true := by simp; omega
    clear hs
    go_enter Tryz.func33, Tryz.ntmps33
    go_wp2_with (refine wpList_store_blk rfl 60 _ _ rfl w.heap.size ((Ur.mk [] [] []).arr none 0) ((Ur.mk [] [] []).arr none 0) _ rfl rfl HK0.out rfl ur_size (ones3 _ _ _) ?_)
    refine bodyPost_ret (results_ur_t Tryz.results33 _ _ w.heap.size _ _ _ rfl HK0.out.setRow) rfl ?_
    exact UriR.err 3 hv.out (below_setRow HB0.out (Nat.le_refl _) _)
  have hd8 : decide ((s.size : Int) < (8 : Int)) = false := by simp; omega
  have hE8 := eight_eq s l hs
  by_cases ht : l.take 8 = schemeL
  case neg =>
    have hv : Hid (uriE l = (3, ⟨[], [], []⟩)) := by
      show _ = _
      rw [uriE, if_neg (by omega), if_neg ht]
    rw [decide_eq_false ht] at hE8
    clear hs ht
    go_enter Tryz.func33, Tryz.ntmps33
    go_wp2_with (refine wpList_store_blk rfl 60 _ _ rfl w.heap.size ((Ur.mk [] [] []).arr none 0) ((Ur.mk [] [] []).arr none 0) _ rfl rfl HK0.out rfl ur_size (ones3 _ _ _) ?_)
    refine bodyPost_ret (results_ur_t Tryz.results33 _ _ w.heap.size _ _ _ rfl HK0.out.setRow) rfl ?_
    exact UriR.err 3 hv.out (below_setRow HB0.out (Nat.le_refl _) _)
  rw [decide_eq_true ht] at hE8
  have hd2 : (s.extract 8 s.size).data.toList = l.drop 8 := by rw [Lib.extract_to_end, hs]
  have hst2 := Lib.hid (str_eta _ _ hd2)
  have hrl : (l.drop 8).length + 8 ≤ 1000000 := by rw [List.length_drop]; omega
  obtain ⟨r, hr⟩ : ∃ r, l.drop 8 = r := ⟨_, rfl⟩
  rw [hr] at hrl hst2
  have cc := Lib.hid (fun W => rcut_walk (s.extract 8 s.size) r (by rw [hd2, hr]) 47 W (by rw [hst2.out, size_mks]; omega))
  have hE : uriE l = match cutP 47 r with
    | none => (3, ⟨[], [], []⟩)
    | some p => if hostB p.1 = false then (3, ⟨[], [], []⟩) else
        if (splitE (47 :: p.2)).1 = 0 then (0, ⟨p.1, (splitE (47 :: p.2)).2.1, (splitE (47 :: p.2)).2.2⟩) else ((splitE (47 :: p.2)).1, ⟨[], [], []⟩) := by
    rw [uriE, if_neg (by omega), if_pos ht, hr]
    try (cases cutP 47 r <;> rfl)
  rw [show cutV r (cutP 47 r) = .tuple #[.string ⟨(cutA r (cutP 47 r)).toArray⟩, .string ⟨(cutB (cutP 47 r)).toArray⟩, .bool (cutP 47 r).isSome] from rfl] at cc
  have hla : (cutA r (cutP 47 r)).length ≤ r.length ∧ (cutB (cutP 47 r)).length ≤ r.length := by
    cases hp : cutP 47 r with
    | none => exact ⟨Nat.le_refl _, Nat.zero_le _⟩
    | some p => exact cutP_len hp
  cases hp : cutP 47 r with
  | none =>
    rw [hp] at hE cc
    have HV := Lib.hid hE
    rw [show (none : Option (List UInt8 × List UInt8)).isSome = false from rfl] at cc
    clear hs ht hd2 hst2 hE hp hla hr
    go_enter Tryz.func33, Tryz.ntmps33
    go_wp2_with fail
    refine (cc.out _).mono ?_
    rintro _ w1 ⟨rfl, n1, rfl⟩
    have HBd := Lib.hid (below_drewN HB0.out n1)
    have HKd := Lib.hid (HK0.out.drewN n1)
    go_wp2_with (refine wpList_store_blk rfl 60 _ _ rfl w.heap.size ((Ur.mk [] [] []).arr none 0) ((Ur.mk [] [] []).arr none 0) _ rfl rfl HKd.out rfl ur_size (ones3 _ _ _) ?_)
    refine bodyPost_ret (results_ur_t Tryz.results33 _ _ w.heap.size _ _ _ rfl HKd.out.setRow) rfl ?_
    exact UriR.err 3 HV.out (below_setRow HBd.out (Nat.le_refl _) _)
  | some p =>
    obtain ⟨a, b⟩ := p
    rw [hp] at hE cc hla
    simp only [cutA, cutB] at hla cc
    simp only at hE
    rw [show (some (a, b) : Option (List UInt8 × List UInt8)).isSome = true from rfl] at cc
    obtain ⟨hla, hlb⟩ := hla
    have ch := Lib.hid (fun W => rhost_walk ⟨a.toArray⟩ a (by simp) W (by rw [size_mks]; omega))
    cases hh : hostB a with
    | false =>
      rw [hh] at ch hE
      rw [if_pos rfl] at hE
      have HV := Lib.hid hE
      clear hs ht hd2 hst2 hE hp hr hh
      go_enter Tryz.func33, Tryz.ntmps33
      go_wp2_with fail
      refine (cc.out _).mono ?_
      rintro _ w1 ⟨rfl, n1, rfl⟩
      have HBd := Lib.hid (below_drewN HB0.out n1)
      have HKd := Lib.hid (HK0.out.drewN n1)
      go_wp2_with fail
      refine (ch.out _).mono ?_
      rintro _ w2 ⟨rfl, rfl⟩
      go_wp2_with (refine wpList_store_blk rfl 60 _ _ rfl w.heap.size ((Ur.mk [] [] []).arr none 0) ((Ur.mk [] [] []).arr none 0) _ rfl rfl HKd.out rfl ur_size (ones3 _ _ _) ?_)
      refine bodyPost_ret (results_ur_t Tryz.results33 _ _ w.heap.size _ _ _ rfl HKd.out.setRow) rfl ?_
      exact UriR.err 3 HV.out (below_setRow HBd.out (Nat.le_refl _) _)
    | true =>
      rw [hh] at ch hE
      rw [if_neg (by simp)] at hE
      have hapd : (⟨#[47]⟩ ++ ⟨b.toArray⟩ : ByteArray).data.toList = 47 :: b := by simp [ByteArray.data_append]
      have cs := Lib.hid (fun W => rsplit_walk (⟨#[47]⟩ ++ ⟨b.toArray⟩) (47 :: b) hapd W (by rw [Lib.size_eq, hapd, List.length_cons]; omega))
      have HL : Hid ((splitE (47 :: b)).2.2.length ≤ 1000000) := splitE_len _
      have HV0 := Lib.hid hE
      clear hs ht hd2 hst2 hE hp hr hh hapd
      unfold SplitU at cs
      generalize splitE (47 :: b) = z at cs HL HV0
      obtain ⟨m, x, y⟩ := z
      simp only at cs HL HV0
      by_cases h0 : m = 0
      · subst h0
        have HV : Hid (uriE l = (0, ⟨a, x, y⟩)) := by show _ = _; rw [HV0.out, if_pos rfl]
        clear HV0
        go_enter Tryz.func33, Tryz.ntmps33
        go_wp2_with fail
        refine (cc.out _).mono ?_
        rintro _ w1 ⟨rfl, n1, rfl⟩
        have HBd := Lib.hid (below_drewN HB0.out n1)
        have HKd := Lib.hid (HK0.out.drewN n1)
        go_wp2_with fail
        refine (ch.out _).mono ?_
        rintro _ w2 ⟨rfl, rfl⟩
        go_wp2_with fail
        refine (cs.out _).mono ?_
        rintro _ w3 ⟨v, rfl, hown, hbn⟩
        have HB3 := Lib.hid (below_next HBd.out hbn)
        have HK3 := Lib.hid (HKd.out.below hbn HKd.out.lt)
        obtain ⟨A4, c4, rfl, hf4⟩ := FsAt.own hown HL.out
        have HO := Lib.hid hown
        clear hbn hown hf4
        go_wp2_with (refine wpList_store_blk rfl 60 _ _ rfl w.heap.size ((Ur.mk [] [] []).arr none 0) ((Ur.mk a x y).arr A4 c4) _ rfl rfl HK3.out rfl ur_size (ones3 _ _ _) ?_)
        refine bodyPost_ret (results_ur_t Tryz.results33 _ _ w.heap.size _ _ _ rfl HK3.out.setRow) rfl ?_
        refine ⟨A4, c4, by rw [HV.out]; rfl, ?_, below_setRow HB3.out (Nat.le_refl _) _⟩
        rw [HV.out]
        obtain ⟨A5, c5, e5, hf5⟩ := FsAt.own (World.ownsRow.kept HO.out (setRow_only w3 w.heap.size ((Ur.mk a x y).arr A4 c4)) (.inr (fun e => by have := (World.ownsRow.lt HO.out _ e).1; have := HKd.out.lt; omega))) HL.out
        injection e5 with eA _ ec
        subst eA ec
        exact hf5
      · have HV : Hid (uriE l = (m, ⟨[], [], []⟩)) := by show _ = _; rw [HV0.out, if_neg h0]
        have h0a : ((m : Int) != 0) = true := by rw [bne_iff_ne]; omega
        have h0b : ((m : Int) == 0) = false := by rw [beq_eq_false_iff_ne]; omega
        have h0c : ¬ (m : Int) = 0 := by omega
        clear HV0 h0
        go_enter Tryz.func33, Tryz.ntmps33
        go_wp2_with fail
        refine (cc.out _).mono ?_
        rintro _ w1 ⟨rfl, n1, rfl⟩
        have HBd := Lib.hid (below_drewN HB0.out n1)
        have HKd := Lib.hid (HK0.out.drewN n1)
        go_wp2_with fail
        refine (ch.out _).mono ?_
        rintro _ w2 ⟨rfl, rfl⟩
        go_wp2_with fail
        refine (cs.out _).mono ?_
        rintro _ w3 ⟨v, rfl, hown, hbn⟩
        have HB3 := Lib.hid (below_next HBd.out hbn)
        have HK3 := Lib.hid (HKd.out.below hbn HKd.out.lt)
        clear hbn hown
        go_wp2_with (refine wpList_store_blk rfl 60 _ _ rfl w.heap.size ((Ur.mk [] [] []).arr none 0) ((Ur.mk [] [] []).arr none 0) _ rfl rfl HK3.out rfl ur_size (ones3 _ _ _) ?_)
        refine bodyPost_ret (results_ur_t Tryz.results33 _ _ w.heap.size _ _ _ rfl HK3.out.setRow) rfl ?_
        exact UriR.err m HV.out (below_setRow HB3.out (Nat.le_refl _) _)
end
end Go.Proofs.YtekbdfnbnpmclaaGreatDoor

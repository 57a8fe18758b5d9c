/- JSON, plain: the words of a text, the value that they are, or why none. No condition of its own. -/
import Derived.Test.YtieppmppdmcleaaGreatDoorB2
set_option linter.unusedVariables false
set_option linter.unusedSimpArgs false
set_option maxRecDepth 20000
namespace Go.Proofs.YtieppmppdmcleaaGreatDoor
open Go.RowKit
def isBlank (c : UInt8) : Bool := c = 9 || c = 10 || c = 13 || c = 32
def skipB (l : List UInt8) : List UInt8 := l.dropWhile isBlank
def isDig (c : UInt8) : Bool := 48 ≤ c && c ≤ 57
def smallN (c : UInt8) : Option Nat := if 48 ≤ c ∧ c ≤ 57 then some (c.toNat - 48) else if 97 ≤ c ∧ c ≤ 102 then some (c.toNat - 87) else none
def escR : List UInt8 → Option (UInt8 × Nat)
 | [] => none
 | c :: r =>
  if c = 34 ∨ c = 92 then some (c, 1) else
  match c :: r with
  | 117 :: 48 :: 48 :: a :: b :: _ =>
   match smallN a, smallN b with
   | some x, some y => if x ≤ 1 then some (UInt8.ofNat (x * 16 + y), 5) else none
   | _, _ => none
  | _ => none
def strR : Nat → List UInt8 → List UInt8 → Option (List UInt8 × List UInt8)
 | 0, _, _ => none
 | _ + 1, _, [] => none
 | f + 1, acc, c :: r =>
  if c = 34 then (if validL acc then some (acc, r) else none) else
  if c < 32 then none else
  if c = 92 then
   match escR r with
   | none => none
   | some (b, n) => strR f (acc ++ [b]) (r.drop n)
  else strR f (acc ++ [c]) r
def textR (l : List UInt8) : Option (List UInt8 × List UInt8) := strR (l.length + 1) [] l
def numR (c : UInt8) (r : List UInt8) : Option (Int × List UInt8) :=
 match Lib.atoiAll (c :: r.takeWhile isDig) with
 | .ok n => if -9007199254740992 ≤ n ∧ n ≤ 9007199254740992 ∧ Lib.itoa n = c :: r.takeWhile isDig then some (n, r.dropWhile isDig) else none
 | _ => none
inductive Wd where
 | none
 | mark (c : UInt8)
 | phrase (t : List UInt8)
 | number (n : Int)
 | value (k : Int) (b : Bool)
def nameR (l : List UInt8) : Wd × List UInt8 :=
 if [110, 117, 108, 108].isPrefixOf l then (.value 1 false, l.drop 4) else
 if [116, 114, 117, 101].isPrefixOf l then (.value 2 true, l.drop 4) else
 if [102, 97, 108, 115, 101].isPrefixOf l then (.value 2 false, l.drop 5) else (.none, [])
def isMark (c : UInt8) : Bool := c = 91 || c = 93 || c = 123 || c = 125 || c = 44 || c = 58
def wordR (l : List UInt8) : Wd × List UInt8 :=
 match skipB l with
 | [] => (.none, [])
 | c :: r =>
  if isMark c then (.mark c, r) else
  if c = 34 then (match textR r with | some (t, r2) => (.phrase t, r2) | none => (.none, [])) else
  if c = 45 || isDig c then (match numR c r with | some (n, r2) => (.number n, r2) | none => (.none, [])) else
  nameR (c :: r)
abbrev Got := Except Nat (Jv × List UInt8)
def loopL (val : Wd → List UInt8 → Got) : Nat → List Jv → Wd → List UInt8 → Got
 | 0, _, _, _ => .error 3
 | f + 1, acc, w, r =>
  match val w r with
  | .error e => .error e
  | .ok (v, r1) =>
   match wordR r1 with
   | (.mark 93, r2) => .ok (.mk 5 false 0 [] [] (acc ++ [v]), r2)
   | (.mark 44, r2) => loopL val f (acc ++ [v]) (wordR r2).1 (wordR r2).2
   | _ => .error 3
def loopO (val : Wd → List UInt8 → Got) : Nat → List (List UInt8) → List Jv → Wd → List UInt8 → Got
 | 0, _, _, _, _ => .error 3
 | f + 1, names, acc, .phrase t, r =>
  if names.contains t then .error 6 else
  match wordR r with
  | (.mark 58, r1) =>
   match val (wordR r1).1 (wordR r1).2 with
   | .error e => .error e
   | .ok (v, r2) =>
    match wordR r2 with
    | (.mark 125, r3) => .ok (.mk 6 false 0 [] (names ++ [t]) (acc ++ [v]), r3)
    | (.mark 44, r3) => loopO val f (names ++ [t]) (acc ++ [v]) (wordR r3).1 (wordR r3).2
    | _ => .error 3
  | _ => .error 3
 | _ + 1, _, _, _, _ => .error 3
def listR (val : Wd → List UInt8 → Got) (r : List UInt8) : Got :=
 match wordR r with
 | (.mark 93, r2) => .ok (.mk 5 false 0 [] [] [], r2)
 | (w, r2) => loopL val (r.length + 1) [] w r2
def objR (val : Wd → List UInt8 → Got) (r : List UInt8) : Got :=
 match wordR r with
 | (.mark 125, r2) => .ok (.mk 6 false 0 [] [] [], r2)
 | (w, r2) => loopO val (r.length + 1) [] [] w r2
def valW : Nat → Wd → List UInt8 → Got
 | _, .none, _ => .error 3
 | _, .phrase t, r => .ok (.mk 4 false 0 t [] [], r)
 | _, .number n, r => .ok (.mk 3 false n [] [] [], r)
 | _, .value k b, r => .ok (.mk k b 0 [] [] [], r)
 | d, .mark c, r =>
  if c = 91 ∨ c = 123 then
   match d with
   | 0 => .error 4
   | d + 1 => if c = 91 then listR (valW d) r else objR (valW d) r
  else .error 3
def parseL (l : List UInt8) : Nat × Jv :=
 match valW 8 (wordR l).1 (wordR l).2 with
 | .error e => (e, jvZ)
 | .ok (v, r) => if skipB r = [] then (0, v) else (5, jvZ)
theorem skipB_le (l : List UInt8) : (skipB l).length ≤ l.length := List.Sublist.length_le (List.dropWhile_sublist _)
theorem strR_le : ∀ (f : Nat) (acc l t r : List UInt8), strR f acc l = some (t, r) → r.length < l.length
 | 0, _, _, _, _, h => by simp [strR] at h
 | _ + 1, _, [], _, _, h => by simp [strR] at h
 | f + 1, acc, c :: l, t, r, h => by
  rw [strR] at h
  split at h
  ·
   split at h
   ·
    simp at h; obtain ⟨_, rfl⟩ := h; simp
   ·
    simp at h
  ·
   split at h
   ·
    simp at h
   ·
    split at h
    ·
     split at h
     ·
      simp at h
     ·
      rename_i b n _
      have := strR_le f _ _ _ _ h
      rw [List.length_drop] at this
      simp; omega
    ·
     have := strR_le f _ _ _ _ h
     simp; omega
theorem wordR_lt (l : List UInt8) : ((wordR l).1 = .none ∧ (wordR l).2 = []) ∨ (wordR l).2.length < l.length := by
 have h1 := skipB_le l
 unfold wordR
 cases hs : skipB l with
 | nil => exact .inl ⟨rfl, rfl⟩
 | cons c r =>
  rw [hs] at h1
  simp only [List.length_cons] at h1
  simp only
  split
  ·
   right; simp; omega
  ·
   split
   ·
    cases ht : textR r with
    | none => exact .inl ⟨rfl, rfl⟩
    | some p =>
     have := strR_le _ _ _ p.1 p.2 ht
     right; simp; omega
   ·
    split
    ·
     cases hn : numR c r with
     | none => exact .inl ⟨rfl, rfl⟩
     | some p =>
      right
      rw [numR] at hn
      split at hn
      ·
       split at hn
       ·
        simp at hn
        subst hn
        have := List.Sublist.length_le (List.dropWhile_sublist isDig (l := r))
        simp; omega
       ·
        simp at hn
      ·
       simp at hn
    ·
     unfold nameR
     split
     ·
      rename_i hp
      have := (List.isPrefixOf_iff_prefix.1 hp).length_le
      right; simp at this ⊢; omega
     ·
      split
      ·
       rename_i hp
       have := (List.isPrefixOf_iff_prefix.1 hp).length_le
       right; simp at this ⊢; omega
      ·
       split
       ·
        rename_i hp
        have := (List.isPrefixOf_iff_prefix.1 hp).length_le
        right; simp at this ⊢; omega
       ·
        exact .inl ⟨rfl, rfl⟩
theorem wordR_le {l r : List UInt8} {w : Wd} (h : wordR l = (w, r)) (hw : w ≠ .none) : r.length < l.length := by
 have := wordR_lt l
 rw [h] at this
 rcases this with e | e
 ·
  exact absurd e.1 hw
 ·
  exact e
theorem wordR_any (l : List UInt8) : (wordR l).2.length ≤ l.length := by
 rcases wordR_lt l with e | e
 ·
  rw [e.2]; simp
 ·
  omega
theorem loopL_le (val : Wd → List UInt8 → Got) (hv : ∀ w r v r', val w r = .ok (v, r') → r'.length ≤ r.length) : ∀ (f : Nat) (acc : List Jv) (w : Wd) (r : List UInt8) (v : Jv) (r' : List UInt8), loopL val f acc w r = .ok (v, r') → r'.length ≤ r.length
 | 0, _, _, _, _, _, h => by simp [loopL] at h
 | f + 1, acc, w, r, v, r', h => by
  rw [loopL] at h
  split at h
  ·
   simp at h
  ·
   rename_i v1 r1 hval
   have h1 := hv _ _ _ _ hval
   split at h
   ·
    rename_i r2 hw
    simp at h
    obtain ⟨_, rfl⟩ := h
    have := wordR_le hw (by simp)
    omega
   ·
    rename_i r2 hw
    have h2 := wordR_le hw (by simp)
    have h3 := loopL_le val hv f _ _ _ _ _ h
    have h4 := wordR_any r2
    omega
   ·
    simp at h
theorem loopO_le (val : Wd → List UInt8 → Got) (hv : ∀ w r v r', val w r = .ok (v, r') → r'.length ≤ r.length) : ∀ (f : Nat) (names : List (List UInt8)) (acc : List Jv) (w : Wd) (r : List UInt8) (v : Jv) (r' : List UInt8), loopO val f names acc w r = .ok (v, r') → r'.length ≤ r.length
 | 0, _, _, _, _, _, _, h => by simp [loopO] at h
 | f + 1, names, acc, .none, r, v, r', h => by simp [loopO] at h
 | f + 1, names, acc, .mark _, r, v, r', h => by simp [loopO] at h
 | f + 1, names, acc, .number _, r, v, r', h => by simp [loopO] at h
 | f + 1, names, acc, .value _ _, r, v, r', h => by simp [loopO] at h
 | f + 1, names, acc, .phrase t, r, v, r', h => by
  rw [loopO] at h
  split at h
  ·
   simp at h
  ·
   split at h
   ·
    rename_i r1 hw1
    have h1 := wordR_le hw1 (by simp)
    have h2 := wordR_any r1
    split at h
    ·
     simp at h
    ·
     rename_i v1 r2 hval
     have h3 := hv _ _ _ _ hval
     split at h
     ·
      rename_i r3 hw
      simp at h
      obtain ⟨_, rfl⟩ := h
      have := wordR_le hw (by simp)
      omega
     ·
      rename_i r3 hw
      have h4 := wordR_le hw (by simp)
      have h5 := wordR_any r3
      have h6 := loopO_le val hv f _ _ _ _ _ _ h
      omega
     ·
      simp at h
   ·
    simp at h
theorem listR_le (val : Wd → List UInt8 → Got) (hv : ∀ w r v r', val w r = .ok (v, r') → r'.length ≤ r.length) (r : List UInt8) (v : Jv) (r' : List UInt8) (h : listR val r = .ok (v, r')) : r'.length ≤ r.length := by
 unfold listR at h
 split at h
 ·
  rename_i r2 hw
  simp at h
  obtain ⟨_, rfl⟩ := h
  have := wordR_le hw (by simp)
  omega
 ·
  rename_i w r2 _ hw
  have h1 := loopL_le val hv _ _ _ _ _ _ h
  have h2 := wordR_any r
  rw [hw] at h2
  dsimp only at h2
  omega
theorem objR_le (val : Wd → List UInt8 → Got) (hv : ∀ w r v r', val w r = .ok (v, r') → r'.length ≤ r.length) (r : List UInt8) (v : Jv) (r' : List UInt8) (h : objR val r = .ok (v, r')) : r'.length ≤ r.length := by
 unfold objR at h
 split at h
 ·
  rename_i r2 hw
  simp at h
  obtain ⟨_, rfl⟩ := h
  have := wordR_le hw (by simp)
  omega
 ·
  rename_i w r2 _ hw
  have h1 := loopO_le val hv _ _ _ _ _ _ _ h
  have h2 := wordR_any r
  rw [hw] at h2
  dsimp only at h2
  omega
theorem valW_le : ∀ (d : Nat) (w : Wd) (r : List UInt8) (v : Jv) (r' : List UInt8), valW d w r = .ok (v, r') → r'.length ≤ r.length
 | _, .none, _, _, _, h => by simp [valW] at h
 | _, .phrase t, r, v, r', h => by simp [valW] at h; rw [h.2]; exact Nat.le_refl _
 | _, .number n, r, v, r', h => by simp [valW] at h; rw [h.2]; exact Nat.le_refl _
 | _, .value k b, r, v, r', h => by simp [valW] at h; rw [h.2]; exact Nat.le_refl _
 | 0, .mark c, r, v, r', h => by rw [valW] at h; split at h <;> simp at h
 | d + 1, .mark c, r, v, r', h => by
  rw [valW] at h
  split at h
  ·
   split at h
   ·
    exact listR_le _ (valW_le d) r v r' h
   ·
    exact objR_le _ (valW_le d) r v r' h
  ·
   simp at h
end Go.Proofs.YtieppmppdmcleaaGreatDoor

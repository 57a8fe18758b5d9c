/- Forms, plain: what fields are written as, which fields a text is, or why none; the laws of them. No condition of its own. -/
import Derived.Test.YtolfcpbcccbmmaaGreatDoorHd
import Derived.Test.YtolfcpbcccbmmaaGreatDoorHe
import Derived.Lib.Join
set_option linter.unusedVariables false
set_option linter.unusedSimpArgs false
set_option maxRecDepth 20000
namespace Go.Proofs.YtolfcpbcccbmmaaGreatDoor
open Go.RowKit Pc
def encF (f : Fl) : List UInt8 := encL true f.n ++ 61 :: encL true f.v
def printL (fs : List Fl) : List UInt8 := Lib.join (fs.map encF) [38]
def tailL (fs : List Fl) : List UInt8 := Lib.joinTail [38] (fs.map encF)
theorem printL_nil : printL [] = [] := rfl
theorem printL_cons (f : Fl) (fs : List Fl) : printL (f :: fs) = encF f ++ tailL fs := by rw [printL, List.map_cons, Lib.join_cons, tailL]
theorem tailL_cons (f : Fl) (fs : List Fl) : tailL (f :: fs) = 38 :: (encF f ++ tailL fs) := by simp [tailL, Lib.joinTail]
theorem tailL_snoc (f : Fl) : ∀ fs : List Fl, tailL (fs ++ [f]) = tailL fs ++ 38 :: encF f
  | [] => by simp [tailL, Lib.joinTail]
  | g :: fs => by rw [List.cons_append, tailL_cons, tailL_snoc f fs, tailL_cons]; simp
theorem printL_step (fs : List Fl) (k : Nat) (f : Fl) (h : fs[k]? = some f) : printL (fs.take (k + 1)) = (if 0 < k then printL (fs.take k) ++ [38] else []) ++ encF f := by
  rw [List.take_add_one, h]
  by_cases hk : 0 < k
  · obtain ⟨g, gs, hg⟩ : ∃ g gs, fs.take k = g :: gs := by
      cases hh : fs.take k with
      | nil =>
        have := congrArg List.length hh
        have hl := (List.getElem?_eq_some_iff.1 h).1
        simp at this
        rcases this with h | h
        · omega
        · subst h; simp at hl
      | cons g gs => exact ⟨g, gs, rfl⟩
    rw [hg, if_pos hk, Option.toList_some, List.cons_append, printL_cons, tailL_snoc, printL_cons]
    simp
  · have : k = 0 := by omega
    subst this
    simp [printL, Lib.join_one]
def sumF (fs : List Fl) : Nat := (fs.map fun f => f.n.length + f.v.length).sum
theorem sumF_cons (f : Fl) (fs : List Fl) : sumF (f :: fs) = f.n.length + f.v.length + sumF fs := by simp [sumF]
theorem sumF_append (a b : List Fl) : sumF (a ++ b) = sumF a + sumF b := by simp [sumF]
theorem sumF_mem {f : Fl} : ∀ {fs : List Fl}, f ∈ fs → f.n.length + f.v.length ≤ sumF fs
  | g :: fs, h => by
    rw [sumF_cons]
    rcases List.mem_cons.1 h with rfl | h
    · omega
    · have := sumF_mem h; omega
theorem encB_len (form : Bool) (b : UInt8) : (encB form b).length ≤ 3 := by
  unfold encB
  split
  · simp
  · split <;> simp
theorem encL_len (form : Bool) : ∀ l : List UInt8, (encL form l).length ≤ 3 * l.length
  | [] => Nat.le_refl _
  | b :: l => by
    have h1 := encB_len form b
    have h2 := encL_len form l
    rw [encL_cons, List.length_append, List.length_cons]
    omega
theorem encF_len (f : Fl) : (encF f).length ≤ 3 * (f.n.length + f.v.length) + 1 := by
  have h1 := encL_len true f.n
  have h2 := encL_len true f.v
  rw [encF, List.length_append, List.length_cons]
  omega
theorem tailL_len : ∀ fs : List Fl, (tailL fs).length ≤ 3 * sumF fs + 2 * fs.length
  | [] => Nat.le_refl _
  | f :: fs => by
    have h1 := encF_len f
    have h2 := tailL_len fs
    rw [tailL_cons, List.length_cons, List.length_append, sumF_cons, List.length_cons]
    omega
theorem printL_len : ∀ fs : List Fl, (printL fs).length ≤ 3 * sumF fs + 2 * fs.length
  | [] => Nat.le_refl _
  | f :: fs => by
    have h1 := encF_len f
    have h2 := tailL_len fs
    rw [printL_cons, List.length_append, sumF_cons, List.length_cons]
    omega
/-- no sign of a field's writing is one that parts -/
def noB (b : UInt8) : Bool := (encB true b).all fun x => x != 38 && x != 61
theorem noB_all : ∀ b : Fin 256, noB (UInt8.ofNat b.val) = true := by decide +kernel
theorem encL_no (l : List UInt8) (x : UInt8) (h : x ∈ encL true l) : x ≠ 38 ∧ x ≠ 61 := by
  rw [encL, List.mem_flatMap] at h
  obtain ⟨b, _, h⟩ := h
  have hb := noB_all ⟨b.toNat, b.toNat_lt⟩
  simp only [UInt8.ofNat_toNat] at hb
  rw [noB, List.all_eq_true] at hb
  have := hb x h
  simpa using this
theorem encF_no (f : Fl) (x : UInt8) (h : x ∈ encF f) : x ≠ 38 := by
  rw [encF, List.mem_append, List.mem_cons] at h
  rcases h with h | rfl | h
  · exact (encL_no _ _ h).1
  · decide
  · exact (encL_no _ _ h).1
theorem splitC_front (c : UInt8) : ∀ (a b : List UInt8), (∀ x ∈ a, x ≠ c) → splitC c (a ++ c :: b) = a :: splitC c b
  | [], b, _ => by rw [List.nil_append, splitC, if_pos rfl]
  | x :: a, b, h => by
    have ih := splitC_front c a b (fun y hy => h y (List.mem_cons_of_mem _ hy))
    rw [List.cons_append, splitC, if_neg (h x List.mem_cons_self), ih]
theorem splitC_no (c : UInt8) (a : List UInt8) (h : ∀ x ∈ a, x ≠ c) : splitC c a = [a] := by
  apply splitC_none
  rw [List.count_eq_zero]
  exact fun hc => h c hc rfl
theorem split_tail : ∀ (f : Fl) (fs : List Fl), splitC 38 (encF f ++ tailL fs) = encF f :: fs.map encF
  | f, [] => by
    have : tailL [] = [] := rfl
    rw [this, List.append_nil, splitC_no 38 _ (encF_no f)]
    rfl
  | f, g :: fs => by rw [tailL_cons, splitC_front 38 _ _ (encF_no f), split_tail g fs, List.map_cons]
theorem split_print (f : Fl) (fs : List Fl) : splitC 38 (printL (f :: fs)) = (f :: fs).map encF := by rw [printL_cons, split_tail, List.map_cons]
theorem join_split (c : UInt8) : ∀ l : List UInt8, Lib.join (splitC c l) [c] = l
  | [] => by rw [splitC]; rfl
  | x :: l => by
    have ih := join_split c l
    rw [splitC]
    split
    · rename_i hx
      obtain ⟨q, qs, hq⟩ : ∃ q qs, splitC c l = q :: qs := by
        cases hh : splitC c l with
        | nil => exact absurd hh (splitC_ne c l)
        | cons q qs => exact ⟨q, qs, rfl⟩
      rw [hq, Lib.join_cons] at ih
      rw [hq, Lib.join_cons, hx]
      simp only [Lib.joinTail, List.map_cons, List.flatten_cons] at ih ⊢
      rw [← ih]
      simp
    · split
      · rename_i h
        exact absurd h (splitC_ne c l)
      · rename_i q qs hq
        rw [hq, Lib.join_cons] at ih
        rw [Lib.join_cons, List.cons_append, ih]
/-- a part as a field -/
def fieldO (l : List UInt8) : Option Fl := match cutP 61 l with
  | none => none
  | some p => match decL true p.1, decL true p.2 with
    | some n, some v => if n = [] then none else some ⟨n, v⟩
    | _, _ => none
theorem cutP_front (c : UInt8) : ∀ (a b : List UInt8), (∀ x ∈ a, x ≠ c) → cutP c (a ++ c :: b) = some (a, b)
  | [], b, _ => by rw [List.nil_append, cutP, if_pos rfl]
  | x :: a, b, h => by
    have ih := cutP_front c a b (fun y hy => h y (List.mem_cons_of_mem _ hy))
    rw [List.cons_append, cutP, if_neg (h x List.mem_cons_self), ih]
    rfl
theorem cutP_is (c : UInt8) : ∀ (l : List UInt8) (p : List UInt8 × List UInt8), cutP c l = some p → l = p.1 ++ c :: p.2
  | [], p, h => by simp [cutP] at h
  | x :: l, p, h => by
    rw [cutP] at h
    split at h
    · rename_i hx
      injection h with h
      rw [← h, hx]
      rfl
    · cases hq : cutP c l with
      | none => rw [hq] at h; cases h
      | some q =>
        rw [hq] at h
        injection h with h
        rw [← h, cutP_is c l q hq]
        rfl
theorem fieldO_enc (f : Fl) (h : f.n ≠ []) : fieldO (encF f) = some f := by
  unfold fieldO
  rw [encF, cutP_front 61 _ _ (fun x hx => (encL_no _ _ hx).2)]
  simp only [decL_back]
  rw [if_neg h]
theorem fieldO_is {l : List UInt8} {f : Fl} (h : fieldO l = some f) : encF f = l ∧ f.n ≠ [] := by
  unfold fieldO at h
  split at h
  · cases h
  · rename_i p hp
    split at h
    · rename_i n v hn hv
      split at h
      · cases h
      · rename_i hne
        injection h with h
        subst h
        refine ⟨?_, hne⟩
        rw [cutP_is 61 l p hp, encF, (decL_is true _ _ _ (Nat.le_refl _) hn).1, (decL_is true _ _ _ (Nat.le_refl _) hv).1]
    · cases h
def goF : List Fl → List (List UInt8) → Nat × List Fl
  | seen, [] => (0, seen)
  | seen, p :: ps => match fieldO p with
    | none => (3, [])
    | some f => if hasF f.n seen then (6, []) else goF (seen ++ [f]) ps
def formE (l : List UInt8) : Nat × List Fl := if l = [] then (0, []) else if (splitC 38 l).length ≤ 24 then goF [] (splitC 38 l) else (7, [])
theorem goF_at (acc : List Fl) (ps : List (List UInt8)) (k : Nat) (p : List UInt8) (h : ps[k]? = some p) :
    goF acc (ps.drop k) = match fieldO p with
      | none => (3, [])
      | some f => if hasF f.n acc then (6, []) else goF (acc ++ [f]) (ps.drop (k + 1)) := by
  have hk := (List.getElem?_eq_some_iff.1 h).1
  have hp : ps[k] = p := (List.getElem?_eq_some_iff.1 h).2
  rw [List.drop_eq_getElem_cons hk, hp, goF]
theorem goF_end (acc : List Fl) (ps : List (List UInt8)) : goF acc (ps.drop ps.length) = (0, acc) := by rw [List.drop_length]; rfl
theorem goF_err : ∀ (ps : List (List UInt8)) (acc : List Fl), (goF acc ps).1 ≠ 0 → (goF acc ps).2 = []
  | [], acc, h => absurd rfl h
  | p :: ps, acc, h => by
    rw [goF] at h ⊢
    cases hp : fieldO p with
    | none => rfl
    | some f =>
      rw [hp] at h
      simp only at h ⊢
      split
      · rfl
      · rename_i hh
        rw [if_neg hh] at h
        exact goF_err ps _ h
theorem formE_err {l : List UInt8} (h : (formE l).1 ≠ 0) : (formE l).2 = [] := by
  unfold formE at h ⊢
  split
  · rfl
  · rename_i h1
    rw [if_neg h1] at h
    split
    · rename_i h2
      rw [if_pos h2] at h
      exact goF_err _ _ h
    · rfl
/-- is no name empty, none there twice? -/
def unlikeB (fs : List Fl) : Bool := (List.range fs.length).all fun i => match fs[i]? with
  | some f => decide (f.n ≠ []) && !hasF f.n (fs.take i)
  | none => true
def UnlikeP (fs : List Fl) : Prop := ∀ i f, fs[i]? = some f → f.n ≠ [] ∧ hasF f.n (fs.take i) = false
theorem unlikeP_nil : UnlikeP [] := fun i f h => by simp at h
theorem unlikeP_snoc {fs : List Fl} {f : Fl} (h : UnlikeP fs) (h1 : f.n ≠ []) (h2 : hasF f.n fs = false) : UnlikeP (fs ++ [f]) := by
  intro i g hg
  rcases Nat.lt_trichotomy i fs.length with hi | hi | hi
  · rw [List.getElem?_append_left hi] at hg
    rw [List.take_append_of_le_length (Nat.le_of_lt hi)]
    exact h i g hg
  · subst hi
    rw [List.getElem?_append_right (Nat.le_refl _)] at hg
    simp at hg
    subst hg
    rw [List.take_left]
    exact ⟨h1, h2⟩
  · rw [List.getElem?_eq_none (by simp; omega)] at hg
    cases hg
theorem goF_ok : ∀ (ps : List (List UInt8)) (acc fs : List Fl), UnlikeP acc → goF acc ps = (0, fs) → UnlikeP fs ∧ ∃ gs, fs = acc ++ gs ∧ ps = gs.map encF
  | [], acc, fs, hu, h => by
    rw [goF] at h
    injection h with _ h
    subst h
    exact ⟨hu, [], by simp, rfl⟩
  | p :: ps, acc, fs, hu, h => by
    rw [goF] at h
    cases hp : fieldO p with
    | none => rw [hp] at h; cases h
    | some f =>
      rw [hp] at h
      simp only at h
      cases hh : hasF f.n acc with
      | true => rw [hh, if_pos rfl] at h; cases h
      | false =>
        rw [hh] at h
        obtain ⟨he, hne⟩ := fieldO_is hp
        obtain ⟨h1, gs, h2, h3⟩ := goF_ok ps (acc ++ [f]) fs (unlikeP_snoc hu hne hh) h
        exact ⟨h1, f :: gs, by rw [h2]; simp, by rw [h3, List.map_cons, he]⟩
theorem formE_ok {l : List UInt8} (h : (formE l).1 = 0) : UnlikeP (formE l).2 ∧ printL (formE l).2 = l := by
  unfold formE at h ⊢
  split
  · rename_i h1
    exact ⟨unlikeP_nil, by rw [h1]; rfl⟩
  · rename_i h1
    rw [if_neg h1] at h
    split
    · rename_i h2
      rw [if_pos h2] at h
      obtain ⟨h3, gs, h4, h5⟩ := goF_ok (splitC 38 l) [] (goF [] (splitC 38 l)).2 unlikeP_nil (by rw [← h])
      refine ⟨h3, ?_⟩
      rw [List.nil_append] at h4
      rw [h4, printL, ← h5, join_split]
    · rename_i h2
      rw [if_neg h2] at h
      cases h
theorem unlikeP_take {fs : List Fl} (h : UnlikeP fs) (k : Nat) : UnlikeP (fs.take k) := by
  intro i f hf
  rw [List.getElem?_take] at hf
  split at hf
  · rename_i hi
    have := h i f hf
    rw [List.take_take, Nat.min_eq_left (Nat.le_of_lt hi)]
    exact this
  · cases hf
theorem goF_enc : ∀ (gs acc : List Fl) (rest : List (List UInt8)), UnlikeP (acc ++ gs) → goF acc (gs.map encF ++ rest) = goF (acc ++ gs) rest
  | [], acc, rest, _ => by simp
  | f :: gs, acc, rest, h => by
    have hf := h acc.length f (by rw [List.getElem?_append_right (Nat.le_refl _)]; simp)
    rw [List.take_left] at hf
    rw [List.map_cons, List.cons_append, goF, fieldO_enc f hf.1]
    simp only
    rw [hf.2]
    have := goF_enc gs (acc ++ [f]) rest (by simpa using h)
    simp only [List.append_assoc, List.singleton_append] at this
    exact this
theorem encF_ne (f : Fl) : encF f ≠ [] := by simp [encF]
theorem formE_print {fs : List Fl} (h : UnlikeP fs) (hl : fs.length ≤ 24) : formE (printL fs) = (0, fs) := by
  cases fs with
  | nil => rfl
  | cons f fs =>
    have hne : printL (f :: fs) ≠ [] := by rw [printL_cons]; intro e; exact encF_ne f (List.append_eq_nil_iff.1 e).1
    have hg := goF_enc (f :: fs) [] [] (by simpa using h)
    rw [List.append_nil, List.nil_append] at hg
    rw [formE, if_neg hne, split_print, if_pos (by rw [List.length_map]; exact hl), hg]
    rfl
theorem formE_twice {fs : List Fl} (h : UnlikeP fs) (hl : fs.length ≤ 12) (hne : fs ≠ []) : (formE (printL (fs ++ fs))).1 = 6 := by
  cases fs with
  | nil => exact absurd rfl hne
  | cons f fs =>
    have hn : printL ((f :: fs) ++ (f :: fs)) ≠ [] := by rw [List.cons_append, printL_cons]; intro e; exact encF_ne f (List.append_eq_nil_iff.1 e).1
    have hg := goF_enc (f :: fs) [] ((f :: fs).map encF) (by simpa using h)
    rw [List.nil_append] at hg
    have hsp : splitC 38 (printL ((f :: fs) ++ (f :: fs))) = (f :: fs).map encF ++ (f :: fs).map encF := by rw [List.cons_append, split_print, ← List.cons_append, List.map_append]
    rw [formE, if_neg hn, hsp, if_pos (by rw [List.length_append, List.length_map]; omega), hg, List.map_cons, goF, fieldO_enc f (h 0 f rfl).1]
    simp only
    rw [show hasF f.n (f :: fs) = true by simp [hasF]]
    rfl
theorem get_unlike {fs : List Fl} (h : UnlikeP fs) (i : Nat) (f : Fl) (hf : fs[i]? = some f) : getF f.n fs = some f.v := by
  have key : ∀ (a b : List Fl), hasF f.n a = false → getF f.n (a ++ f :: b) = some f.v := by
    intro a
    induction a with
    | nil => intro b _; rw [List.nil_append, getF, if_pos rfl]
    | cons g a ih =>
      intro b hh
      rw [hasF, List.any_cons, Bool.or_eq_false_iff] at hh
      rw [List.cons_append, getF, if_neg (by simpa using hh.1)]
      exact ih b hh.2
  have hl := (List.getElem?_eq_some_iff.1 hf).1
  have he := (List.getElem?_eq_some_iff.1 hf).2
  have hsp : fs = fs.take i ++ f :: fs.drop (i + 1) := by
    rw [← he, ← List.drop_eq_getElem_cons hl, List.take_append_drop]
  have := key (fs.take i) (fs.drop (i + 1)) (h i f hf).2
  rw [← hsp] at this
  exact this
end Go.Proofs.YtolfcpbcccbmmaaGreatDoor

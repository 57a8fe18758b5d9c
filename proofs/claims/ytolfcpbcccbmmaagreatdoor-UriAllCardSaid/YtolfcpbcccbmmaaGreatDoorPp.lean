/- Plain words of percent signs: how bytes are written, and of what a text is the writing. No program in sight, no condition. -/
import Derived.Test.YtolfcpbcccbmmaaGreatDoorGs
set_option linter.unusedVariables false
set_option linter.unusedSimpArgs false
set_option maxRecDepth 20000
namespace Go.Proofs.YtolfcpbcccbmmaaGreatDoor.Pc
open Go.Proofs.YtolfcpbcccbmmaaGreatDoor (plainB)
def hx (n : Nat) : Nat := if n < 10 then 48 + n else 55 + n
def dg (n : Nat) : Option Nat := if 48 ≤ n ∧ n ≤ 57 then some (n - 48) else if 65 ≤ n ∧ n ≤ 70 then some (n - 55) else none
def encB (form : Bool) (b : UInt8) : List UInt8 :=
  if form && b.toNat == 32 then [43] else if plainB b.toNat then [b] else [37, UInt8.ofNat (hx (b.toNat / 16)), UInt8.ofNat (hx (b.toNat % 16))]
def encL (form : Bool) (l : List UInt8) : List UInt8 := l.flatMap (encB form)
theorem encL_append (form : Bool) (a b : List UInt8) : encL form (a ++ b) = encL form a ++ encL form b := by simp [encL]
theorem encL_cons (form : Bool) (a : UInt8) (b : List UInt8) : encL form (a :: b) = encB form a ++ encL form b := by simp [encL]
/-- two digits' byte -/
def two (form : Bool) (a b : Nat) : Option UInt8 :=
  match dg a, dg b with
  | some x, some y => if plainB (x * 16 + y) || (form && x * 16 + y == 32) then none else some (UInt8.ofNat (x * 16 + y))
  | _, _ => none
def one (form : Bool) : List UInt8 → Option (UInt8 × Nat)
  | [] => none
  | c :: t =>
    if form && c.toNat == 43 then some (32, 1)
    else if c.toNat ≠ 37 then (if plainB c.toNat then some (c, 1) else none)
    else match t with
      | a :: b :: _ => (two form a.toNat b.toNat).map (·, 3)
      | _ => none
def decN (form : Bool) : Nat → List UInt8 → Option (List UInt8)
  | 0, _ => some []
  | f + 1, l => if l = [] then some [] else match one form l with
    | none => none
    | some (c, n) => (decN form f (l.drop n)).map (c :: ·)
def decL (form : Bool) (l : List UInt8) : Option (List UInt8) := decN form l.length l
theorem one_pos {form : Bool} {l : List UInt8} {c : UInt8} {n : Nat} (h : one form l = some (c, n)) : 1 ≤ n ∧ n ≤ l.length := by
  cases l with
  | nil => simp [one] at h
  | cons x t =>
    simp only [one] at h
    split at h
    · injection h with h; injection h with _ h; subst h; simp
    · split at h
      · split at h
        · injection h with h; injection h with _ h; subst h; simp
        · cases h
      · split at h
        · rw [Option.map_eq_some_iff] at h
          obtain ⟨a, _, h⟩ := h
          injection h with _ h; subst h; simp
        · cases h
theorem decN_enough (form : Bool) : ∀ (f : Nat) (l : List UInt8), l.length ≤ f → decN form f l = decN form l.length l
  | 0, l, h => by rw [show l.length = 0 by omega]
  | f + 1, l, h => by
    by_cases hl : l = []
    · subst hl; simp [decN]
    · have h0 : 0 < l.length := List.length_pos_iff.2 hl
      obtain ⟨n, hn⟩ : ∃ n, l.length = n + 1 := ⟨l.length - 1, by omega⟩
      rw [hn, decN, decN, if_neg hl, if_neg hl]
      cases ho : one form l with
      | none => rfl
      | some p =>
        obtain ⟨c, m⟩ := p
        have hp := (one_pos ho).1
        simp only
        rw [decN_enough form f _ (by rw [List.length_drop]; omega), decN_enough form n _ (by rw [List.length_drop]; omega)]
theorem decL_nil (form : Bool) : decL form [] = some [] := rfl
theorem decL_step (form : Bool) (l : List UInt8) (h : l ≠ []) : decL form l = match one form l with
    | none => none
    | some (c, n) => (decL form (l.drop n)).map (c :: ·) := by
  have h0 : 0 < l.length := List.length_pos_iff.2 h
  obtain ⟨n, hn⟩ : ∃ n, l.length = n + 1 := ⟨l.length - 1, by omega⟩
  rw [decL, hn, decN, if_neg h]
  cases ho : one form l with
  | none => rfl
  | some p =>
    obtain ⟨c, m⟩ := p
    have hp := (one_pos ho).1
    simp only
    rw [decN_enough form n _ (by rw [List.length_drop]; omega)]
    rfl
theorem plain_no : ∀ c : Fin 256, plainB c.val = true → c.val ≠ 37 ∧ c.val ≠ 43 ∧ c.val ≠ 32 := by decide +kernel
theorem hx_dg : ∀ n : Fin 256, dg (UInt8.ofNat (hx (n.val / 16))).toNat = some (n.val / 16) ∧ dg (UInt8.ofNat (hx (n.val % 16))).toNat = some (n.val % 16) := by decide +kernel
theorem dg_hx {n x : Nat} (h : dg n = some x) : x < 16 ∧ hx x = n := by
  unfold dg at h
  split at h
  · injection h with h; unfold hx; split <;> omega
  · split at h
    · injection h with h; unfold hx; split <;> omega
    · cases h
theorem one_enc (form : Bool) (c : UInt8) (r : List UInt8) : one form (encB form c ++ r) = some (c, (encB form c).length) := by
  have hp := plain_no ⟨c.toNat, c.toNat_lt⟩
  have hd := hx_dg ⟨c.toNat, c.toNat_lt⟩
  simp only at hp hd
  unfold encB
  by_cases h1 : (form && c.toNat == 32) = true
  · rw [if_pos h1]
    simp only [Bool.and_eq_true, beq_iff_eq] at h1
    have : c = 32 := by rw [← UInt8.toNat_inj, h1.2]; rfl
    simp [one, h1.1, this]
  · rw [if_neg h1]
    by_cases h2 : plainB c.toNat = true
    · rw [if_pos h2]
      obtain ⟨p1, p2, p3⟩ := hp h2
      simp [one, p1, p2, h2]
    · rw [if_neg h2]
      have hv : c.toNat / 16 * 16 + c.toNat % 16 = c.toNat := by omega
      have ht : two form (UInt8.ofNat (hx (c.toNat / 16))).toNat (UInt8.ofNat (hx (c.toNat % 16))).toNat = some c := by
        rw [two, hd.1, hd.2]
        simp only [hv]
        rw [if_neg (by simp only [Bool.or_eq_true, not_or]; exact ⟨h2, h1⟩)]
        simp
      simp only [one, List.cons_append, List.nil_append, ht]
      simp
theorem decL_enc (form : Bool) : ∀ (b r : List UInt8), decL form (encL form b ++ r) = (decL form r).map (b ++ ·)
  | [], r => by simp [encL]
  | c :: b, r => by
    have hne : encL form (c :: b) ++ r ≠ [] := by
      rw [encL_cons, List.append_assoc]
      intro e
      have ho := one_enc form c (encL form b ++ r)
      rw [e] at ho
      simp [one] at ho
    rw [decL_step form _ hne, encL_cons, List.append_assoc, one_enc]
    simp only [List.drop_left]
    rw [decL_enc form b r, Option.map_map]
    congr 1
theorem decL_back (form : Bool) (b : List UInt8) : decL form (encL form b) = some b := by
  have := decL_enc form b []
  rw [List.append_nil, decL_nil] at this
  simpa using this
theorem one_is {form : Bool} {l : List UInt8} {c : UInt8} {n : Nat} (h : one form l = some (c, n)) : l = encB form c ++ l.drop n := by
  cases l with
  | nil => simp [one] at h
  | cons x t =>
    simp only [one] at h
    split at h
    · rename_i h1
      injection h with h; injection h with h h'; subst h; subst h'
      simp only [Bool.and_eq_true, beq_iff_eq] at h1
      have hx : x = 43 := by rw [← UInt8.toNat_inj, h1.2]; rfl
      simp [encB, h1.1, hx]
    · rename_i h1
      split at h
      · rename_i h2
        split at h
        · rename_i h3
          injection h with h; injection h with h h'; subst h; subst h'
          have hp := plain_no ⟨x.toNat, x.toNat_lt⟩ h3
          simp only at hp
          simp [encB, h3, hp.2.2]
        · cases h
      · rename_i h2
        have hx37 : x = 37 := by rw [← UInt8.toNat_inj]; simpa using h2
        split at h
        · rename_i a b r
          rw [Option.map_eq_some_iff] at h
          obtain ⟨v, hv, h⟩ := h
          injection h with h h'; subst h; subst h'
          unfold two at hv
          cases da : dg a.toNat with
          | none => rw [da] at hv; cases hv
          | some p =>
            cases db : dg b.toNat with
            | none => rw [da, db] at hv; cases hv
            | some q =>
              rw [da, db] at hv
              simp only at hv
              obtain ⟨p1, p2⟩ := dg_hx da
              obtain ⟨q1, q2⟩ := dg_hx db
              split at hv
              · cases hv
              · rename_i hn
                injection hv with hv
                subst hv
                have hto : (UInt8.ofNat (p * 16 + q)).toNat = p * 16 + q := by simp; omega
                simp only [Bool.or_eq_true, not_or] at hn
                rw [encB, hto, if_neg hn.2, if_neg hn.1, hx37, show (p * 16 + q) / 16 = p by omega, show (p * 16 + q) % 16 = q by omega, p2, q2]
                simp
        · cases h
/-- the document's way: each escape is taken; what is read must be written just so -/
def rone (form : Bool) (l : List UInt8) : Option (UInt8 × Nat) :=
  match l with
  | [] => none
  | c :: t =>
    if plainB c.toNat then some (c, 1)
    else if form && c.toNat == 43 then some (32, 1)
    else if c.toNat = 37 then match t with
      | a :: b :: _ => match dg a.toNat, dg b.toNat with
        | some x, some y => some (UInt8.ofNat (x * 16 + y), 3)
        | _, _ => none
      | _ => none
    else none
def rtwo (t : List UInt8) : Option (UInt8 × Nat) :=
  match t with
  | a :: b :: _ => match dg a.toNat, dg b.toNat with
    | some x, some y => some (UInt8.ofNat (x * 16 + y), 3)
    | _, _ => none
  | _ => none
theorem rone_cons (form : Bool) (c : UInt8) (t : List UInt8) : rone form (c :: t) = if plainB c.toNat then some (c, 1) else if form && c.toNat == 43 then some (32, 1) else if c.toNat = 37 then rtwo t else none := rfl
theorem rtwo_cons (a b : UInt8) (t : List UInt8) : rtwo (a :: b :: t) = match dg a.toNat, dg b.toNat with
    | some x, some y => some (UInt8.ofNat (x * 16 + y), 3)
    | _, _ => none := rfl
theorem rtwo_short {t : List UInt8} (h : t.length < 2) : rtwo t = none := by
  match t, h with
  | [], _ => rfl
  | [_], _ => rfl
theorem one_cons (form : Bool) (c : UInt8) (t : List UInt8) : one form (c :: t) = if form && c.toNat == 43 then some (32, 1) else if c.toNat ≠ 37 then (if plainB c.toNat then some (c, 1) else none) else match t with
      | a :: b :: _ => (two form a.toNat b.toNat).map (·, 3)
      | _ => none := rfl
theorem one_rone {form : Bool} {l : List UInt8} {p : UInt8 × Nat} (h : one form l = some p) : rone form l = some p := by
  cases l with
  | nil => simp [one] at h
  | cons c t =>
    have hp := plain_no ⟨c.toNat, c.toNat_lt⟩
    simp only at hp
    simp only [one] at h
    simp only [rone]
    split at h
    · rename_i h1
      rw [if_neg (fun e => (hp e).2.1 (by simp only [Bool.and_eq_true, beq_iff_eq] at h1; exact h1.2)), if_pos h1]
      exact h
    · rename_i h1
      split at h
      · split at h
        · rename_i h3
          rw [if_pos h3]; exact h
        · cases h
      · rename_i h2
        have h2' : c.toNat = 37 := by omega
        rw [if_neg (fun e => (hp e).1 h2'), if_neg h1, if_pos h2']
        split at h
        · rename_i a b r
          rw [Option.map_eq_some_iff] at h
          obtain ⟨v, hv, h⟩ := h
          unfold two at hv
          cases da : dg a.toNat with
          | none => rw [da] at hv; cases hv
          | some x =>
            cases db : dg b.toNat with
            | none => rw [da, db] at hv; cases hv
            | some y =>
              rw [da, db] at hv
              simp only at hv ⊢
              split at hv
              · cases hv
              · injection hv with hv; rw [hv]; exact congrArg some h
        · cases h
theorem rone_pos {form : Bool} {l : List UInt8} {c : UInt8} {n : Nat} (h : rone form l = some (c, n)) : 1 ≤ n ∧ n ≤ l.length := by
  cases l with
  | nil => simp [rone] at h
  | cons x t =>
    simp only [rone] at h
    split at h
    · injection h with h; injection h with _ h; subst h; simp
    · split at h
      · injection h with h; injection h with _ h; subst h; simp
      · split at h
        · split at h
          · split at h
            · injection h with h; injection h with _ h; subst h; simp
            · cases h
          · cases h
        · cases h
def rdecN (form : Bool) : Nat → List UInt8 → Option (List UInt8)
  | 0, _ => some []
  | f + 1, l => if l = [] then some [] else match rone form l with
    | none => none
    | some (c, n) => (rdecN form f (l.drop n)).map (c :: ·)
def rdecL (form : Bool) (l : List UInt8) : Option (List UInt8) := rdecN form l.length l
theorem rdecN_enough (form : Bool) : ∀ (f : Nat) (l : List UInt8), l.length ≤ f → rdecN form f l = rdecN form l.length l
  | 0, l, h => by rw [show l.length = 0 by omega]
  | f + 1, l, h => by
    by_cases hl : l = []
    · subst hl; simp [rdecN]
    · have h0 : 0 < l.length := List.length_pos_iff.2 hl
      obtain ⟨n, hn⟩ : ∃ n, l.length = n + 1 := ⟨l.length - 1, by omega⟩
      rw [hn, rdecN, rdecN, if_neg hl, if_neg hl]
      cases ho : rone form l with
      | none => rfl
      | some p =>
        obtain ⟨c, m⟩ := p
        have hp := (rone_pos ho).1
        simp only
        rw [rdecN_enough form f _ (by rw [List.length_drop]; omega), rdecN_enough form n _ (by rw [List.length_drop]; omega)]
theorem rdecL_nil (form : Bool) : rdecL form [] = some [] := rfl
theorem rdecL_step (form : Bool) (l : List UInt8) (h : l ≠ []) : rdecL form l = match rone form l with
    | none => none
    | some (c, n) => (rdecL form (l.drop n)).map (c :: ·) := by
  have h0 : 0 < l.length := List.length_pos_iff.2 h
  obtain ⟨n, hn⟩ : ∃ n, l.length = n + 1 := ⟨l.length - 1, by omega⟩
  rw [rdecL, hn, rdecN, if_neg h]
  cases ho : rone form l with
  | none => rfl
  | some p =>
    obtain ⟨c, m⟩ := p
    have hp := (rone_pos ho).1
    simp only
    rw [rdecN_enough form n _ (by rw [List.length_drop]; omega)]
    rfl
theorem decL_is (form : Bool) : ∀ (f : Nat) (l b : List UInt8), l.length ≤ f → decL form l = some b → encL form b = l ∧ rdecL form l = some b
  | 0, l, b, hl, h => by
    obtain rfl : l = [] := List.eq_nil_of_length_eq_zero (by omega)
    rw [decL_nil] at h
    injection h with h; subst h
    exact ⟨rfl, rfl⟩
  | f + 1, l, b, hl, h => by
    by_cases h0 : l = []
    · subst h0
      rw [decL_nil] at h
      injection h with h; subst h
      exact ⟨rfl, rfl⟩
    · rw [decL_step form l h0] at h
      cases ho : one form l with
      | none => rw [ho] at h; cases h
      | some p =>
        obtain ⟨c, n⟩ := p
        rw [ho] at h
        simp only at h
        rw [Option.map_eq_some_iff] at h
        obtain ⟨b', hb', rfl⟩ := h
        have hp := one_pos ho
        obtain ⟨i1, i2⟩ := decL_is form f (l.drop n) b' (by rw [List.length_drop]; omega) hb'
        refine ⟨?_, ?_⟩
        · rw [encL_cons, i1]; exact (one_is ho).symm
        · rw [rdecL_step form l h0, one_rone ho]
          simp only
          rw [i2]; rfl
theorem decL_ref (form : Bool) (l : List UInt8) : decL form l = match rdecL form l with
    | some b => if encL form b = l then some b else none
    | none => none := by
  cases hd : decL form l with
  | some b =>
    obtain ⟨h1, h2⟩ := decL_is form l.length l b (Nat.le_refl _) hd
    rw [h2]; simp [h1]
  | none =>
    cases hr : rdecL form l with
    | none => rfl
    | some b =>
      simp only
      by_cases h : encL form b = l
      · have := decL_back form b
        rw [h, hd] at this; cases this
      · rw [if_neg h]
end Go.Proofs.YtolfcpbcccbmmaaGreatDoor.Pc

/- JSON, plain: what is printed is parsed, with blanks between, too; what is parsed may be, and is small. No condition of its own. -/
import Derived.Test.YtieppmppdmcleaaGreatDoorB4
import Derived.Test.YtieppmppdmcleaaGreatDoorJ4
set_option linter.unusedVariables false
set_option linter.unusedSimpArgs false
set_option maxRecDepth 20000
namespace Go.Proofs.YtieppmppdmcleaaGreatDoor
section
open Go.RowKit
theorem u8_fin {p : UInt8 → Prop} (h : ∀ k : Fin 256, p (UInt8.ofNat k.val)) (c : UInt8) : p c := by
 have := h ⟨c.toNat, c.toNat_lt⟩
 simpa using this
theorem skipB_no {c : UInt8} {r : List UInt8} (h : isBlank c = false) : skipB (c :: r) = c :: r := by
 rw [skipB, List.dropWhile_cons_of_neg (by simp [h])]
theorem mark_not_blank : ∀ c : UInt8, isMark c = true → isBlank c = false := u8_fin (by decide +kernel)
theorem wordR_mk {c : UInt8} (r : List UInt8) (h : isMark c = true) : wordR (c :: r) = (.mark c, r) := by
 unfold wordR
 rw [skipB_no (mark_not_blank c h)]
 simp only [h, if_true]
theorem dig_facts : ∀ c : UInt8, (isDig c = true ∨ c = 45) → isBlank c = false ∧ isMark c = false ∧ c ≠ 34 := u8_fin (by decide +kernel)
def okR (r : List UInt8) : Prop := ∀ c r', r = c :: r' → isDig c = false
theorem okR_cons {c : UInt8} {r : List UInt8} (h : isDig c = false) : okR (c :: r) := fun c' r' e => by injection e with e; rw [← e]; exact h
theorem dec_dig : ∀ (u : Nat), ∀ b ∈ Lib.decDigits u, isDig b = true
 | u => by
  have h1 : ∀ k : Fin 10, isDig (UInt8.ofNat (48 + k.val)) = true := by decide +kernel
  rw [Lib.decDigits]
  split
  ·
   rename_i h
   intro b hb
   rw [List.mem_singleton.1 hb]
   exact h1 ⟨u, h⟩
  ·
   rename_i h
   intro b hb
   rw [List.mem_append] at hb
   rcases hb with hb | hb
   ·
    exact dec_dig (u / 10) b hb
   ·
    rw [List.mem_singleton.1 hb]
    exact h1 ⟨u % 10, by omega⟩
termination_by u => u
theorem parse_app : ∀ (a b : List UInt8) (acc : Nat) (x : Nat), Lib.parseUint10 acc a = .ok x → Lib.parseUint10 acc (a ++ b) = Lib.parseUint10 x b
 | [], b, acc, x, h => by
  simp only [Lib.parseUint10] at h
  injection h with h
  rw [h]; rfl
 | c :: a, b, acc, x, h => by
  simp only [Lib.parseUint10, List.cons_append] at h ⊢
  split at h
  ·
   rename_i h1
   rw [if_pos h1]
   split at h
   ·
    cases h
   ·
    rename_i h2
    rw [if_neg h2]
    split at h
    ·
     cases h
    ·
     rename_i h3
     rw [if_neg h3]
     exact parse_app a b _ x h
  ·
   cases h
theorem dig_nat : ∀ k : Nat, k < 10 → (UInt8.ofNat (48 + k)).toNat = 48 + k := fun k h => by simp; omega
theorem parse_dec : ∀ (u : Nat), u < 18446744073709551610 → Lib.parseUint10 0 (Lib.decDigits u) = .ok u
 | u, hu => by
  rw [Lib.decDigits]
  split
  ·
   rename_i h
   have := dig_nat u h
   simp only [Lib.parseUint10, this]
   rw [if_pos (by omega), if_neg (by omega), if_neg (by omega)]
   congr 1; omega
  ·
   rename_i h
   have := dig_nat (u % 10) (by omega)
   rw [parse_app _ _ 0 (u / 10) (parse_dec (u / 10) (by omega))]
   simp only [Lib.parseUint10, this]
   rw [if_pos (by omega), if_neg (by omega), if_neg (by omega)]
   congr 1; omega
termination_by u => u
theorem dec_ne (u : Nat) : Lib.decDigits u ≠ [] := by
 have := Lib.decDigits_length u
 have h2 := Lib.nDigits_pos u
 intro e
 rw [e] at this
 simp at this
 omega
theorem itoa_form (n : Int) : ∃ c ds, Lib.itoa n = c :: ds ∧ (isDig c = true ∨ c = 45) ∧ ∀ b ∈ ds, isDig b = true := by
 unfold Lib.itoa
 split
 ·
  exact ⟨45, _, rfl, .inr rfl, dec_dig _⟩
 ·
  cases hd : Lib.decDigits n.toNat with
  | nil => exact absurd hd (dec_ne _)
  | cons c ds =>
   have := dec_dig n.toNat
   rw [hd] at this
   exact ⟨c, ds, rfl, .inl (this c (by simp)), fun b hb => this b (by simp [hb])⟩
theorem not_sign : ∀ c : UInt8, isDig c = true → ¬ (c.toNat = 43 ∨ c.toNat = 45) := u8_fin (by decide +kernel)
theorem atoi_itoa (n : Int) (h1 : -9007199254740992 ≤ n) (h2 : n ≤ 9007199254740992) : Lib.atoiAll (Lib.itoa n) = .ok n := by
 unfold Lib.itoa
 split
 ·
  rename_i h0
  have hp := parse_dec n.natAbs (by omega)
  have hne := dec_ne n.natAbs
  have e1 : UInt8.toNat 45 = 43 ∨ UInt8.toNat 45 = 45 := .inr rfl
  have e2 : UInt8.toNat 45 = 45 := rfl
  simp only [Lib.atoiAll, Lib.parseMag, if_pos e1, if_neg hne, hp]
  rw [if_neg (fun h => h.1 e2), if_neg (fun h => by have := h.2; omega), if_pos e2]
  congr 1; omega
 ·
  rename_i h0
  have hp := parse_dec n.toNat (by omega)
  have hd := dec_dig n.toNat
  cases hl : Lib.decDigits n.toNat with
  | nil => exact absurd hl (dec_ne _)
  | cons c ds =>
   rw [hl] at hp hd
   have hns := not_sign c (hd c (by simp))
   simp only [Lib.atoiAll, Lib.parseMag]
   rw [if_neg hns, if_neg (by simp), hp]
   simp only
   have h45 : ¬ c.toNat = 45 := fun e => hns (.inr e)
   rw [if_neg (fun h => by have := h.2; omega), if_neg (fun h => h45 h.1), if_neg h45]
   congr 1; omega
theorem take_digs : ∀ (ds : List UInt8) (r : List UInt8), (∀ b ∈ ds, isDig b = true) → okR r → (ds ++ r).takeWhile isDig = ds ∧ (ds ++ r).dropWhile isDig = r
 | [], r, _, hr => by
  cases r with
  | nil => exact ⟨rfl, rfl⟩
  | cons c r' =>
   have := hr c r' rfl
   simp [this]
 | b :: ds, r, hd, hr => by
  have h1 := hd b (by simp)
  have := take_digs ds r (fun b' h => hd b' (by simp [h])) hr
  rw [List.cons_append, List.takeWhile_cons_of_pos h1, List.dropWhile_cons_of_pos h1, this.1, this.2]
  exact ⟨rfl, rfl⟩
theorem wordR_int (n : Int) (h1 : -9007199254740992 ≤ n) (h2 : n ≤ 9007199254740992) (r : List UInt8) (hr : okR r) : wordR (Lib.itoa n ++ r) = (.number n, r) := by
 obtain ⟨c, ds, he, hc, hds⟩ := itoa_form n
 obtain ⟨hb, hm, hq⟩ := dig_facts c hc
 have ht := take_digs ds r hds hr
 have ha := atoi_itoa n h1 h2
 rw [he] at ha ⊢
 rw [List.cons_append]
 unfold wordR
 rw [skipB_no hb]
 have h45 : (c = 45 || isDig c) = true := by rcases hc with h | h <;> simp [h]
 simp [hm, if_neg hq, h45, numR, ht.1, ht.2, ha, he, h1, h2]
theorem wordR_null (r : List UInt8) : wordR (110 :: 117 :: 108 :: 108 :: r) = (.value 1 false, r) := by
 unfold wordR
 rw [skipB_no (by decide +kernel)]
 have h1 : isMark 110 = false := by decide +kernel
 have h2 : (110 = (45 : UInt8) || isDig 110) = false := by decide +kernel
 simp [h1, nameR, isDig]
theorem wordR_true (r : List UInt8) : wordR (116 :: 114 :: 117 :: 101 :: r) = (.value 2 true, r) := by
 unfold wordR
 rw [skipB_no (by decide +kernel)]
 have h1 : isMark 116 = false := by decide +kernel
 simp [h1, nameR, isDig]
theorem wordR_false (r : List UInt8) : wordR (102 :: 97 :: 108 :: 115 :: 101 :: r) = (.value 2 false, r) := by
 unfold wordR
 rw [skipB_no (by decide +kernel)]
 have h1 : isMark 102 = false := by decide +kernel
 simp [h1, nameR, isDig]
theorem esc_form : ∀ b : UInt8, (b ≠ 34 ∧ ¬ b < 32 ∧ b ≠ 92 ∧ escB b = [b]) ∨ (∃ q n, escB b = 92 :: q ∧ q.length = n ∧ ∀ r, escR (q ++ r) = some (b, n)) := by
 intro b
 by_cases h1 : b = 34 ∨ b = 92
 ·
  right
  refine ⟨[b], 1, by rw [escB, if_pos h1], rfl, fun r => ?_⟩
  rw [List.singleton_append, escR, if_pos h1]
 ·
  by_cases h2 : b < 32
  ·
   right
   refine ⟨[117, 48, 48, hexD (b.toNat / 16), hexD (b.toNat % 16)], 5, by rw [escB, if_neg h1, if_pos h2], rfl, fun r => ?_⟩
   have : ∀ b : UInt8, b < 32 → ∃ x y, smallN (hexD (b.toNat / 16)) = some x ∧ smallN (hexD (b.toNat % 16)) = some y ∧ x ≤ 1 ∧ UInt8.ofNat (x * 16 + y) = b := by
    intro b hb
    have hf : ∀ k : Fin 32, smallN (hexD (k.val / 16)) = some (k.val / 16) ∧ smallN (hexD (k.val % 16)) = some (k.val % 16) := by decide +kernel
    have hb' : b.toNat < 32 := by simpa [UInt8.lt_iff_toNat_lt] using hb
    have := hf ⟨b.toNat, hb'⟩
    refine ⟨_, _, this.1, this.2, by simp only; omega, ?_⟩
    simp only
    rw [show b.toNat / 16 * 16 + b.toNat % 16 = b.toNat by omega]
    simp
   obtain ⟨x, y, hx, hy, hx1, hxy⟩ := this b h2
   show escR (117 :: 48 :: 48 :: hexD (b.toNat / 16) :: hexD (b.toNat % 16) :: r) = _
   rw [escR, if_neg (by decide)]
   simp only [hx, hy, if_pos hx1, hxy]
  ·
   left
   exact ⟨fun e => h1 (.inl e), h2, fun e => h1 (.inr e), by rw [escB, if_neg h1, if_neg h2]⟩
theorem strR_back : ∀ (s acc : List UInt8) (f : Nat) (r : List UInt8), validL (acc ++ s) = true → s.length < f → strR f acc (s.flatMap escB ++ 34 :: r) = some (acc ++ s, r)
 | [], acc, f, r, hv, hf => by
  obtain ⟨f, rfl⟩ : ∃ f', f = f' + 1 := ⟨f - 1, by omega⟩
  rw [List.append_nil] at hv
  simp [strR, hv]
 | b :: s, acc, f, r, hv, hf => by
  obtain ⟨f, rfl⟩ : ∃ f', f = f' + 1 := ⟨f - 1, by omega⟩
  have hv' : validL ((acc ++ [b]) ++ s) = true := by simpa using hv
  have ih := strR_back s (acc ++ [b]) f r hv' (by simp at hf; omega)
  rw [List.flatMap_cons]
  rcases esc_form b with ⟨h1, h2, h3, h4⟩ | ⟨q, n, h4, h5, h6⟩
  ·
   rw [h4]
   show strR (f + 1) acc (b :: (s.flatMap escB ++ 34 :: r)) = _
   rw [strR, if_neg h1, if_neg h2, if_neg h3, ih]
   simp
  ·
   rw [h4]
   have hg := h6 (s.flatMap escB ++ 34 :: r)
   show strR (f + 1) acc (92 :: ((q ++ s.flatMap escB) ++ 34 :: r)) = _
   rw [strR, if_neg (by decide), if_neg (by decide), if_pos rfl, List.append_assoc, hg]
   simp only
   rw [List.drop_append_of_le_length (by omega), ← h5, List.drop_length, List.nil_append, ih]
   simp
theorem esc_len (s : List UInt8) : s.length ≤ (s.flatMap escB).length := by
 induction s with
 | nil => simp
 | cons b s ih =>
  rw [List.flatMap_cons, List.length_append, List.length_cons]
  have : 1 ≤ (escB b).length := by
   unfold escB
   split
   ·
    exact Nat.le_add_left 1 1
   ·
    split
    ·
     exact Nat.le_add_left 1 5
    ·
     exact Nat.le_refl 1
  omega
theorem wordR_text (s : List UInt8) (hv : validL s = true) (r : List UInt8) : wordR (quotedL s ++ r) = (.phrase s, r) := by
 unfold quotedL wordR
 rw [List.cons_append, skipB_no (by decide +kernel)]
 have h1 : isMark 34 = false := by decide +kernel
 have ht : textR ((s.flatMap escB ++ [34]) ++ r) = some (s, r) := by
  unfold textR
  rw [List.append_assoc]
  have := strR_back s [] ((s.flatMap escB ++ ([34] ++ r)).length + 1) r (by simpa using hv) (by have := esc_len s; rw [List.length_append]; omega)
  exact this
 rw [List.append_assoc] at ht
 have ht2 : textR (s.flatMap escB ++ 34 :: r) = some (s, r) := ht
 simp [h1, ht2]
theorem join_len : ∀ vs : List Jv, vs.length ≤ (Lib.join (jprintL vs) [44]).length + 1
 | [] => by simp
 | [v] => by simp
 | v :: v2 :: vs => by
  have := join_len (v2 :: vs)
  rw [jprintL, jprintL, Lib.join_cons] at *
  simp [Lib.joinTail] at *
  omega
theorem joinO_len : ∀ (ts : List (List UInt8)) (vs : List Jv), vs.length ≤ (Lib.join (jprintO ts vs) [44]).length + 1
 | _, [] => by simp
 | _, [v] => by simp
 | ts, v :: v2 :: vs => by
  have := joinO_len ts.tail (v2 :: vs)
  rw [jprintO, jprintO, Lib.join_cons] at *
  simp [Lib.joinTail] at *
  omega
theorem may_of {k : Int} {b : Bool} {n : Int} {s : List UInt8} {names : List (List UInt8)} {kids : List Jv} {d : Nat} (h : mayJ validL (.mk k b n s names kids) d = true) :
  (k = 1 ∧ b = false ∧ n = 0 ∧ s = [] ∧ names = [] ∧ kids = []) ∨ (k = 2 ∧ n = 0 ∧ s = [] ∧ names = [] ∧ kids = []) ∨ (k = 3 ∧ b = false ∧ -9007199254740992 ≤ n ∧ n ≤ 9007199254740992 ∧ s = [] ∧ names = [] ∧ kids = []) ∨
  (k = 4 ∧ b = false ∧ n = 0 ∧ validL s = true ∧ names = [] ∧ kids = []) ∨ (k = 5 ∧ b = false ∧ n = 0 ∧ s = [] ∧ names = [] ∧ d < 8 ∧ mayJs validL kids (d + 1) = true) ∨
  (k = 6 ∧ b = false ∧ n = 0 ∧ s = [] ∧ d < 8 ∧ mayJs validL kids (d + 1) = true ∧ (∀ x ∈ names, validL x = true) ∧ names.Nodup ∧ names.length = kids.length) := by
 rw [mayJ, Bool.and_eq_true] at h
 obtain ⟨h1, h2⟩ := h
 simp only [aloneB, Bool.and_eq_true, Bool.or_eq_true, decide_eq_true_eq, Bool.not_eq_true', decide_eq_false_iff_not, List.isEmpty_iff, List.all_eq_true] at h1 h2
 obtain ⟨⟨⟨⟨⟨⟨⟨⟨a1, a2⟩, a3⟩, a4⟩, a5⟩, a6⟩, a7⟩, a8⟩, a9⟩ := h1
 have hk : k = 1 ∨ k = 2 ∨ k = 3 ∨ k = 4 ∨ k = 5 ∨ k = 6 := by omega
 rcases hk with rfl | rfl | rfl | rfl | rfl | rfl <;> simp at a2 a3 a5 a7 a8 a9 h2 ⊢ <;> simp_all
theorem jprintO_cons (t : List UInt8) (ts : List (List UInt8)) (v : Jv) (vs : List Jv) : jprintO (t :: ts) (v :: vs) = (quotedL t ++ 58 :: jprint v) :: jprintO ts vs := by rw [jprintO]; rfl
mutual
theorem back_val : ∀ (v : Jv) (d deep : Nat) (r : List UInt8), mayJ validL v deep = true → deep + d = 8 → okR r → valW d (wordR (jprint v ++ r)).1 (wordR (jprint v ++ r)).2 = .ok (v, r)
 | .mk k b n s names kids, d, deep, r, hm, hd, hr => by
  rcases may_of hm with ⟨rfl, rfl, rfl, rfl, rfl, rfl⟩ | ⟨rfl, rfl, rfl, rfl, rfl⟩ | ⟨rfl, rfl, h1, h2, rfl, rfl, rfl⟩ | ⟨rfl, rfl, rfl, hv, rfl, rfl⟩ | ⟨rfl, rfl, rfl, rfl, rfl, h8, hks⟩ | ⟨rfl, rfl, rfl, rfl, h8, hks, hns, hnd, hnl⟩
  ·
   have : wordR (jprint (.mk 1 false 0 [] [] []) ++ r) = (.value 1 false, r) := by rw [jprint, if_pos rfl]; exact wordR_null r
   rw [this, valW]
  ·
   have : wordR (jprint (.mk 2 b 0 [] [] []) ++ r) = (.value 2 b, r) := by
    rw [jprint, if_neg (by decide), if_pos rfl]
    cases b
    ·
     exact wordR_false r
    ·
     exact wordR_true r
   rw [this, valW]
  ·
   have : wordR (jprint (.mk 3 false n [] [] []) ++ r) = (.number n, r) := by rw [jprint, if_neg (by decide), if_neg (by decide), if_pos rfl]; exact wordR_int n h1 h2 r hr
   rw [this, valW]
  ·
   have : wordR (jprint (.mk 4 false 0 s [] []) ++ r) = (.phrase s, r) := by rw [jprint, if_neg (by decide), if_neg (by decide), if_neg (by decide), if_pos rfl]; exact wordR_text s hv r
   rw [this, valW]
  ·
   obtain ⟨d, rfl⟩ : ∃ d', d = d' + 1 := ⟨d - 1, by omega⟩
   have hj : jprint (.mk 5 false 0 [] [] kids) ++ r = 91 :: (Lib.join (jprintL kids) [44] ++ 93 :: r) := by
    rw [jprint, if_neg (by decide), if_neg (by decide), if_neg (by decide), if_neg (by decide), if_neg (by decide)]; simp
   rw [hj, wordR_mk _ (by decide +kernel), valW, if_pos (.inl rfl)]
   simp only [if_true]
   unfold listR
   cases kids with
   | nil =>
    rw [show Lib.join (jprintL []) [44] ++ 93 :: r = 93 :: r by rw [jprintL]; rfl, wordR_mk _ (by decide +kernel)]
    rfl
   | cons v vs =>
    have hb := back_list (v :: vs) d (deep + 1) ((Lib.join (jprintL (v :: vs)) [44] ++ 93 :: r).length + 1) [] r (by simp) hks (by omega) (by have := join_len (v :: vs); simp at this ⊢; omega)
    split
    ·
     rename_i r2 hw
     rw [hw] at hb
     rw [loopL.eq_def] at hb
     simp only at hb
     cases d <;> simp [valW] at hb
    ·
     rename_i w r2 hw hw2
     rw [hw2] at hb
     simpa using hb
  ·
   obtain ⟨d, rfl⟩ : ∃ d', d = d' + 1 := ⟨d - 1, by omega⟩
   have hj : jprint (.mk 6 false 0 [] names kids) ++ r = 123 :: (Lib.join (jprintO names kids) [44] ++ 125 :: r) := by
    rw [jprint, if_neg (by decide), if_neg (by decide), if_neg (by decide), if_neg (by decide), if_pos rfl]; simp
   rw [hj, wordR_mk _ (by decide +kernel), valW, if_pos (.inr rfl)]
   simp only [show ¬ ((123 : UInt8) = 91) by decide, if_false]
   unfold objR
   cases kids with
   | nil =>
    have : names = [] := List.length_eq_zero_iff.1 hnl
    subst this
    rw [show Lib.join (jprintO [] []) [44] ++ 125 :: r = 125 :: r by rw [jprintO]; rfl, wordR_mk _ (by decide +kernel)]
    rfl
   | cons v vs =>
    cases names with
    | nil => simp at hnl
    | cons t ts =>
     have hb := back_obj (v :: vs) (t :: ts) d (deep + 1) ((Lib.join (jprintO (t :: ts) (v :: vs)) [44] ++ 125 :: r).length + 1) [] [] r (by simp) hks (by omega) (by have := joinO_len (t :: ts) (v :: vs); simp at this ⊢; omega) hnl hns (by simpa using hnd)
     split
     ·
      rename_i r2 hw
      rw [hw] at hb
      simp [loopO] at hb
     ·
      rename_i w r2 hw hw2
      rw [hw2] at hb
      simpa using hb
theorem back_list : ∀ (l : List Jv) (d deep f : Nat) (acc : List Jv) (r : List UInt8), l ≠ [] → mayJs validL l deep = true → deep + d = 8 → l.length ≤ f →
  loopL (valW d) f acc (wordR (Lib.join (jprintL l) [44] ++ 93 :: r)).1 (wordR (Lib.join (jprintL l) [44] ++ 93 :: r)).2 = .ok (.mk 5 false 0 [] [] (acc ++ l), r)
 | [], d, deep, f, acc, r, hne, hm, hd, hf => absurd rfl hne
 | [v], d, deep, f, acc, r, hne, hm, hd, hf => by
  obtain ⟨f, rfl⟩ : ∃ f', f = f' + 1 := ⟨f - 1, by simp at hf; omega⟩
  rw [mayJs, Bool.and_eq_true] at hm
  have h := back_val v d deep (93 :: r) hm.1 hd (okR_cons (by decide +kernel))
  rw [jprintL, jprintL, Lib.join_one, loopL, h]
  simp only
  rw [wordR_mk _ (by decide +kernel)]
  rfl
 | v :: v2 :: vs, d, deep, f, acc, r, hne, hm, hd, hf => by
  obtain ⟨f, rfl⟩ : ∃ f', f = f' + 1 := ⟨f - 1, by simp at hf; omega⟩
  rw [mayJs, Bool.and_eq_true] at hm
  have h := back_val v d deep (44 :: (Lib.join (jprintL (v2 :: vs)) [44] ++ 93 :: r)) hm.1 hd (okR_cons (by decide +kernel))
  have ih := back_list (v2 :: vs) d deep f (acc ++ [v]) r (by simp) hm.2 hd (by simp at hf ⊢; omega)
  have hj : Lib.join (jprintL (v :: v2 :: vs)) [44] ++ 93 :: r = jprint v ++ 44 :: (Lib.join (jprintL (v2 :: vs)) [44] ++ 93 :: r) := by
   rw [jprintL, jprintL, Lib.join_cons, Lib.join_cons]
   simp [Lib.joinTail]
  rw [hj, loopL, h]
  simp only
  rw [wordR_mk _ (by decide +kernel)]
  refine Eq.trans ih ?_
  simp
theorem back_obj : ∀ (l : List Jv) (ts : List (List UInt8)) (d deep f : Nat) (done : List (List UInt8)) (acc : List Jv) (r : List UInt8), l ≠ [] → mayJs validL l deep = true → deep + d = 8 → l.length ≤ f →
  ts.length = l.length → (∀ x ∈ ts, validL x = true) → (done ++ ts).Nodup →
  loopO (valW d) f done acc (wordR (Lib.join (jprintO ts l) [44] ++ 125 :: r)).1 (wordR (Lib.join (jprintO ts l) [44] ++ 125 :: r)).2 = .ok (.mk 6 false 0 [] (done ++ ts) (acc ++ l), r)
 | [], ts, d, deep, f, done, acc, r, hne, hm, hd, hf, hl, hv, hn => absurd rfl hne
 | [v], ts, d, deep, f, done, acc, r, hne, hm, hd, hf, hl, hv, hn => by
  obtain ⟨f, rfl⟩ : ∃ f', f = f' + 1 := ⟨f - 1, by simp at hf; omega⟩
  obtain ⟨t, rfl⟩ : ∃ t, ts = [t] := List.length_eq_one_iff.1 hl
  rw [mayJs, Bool.and_eq_true] at hm
  have h := back_val v d deep (125 :: r) hm.1 hd (okR_cons (by decide +kernel))
  have hj : Lib.join (jprintO [t] [v]) [44] ++ 125 :: r = quotedL t ++ 58 :: (jprint v ++ 125 :: r) := by
   rw [jprintO_cons, jprintO, Lib.join_one]; simp
  have hc : done.contains t = false := by
   rw [List.contains_eq_any_beq, List.any_eq_false]
   intro x hx
   have := (List.nodup_append.1 hn).2.2 x hx t (by simp)
   simpa using fun e => this e.symm
  rw [hj, wordR_text t (hv t (by simp)), loopO, if_neg (by rw [hc]; simp), wordR_mk _ (by decide +kernel)]
  simp only
  rw [h]
  simp only
  rw [wordR_mk _ (by decide +kernel)]
  rfl
 | v :: v2 :: vs, ts, d, deep, f, done, acc, r, hne, hm, hd, hf, hl, hv, hn => by
  obtain ⟨f, rfl⟩ : ∃ f', f = f' + 1 := ⟨f - 1, by simp at hf; omega⟩
  obtain ⟨t, t2, ts, rfl⟩ : ∃ t t2 ts', ts = t :: t2 :: ts' := by
   match ts, hl with
   | t :: t2 :: ts', _ => exact ⟨t, t2, ts', rfl⟩
  rw [mayJs, Bool.and_eq_true] at hm
  have h := back_val v d deep (44 :: (Lib.join (jprintO (t2 :: ts) (v2 :: vs)) [44] ++ 125 :: r)) hm.1 hd (okR_cons (by decide +kernel))
  have ih := back_obj (v2 :: vs) (t2 :: ts) d deep f (done ++ [t]) (acc ++ [v]) r (by simp) hm.2 hd (by simp at hf ⊢; omega) (by simpa using hl) (fun x hx => hv x (List.mem_cons_of_mem _ hx)) (by simpa using hn)
  have hj : Lib.join (jprintO (t :: t2 :: ts) (v :: v2 :: vs)) [44] ++ 125 :: r = quotedL t ++ 58 :: (jprint v ++ 44 :: (Lib.join (jprintO (t2 :: ts) (v2 :: vs)) [44] ++ 125 :: r)) := by
   simp only [jprintO_cons, Lib.join_cons]
   simp [Lib.joinTail]
  have hc : done.contains t = false := by
   rw [List.contains_eq_any_beq, List.any_eq_false]
   intro x hx
   have := (List.nodup_append.1 hn).2.2 x hx t (by simp)
   simpa using fun e => this e.symm
  rw [hj, wordR_text t (hv t (by simp)), loopO, if_neg (by rw [hc]; simp), wordR_mk _ (by decide +kernel)]
  simp only
  rw [h]
  simp only
  rw [wordR_mk _ (by decide +kernel)]
  refine Eq.trans ih ?_
  simp
end
end
section
open Go.RowKit
theorem strR_valid : ∀ (f : Nat) (acc l t r : List UInt8), strR f acc l = some (t, r) → validL t = true
 | 0, _, _, _, _, h => by simp [strR] at h
 | _ + 1, _, [], _, _, h => by simp [strR] at h
 | f + 1, acc, c :: l, t, r, h => by
  rw [strR] at h
  split at h
  ·
   split at h
   ·
    rename_i hv; simp at h; rw [← h.1]; exact hv
   ·
    simp at h
  ·
   split at h
   ·
    simp at h
   ·
    split at h
    ·
     split at h
     ·
      simp at h
     ·
      exact strR_valid f _ _ _ _ h
    ·
     exact strR_valid f _ _ _ _ h
def okW : Wd → Prop
 | .phrase t => validL t = true
 | .number n => -9007199254740992 ≤ n ∧ n ≤ 9007199254740992
 | .value k b => (k = 1 ∧ b = false) ∨ k = 2
 | _ => True
theorem wordR_ok (l : List UInt8) : okW (wordR l).1 := by
 unfold wordR
 cases hs : skipB l with
 | nil => trivial
 | cons c r =>
  simp only
  split
  ·
   trivial
  ·
   split
   ·
    cases ht : textR r with
    | none => trivial
    | some p => exact strR_valid _ _ _ p.1 p.2 ht
   ·
    split
    ·
     cases hn : numR c r with
     | none => trivial
     | some p =>
      rw [numR] at hn
      split at hn
      ·
       split at hn
       ·
        rename_i h
        simp at hn
        subst hn
        exact ⟨h.1, h.2.1⟩
       ·
        simp at hn
      ·
       simp at hn
    ·
     unfold nameR
     split
     ·
      exact .inl ⟨rfl, rfl⟩
     ·
      split
      ·
       exact .inr rfl
      ·
       split
       ·
        exact .inr rfl
       ·
        trivial
theorem mayJs_snoc {ok : List UInt8 → Bool} {d : Nat} {v : Jv} : ∀ {a : List Jv}, mayJs ok a d = true → mayJ ok v d = true → mayJs ok (a ++ [v]) d = true
 | [], _, hv => by rw [List.nil_append, mayJs, mayJs, hv]; rfl
 | x :: a, ha, hv => by
  rw [mayJs, Bool.and_eq_true] at ha
  rw [List.cons_append, mayJs, ha.1, mayJs_snoc ha.2 hv]; rfl
theorem valid_nil : validL [] = true := by decide +kernel
theorem may_list {acc : List Jv} {deep : Nat} (h : mayJs validL acc (deep + 1) = true) (h8 : deep < 8) : mayJ validL (.mk 5 false 0 [] [] acc) deep = true := by
 rw [mayJ, h]
 simp [aloneB, h8, valid_nil]
theorem may_obj {acc : List Jv} {names : List (List UInt8)} {deep : Nat} (h : mayJs validL acc (deep + 1) = true) (h8 : deep < 8) (hv : ∀ x ∈ names, validL x = true) (hn : names.Nodup) (hl : names.length = acc.length) : mayJ validL (.mk 6 false 0 [] names acc) deep = true := by
 rw [mayJ, h]
 simp [aloneB, h8, valid_nil, hn, hl]
 exact hv
theorem loopL_may (val : Wd → List UInt8 → Got) (deep : Nat) (h8 : deep < 8) (hv : ∀ w r v r', okW w → val w r = .ok (v, r') → mayJ validL v (deep + 1) = true) :
  ∀ (f : Nat) (acc : List Jv) (w : Wd) (r : List UInt8) (v : Jv) (r' : List UInt8), okW w → mayJs validL acc (deep + 1) = true → loopL val f acc w r = .ok (v, r') → mayJ validL v deep = true
 | 0, _, _, _, _, _, _, _, h => by simp [loopL] at h
 | f + 1, acc, w, r, v, r', hw, ha, h => by
  rw [loopL] at h
  split at h
  ·
   simp at h
  ·
   rename_i v1 r1 hval
   have h1 := mayJs_snoc ha (hv _ _ _ _ hw hval)
   split at h
   ·
    simp at h
    rw [← h.1]
    exact may_list h1 h8
   ·
    rename_i r2 _
    exact loopL_may val deep h8 hv f _ _ _ _ _ (wordR_ok r2) h1 h
   ·
    simp at h
theorem loopO_may (val : Wd → List UInt8 → Got) (deep : Nat) (h8 : deep < 8) (hv : ∀ w r v r', okW w → val w r = .ok (v, r') → mayJ validL v (deep + 1) = true) :
  ∀ (f : Nat) (names : List (List UInt8)) (acc : List Jv) (w : Wd) (r : List UInt8) (v : Jv) (r' : List UInt8), okW w → mayJs validL acc (deep + 1) = true → (∀ x ∈ names, validL x = true) → names.Nodup → names.length = acc.length → loopO val f names acc w r = .ok (v, r') → mayJ validL v deep = true
 | 0, _, _, _, _, _, _, _, _, _, _, _, h => by simp [loopO] at h
 | f + 1, names, acc, .none, r, v, r', _, _, _, _, _, h => by simp [loopO] at h
 | f + 1, names, acc, .mark _, r, v, r', _, _, _, _, _, h => by simp [loopO] at h
 | f + 1, names, acc, .number _, r, v, r', _, _, _, _, _, h => by simp [loopO] at h
 | f + 1, names, acc, .value _ _, r, v, r', _, _, _, _, _, h => by simp [loopO] at h
 | f + 1, names, acc, .phrase t, r, v, r', hw, ha, hns, hnd, hnl, h => by
  rw [loopO] at h
  split at h
  ·
   simp at h
  ·
   rename_i hc
   have hc' : t ∉ names := by simpa using hc
   have hns1 : ∀ x ∈ names ++ [t], validL x = true := fun x hx => by
    rw [List.mem_append] at hx
    rcases hx with hx | hx
    ·
     exact hns x hx
    ·
     rw [List.mem_singleton.1 hx]; exact hw
   have hnd1 : (names ++ [t]).Nodup := List.nodup_append.2 ⟨hnd, by simp, fun a ha b hb e => hc' (by rw [List.mem_singleton.1 hb] at e; rw [← e]; exact ha)⟩
   split at h
   ·
    rename_i r1 _
    split at h
    ·
     simp at h
    ·
     rename_i v1 r2 hval
     have h1 := mayJs_snoc ha (hv _ _ _ _ (wordR_ok r1) hval)
     split at h
     ·
      simp at h
      rw [← h.1]
      exact may_obj h1 h8 hns1 hnd1 (by simp [hnl])
     ·
      rename_i r3 _
      exact loopO_may val deep h8 hv f _ _ _ _ _ _ (wordR_ok r3) h1 hns1 hnd1 (by simp [hnl]) h
     ·
      simp at h
   ·
    simp at h
theorem valW_may : ∀ (d deep : Nat) (w : Wd) (r : List UInt8) (v : Jv) (r' : List UInt8), okW w → deep + d = 8 → valW d w r = .ok (v, r') → mayJ validL v deep = true
 | _, deep, .none, _, _, _, _, _, h => by simp [valW] at h
 | _, deep, .phrase t, r, v, r', hw, _, h => by
  simp [valW] at h
  rw [← h.1, mayJ]
  have hw : validL t = true := hw
  simp [aloneB, hw]
 | _, deep, .number n, r, v, r', hw, _, h => by
  simp [valW] at h
  rw [← h.1, mayJ]
  have hw : -9007199254740992 ≤ n ∧ n ≤ 9007199254740992 := hw
  simp [aloneB, hw, valid_nil]
 | _, deep, .value k b, r, v, r', hw, _, h => by
  simp [valW] at h
  rw [← h.1, mayJ]
  rcases hw with ⟨rfl, rfl⟩ | rfl
  ·
   simp [aloneB, valid_nil]
  ·
   simp [aloneB, valid_nil]
 | 0, deep, .mark c, r, v, r', _, _, h => by rw [valW] at h; split at h <;> simp at h
 | d + 1, deep, .mark c, r, v, r', _, hd, h => by
  rw [valW] at h
  have hv := fun w r v r' hw => valW_may d (deep + 1) w r v r' hw (by omega)
  split at h
  ·
   split at h
   ·
    unfold listR at h
    split at h
    ·
     simp at h
     rw [← h.1]
     exact may_list (by rw [mayJs]) (by omega)
    ·
     rename_i w r2 _ hw
     have := wordR_ok r
     rw [hw] at this
     exact loopL_may _ deep (by omega) hv _ _ _ _ _ _ this (by rw [mayJs]) h
   ·
    unfold objR at h
    split at h
    ·
     simp at h
     rw [← h.1]
     exact may_obj (by rw [mayJs]) (by omega) (by simp) (by simp) rfl
    ·
     rename_i w r2 _ hw
     have := wordR_ok r
     rw [hw] at this
     exact loopO_may _ deep (by omega) hv _ _ _ _ _ _ _ this (by rw [mayJs]) (by simp) (by simp) rfl h
  ·
   simp at h
theorem parse_may {l : List UInt8} {v : Jv} (h : parseL l = (0, v)) : mayB v = true := by
 unfold parseL at h
 split at h
 ·
  rename_i e he
  have := valW_err _ _ _ _ he
  injection h with h1 h2
  exact absurd h1 this
 ·
  rename_i v1 r1 hv
  split at h
  ·
   injection h with h1 h2
   rw [← h2]
   exact valW_may 8 0 _ _ _ _ (wordR_ok l) rfl hv
  ·
   simp at h
theorem parse_back {v : Jv} (h : mayB v = true) : parseL (jprint v) = (0, v) := by
 have := back_val v 8 0 [] h rfl (fun c r e => by simp at e)
 rw [List.append_nil] at this
 unfold parseL
 rw [this]
 rfl
theorem strR_len : ∀ (f : Nat) (acc l t r : List UInt8), strR f acc l = some (t, r) → t.length + r.length + 1 ≤ acc.length + l.length
 | 0, _, _, _, _, h => by simp [strR] at h
 | _ + 1, _, [], _, _, h => by simp [strR] at h
 | f + 1, acc, c :: l, t, r, h => by
  rw [strR] at h
  split at h
  ·
   split at h
   ·
    simp at h
    obtain ⟨rfl, rfl⟩ := h
    simp only [List.length_cons]; omega
   ·
    simp at h
  ·
   split at h
   ·
    simp at h
   ·
    split at h
    ·
     split at h
     ·
      simp at h
     ·
      rename_i b n he
      have h1 := strR_len f _ _ _ _ h
      have h2 := escR_le _ _ _ he
      simp only [List.length_append, List.length_drop, List.length_cons, List.length_nil] at h1 ⊢
      omega
    ·
     have h1 := strR_len f _ _ _ _ h
     simp only [List.length_append, List.length_cons, List.length_nil] at h1 ⊢
     omega
theorem wordR_phrase {l t r : List UInt8} (h : wordR l = (.phrase t, r)) : t.length + r.length + 2 ≤ l.length := by
 have h1 := skipB_le l
 unfold wordR at h
 cases hs : skipB l with
 | nil => rw [hs] at h; simp at h
 | cons c r0 =>
  rw [hs] at h h1
  simp only [List.length_cons] at h1 h
  split at h
  ·
   simp at h
  ·
   split at h
   ·
    cases ht : textR r0 with
    | none => rw [ht] at h; simp at h
    | some p =>
     rw [ht] at h
     simp at h
     obtain ⟨rfl, rfl⟩ := h
     have := strR_len _ _ _ p.1 p.2 ht
     simp only [List.length_nil] at this
     omega
   ·
    split at h
    ·
     split at h <;> simp at h
    ·
     unfold nameR at h
     split at h
     ·
      simp at h
     ·
      split at h
      ·
       simp at h
      ·
       split at h <;> simp at h
theorem szJs_snoc (acc : List Jv) (v : Jv) : szJs (acc ++ [v]) = szJs acc + szJ v := by
 induction acc with
 | nil => simp [szJs]
 | cons x a ih => rw [List.cons_append, szJs, szJs, ih]; omega
theorem loopL_sz (val : Wd → List UInt8 → Got) (hv : ∀ l v r', val (wordR l).1 (wordR l).2 = .ok (v, r') → szJ v + r'.length ≤ l.length) :
  ∀ (f : Nat) (acc : List Jv) (l : List UInt8) (v : Jv) (r' : List UInt8), loopL val f acc (wordR l).1 (wordR l).2 = .ok (v, r') → szJ v + r'.length ≤ l.length + szJs acc
 | 0, _, _, _, _, h => by simp [loopL] at h
 | f + 1, acc, l, v, r', h => by
  rw [loopL] at h
  split at h
  ·
   simp at h
  ·
   rename_i v1 r1 hval
   have h1 := hv _ _ _ hval
   split at h
   ·
    rename_i r2 hw
    simp at h
    obtain ⟨rfl, rfl⟩ := h
    have := wordR_le hw (by simp)
    rw [szJ, szJs_snoc]
    simp only [List.length_nil, List.map_nil, List.sum_nil]
    omega
   ·
    rename_i r2 hw
    have h2 := wordR_le hw (by simp)
    have h3 := loopL_sz val hv f _ _ _ _ h
    rw [szJs_snoc] at h3
    omega
   ·
    simp at h
theorem loopO_sz (val : Wd → List UInt8 → Got) (hv : ∀ l v r', val (wordR l).1 (wordR l).2 = .ok (v, r') → szJ v + r'.length ≤ l.length) :
  ∀ (f : Nat) (names : List (List UInt8)) (acc : List Jv) (l : List UInt8) (v : Jv) (r' : List UInt8), loopO val f names acc (wordR l).1 (wordR l).2 = .ok (v, r') → szJ v + r'.length ≤ l.length + (names.map fun p => p.length + 1).sum + szJs acc
 | 0, _, _, _, _, _, h => by simp [loopO] at h
 | f + 1, names, acc, l, v, r', h => by
  rcases hw : wordR l with ⟨w, r⟩
  rw [hw] at h
  dsimp only at h
  cases w with
  | none => simp [loopO] at h
  | mark _ => simp [loopO] at h
  | number _ => simp [loopO] at h
  | value _ _ => simp [loopO] at h
  | phrase t =>
  have h0 := wordR_phrase hw
  rw [loopO] at h
  split at h
  ·
   simp at h
  ·
   split at h
   ·
    rename_i r1 hw1
    have h1 := wordR_le hw1 (by simp)
    split at h
    ·
     simp at h
    ·
     rename_i v1 r2 hval
     have h2 := hv _ _ _ hval
     split at h
     ·
      rename_i r3 hw3
      have h3 := wordR_le hw3 (by simp)
      simp at h
      obtain ⟨rfl, rfl⟩ := h
      rw [szJ, szJs_snoc]
      simp only [List.length_nil, List.map_append, List.sum_append, List.map_cons, List.map_nil, List.sum_cons, List.sum_nil]
      omega
     ·
      rename_i r3 hw3
      have h3 := wordR_le hw3 (by simp)
      have h4 := loopO_sz val hv f _ _ _ _ _ h
      rw [szJs_snoc] at h4
      simp only [List.map_append, List.sum_append, List.map_cons, List.map_nil, List.sum_cons, List.sum_nil] at h4
      omega
     ·
      simp at h
   ·
    simp at h
theorem valW_sz : ∀ (d : Nat) (l : List UInt8) (v : Jv) (r' : List UInt8), valW d (wordR l).1 (wordR l).2 = .ok (v, r') → szJ v + r'.length ≤ l.length := by
 intro d
 induction d with
 | zero =>
  intro l v r' h
  rcases hw : wordR l with ⟨w, r⟩
  rw [hw] at h
  dsimp only at h
  cases w with
  | none => simp [valW] at h
  | phrase t => simp [valW] at h; obtain ⟨rfl, rfl⟩ := h; have := wordR_phrase hw; simp [szJ, szJs]; omega
  | number n => simp [valW] at h; obtain ⟨rfl, rfl⟩ := h; have := wordR_le hw (by simp); simp [szJ, szJs]; omega
  | value k b => simp [valW] at h; obtain ⟨rfl, rfl⟩ := h; have := wordR_le hw (by simp); simp [szJ, szJs]; omega
  | mark c => rw [valW] at h; split at h <;> simp at h
 | succ d ih =>
  intro l v r' h
  rcases hw : wordR l with ⟨w, r⟩
  rw [hw] at h
  dsimp only at h
  cases w with
  | none => simp [valW] at h
  | phrase t => simp [valW] at h; obtain ⟨rfl, rfl⟩ := h; have := wordR_phrase hw; simp [szJ, szJs]; omega
  | number n => simp [valW] at h; obtain ⟨rfl, rfl⟩ := h; have := wordR_le hw (by simp); simp [szJ, szJs]; omega
  | value k b => simp [valW] at h; obtain ⟨rfl, rfl⟩ := h; have := wordR_le hw (by simp); simp [szJ, szJs]; omega
  | mark c =>
   have h0 := wordR_le hw (by simp)
   rw [valW] at h
   split at h
   ·
    split at h
    ·
     unfold listR at h
     split at h
     ·
      rename_i r2 hw2
      simp at h
      obtain ⟨rfl, rfl⟩ := h
      have := wordR_le hw2 (by simp)
      simp [szJ, szJs]; omega
     ·
      rename_i w2 r2 _ hw2
      have h1 : loopL (valW d) (r.length + 1) [] (wordR r).1 (wordR r).2 = .ok (v, r') := by rw [hw2]; exact h
      have := loopL_sz _ ih _ _ _ _ _ h1
      rw [szJs] at this
      omega
    ·
     unfold objR at h
     split at h
     ·
      rename_i r2 hw2
      simp at h
      obtain ⟨rfl, rfl⟩ := h
      have := wordR_le hw2 (by simp)
      simp [szJ, szJs]; omega
     ·
      rename_i w2 r2 _ hw2
      have h1 : loopO (valW d) (r.length + 1) [] [] (wordR r).1 (wordR r).2 = .ok (v, r') := by rw [hw2]; exact h
      have := loopO_sz _ ih _ _ _ _ _ _ h1
      rw [szJs] at this
      simp only [List.map_nil, List.sum_nil] at this
      omega
   ·
    simp at h
theorem parse_sz {l : List UInt8} {v : Jv} (h : parseL l = (0, v)) : szJ v ≤ l.length := by
 unfold parseL at h
 split at h
 ·
  rename_i e he
  have := valW_err _ _ _ _ he
  injection h with h1 h2
  exact absurd h1 this
 ·
  rename_i v1 r1 hv
  split at h
  ·
   injection h with h1 h2
   rw [← h2]
   have := valW_sz 8 _ _ _ hv
   omega
  ·
   simp at h
mutual
theorem smJ_of_may : ∀ (v : Jv) (d : Nat), mayJ validL v d = true → szJ v ≤ 100000 → smJ v
 | .mk k b n s names kids, d, h, hs => by
  have hp := may_parts h
  have hr := may_range h
  have hl := szJs_len kids
  rw [szJ] at hs
  have hn : ∀ l : List (List UInt8), l.length ≤ (l.map fun p => p.length + 1).sum ∧ ∀ p ∈ l, p.length ≤ (l.map fun p => p.length + 1).sum := by
   intro l
   induction l with
   | nil => simp
   | cons x t ih =>
    simp only [List.map_cons, List.sum_cons, List.length_cons]
    refine ⟨by omega, fun p hp => ?_⟩
    rcases List.mem_cons.1 hp with rfl | hp
    ·
     omega
    ·
     have := ih.2 p hp; omega
  have hn2 := hn names
  rw [smJ]
  exact ⟨by omega, by omega, by omega, by omega, fun p hp => by have := hn2.2 p hp; omega, by omega, smJs_of_may kids (d + 1) hp.2.2 (by omega)⟩
theorem smJs_of_may : ∀ (ks : List Jv) (d : Nat), (∀ x ∈ ks, mayJ validL x d = true) → szJs ks ≤ 100000 → smJs ks
 | [], d, _, _ => by rw [smJs]; trivial
 | x :: ks, d, h, hs => by
  rw [szJs] at hs
  rw [smJs]
  exact ⟨smJ_of_may x d (h x (by simp)) (by omega), smJs_of_may ks d (fun y hy => h y (by simp [hy])) (by omega)⟩
end
end
end Go.Proofs.YtieppmppdmcleaaGreatDoor

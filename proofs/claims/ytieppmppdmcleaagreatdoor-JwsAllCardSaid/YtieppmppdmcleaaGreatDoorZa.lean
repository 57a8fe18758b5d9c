/- The plain law of what is signed: its text, what it says, that one key alone verifies it. No condition of its own. -/
import Derived.Test.YtieppmppdmcleaaGreatDoorWl
import Derived.Test.YtieppmppdmcleaaGreatDoorJ8
set_option linter.unusedVariables false
set_option linter.unusedSimpArgs false
set_option maxRecDepth 20000
namespace Go.Proofs.YtieppmppdmcleaaGreatDoor
namespace K9
open Go.RowKit
theorem may_pairZ {t : Tm} (h : mayB t = true) : ∃ c, mayT t 1 0 = (true, c) := by
 rw [mayB] at h
 cases hT : mayT t 1 0 with
 | mk b c => rw [hT] at h; have hb : b = true := h; subst hb; exact ⟨c, rfl⟩
theorem put_ofZ {t : Tm} (h : mayB t = true) : putT t = encT t := by rw [putT, if_pos h]
theorem put_noZ {t : Tm} (h : mayB t = false) : putT t = [] := by rw [putT, if_neg (by rw [h]; simp)]
theorem enc_posZ (t : Tm) : 0 < (encT t).length := by cases t; rw [encT]; simp
theorem take_putZ {t : Tm} (h : mayB t = true) : takeT (encT t) = .ok (t, (encT t).length) := by
 obtain ⟨c, hc⟩ := may_pairZ h
 have := dec_enc t 1 0 c hc 16 rfl [] []
 rw [List.nil_append, List.append_nil] at this
 rw [takeT, show ([] : List UInt8).length = 0 from rfl, Nat.zero_add] at *
 rw [this]
theorem one_putZ {t : Tm} (h : mayB t = true) : oneT (encT t) = .ok t := by
 rw [oneT, take_putZ h]
 simp
theorem mark_formZ {t : Tm} (h : mayB t = true) : markT t = 126 :: (B64.enc (encT t) ++ [126]) := by
 have := enc_posZ t
 rw [markT, put_ofZ h, if_neg (by omega)]
 rfl
theorem mark_noZ {t : Tm} (h : mayB t = false) : markT t = [] := by
 rw [markT, put_noZ h]; rfl
theorem mark_neZ {t : Tm} : markT t ≠ [] ↔ mayB t = true := by
 cases h : mayB t
 ·
  rw [mark_noZ h]; simp
 ·
  rw [mark_formZ h]; simp
theorem read_markZ {t : Tm} (h : mayB t = true) : readO (markT t) = some t := by
 have hs : sideB (markT t) = true := by
  rw [mark_formZ h, sideB]
  simp [List.isPrefixOf, List.isSuffixOf]
 have hm : midL (markT t) = B64.enc (encT t) := by
  rw [mark_formZ h, midL]
  simp
 rw [readO, if_pos hs, hm, innerO, B64.b64_dec_enc]
 simp only
 rw [one_putZ h]
theorem mark_injZ {t u : Tm} (ht : mayB t = true) (hu : mayB u = true) (h : markT t = markT u) : t = u := by
 have h1 := read_markZ ht
 rw [h, read_markZ hu] at h1
 injection h1 with h1
 exact h1.symm
def sigT (key : Int) (f : List UInt8) : Tm := .mk 6 0 ⟨#[]⟩ [.mk 2 key ⟨#[]⟩ [], .mk 1 0 ⟨f.toArray⟩ []]
theorem sig_may (key : Int) (f : List UInt8) : mayB (sigT key f) = decide (0 ≤ key ∧ key ≤ 1073741824 ∧ f.length ≤ 1024) := by
 have r0 : rightB 6 0 ⟨#[]⟩ 2 = true := by decide +kernel
 have r1 : rightB 2 key ⟨#[]⟩ 0 = decide (0 ≤ key ∧ key ≤ 1073741824) := by
  have e : (⟨#[]⟩ : ByteArray).toList = [] := by rw [ByteArray.toList_eq]
  simp only [rightB, e]
  rw [Bool.eq_iff_iff]
  simp [kidsN]
  omega
 have hsz : (⟨f.toArray⟩ : ByteArray).size = f.length := size_mks f
 have r2 : rightB 1 0 ⟨f.toArray⟩ 0 = decide (f.length ≤ 1024) := by
  have e0 : (⟨f.toArray⟩ : ByteArray).toList.isEmpty = true → f.length ≤ 1024 := by
   intro h
   have h2 : (⟨f.toArray⟩ : ByteArray).toList.length = f.length := by rw [ByteArray.toList_eq]
   rw [List.isEmpty_iff.1 h] at h2
   simp at h2
   omega
  simp only [rightB, hsz]
  rw [Bool.eq_iff_iff]
  simp [kidsN]
  constructor
  ·
   rintro (h | h)
   ·
    exact e0 (by simpa using h)
   ·
    omega
  ·
   intro h; exact .inr (by omega)
 rw [mayB, sigT, mayT]
 rw [if_neg (by rw [show [Tm.mk 2 key ⟨#[]⟩ [], Tm.mk 1 0 ⟨f.toArray⟩ []].length = 2 from rfl, r0]; simp)]
 rw [mayK, mayT]
 by_cases hk : 0 ≤ key ∧ key ≤ 1073741824
 ·
  rw [if_neg (by rw [show ([] : List Tm).length = 0 from rfl, r1]; simp [hk]), mayK]
  simp only
  rw [mayK, mayT]
  by_cases hf : f.length ≤ 1024
  ·
   rw [if_neg (by rw [show ([] : List Tm).length = 0 from rfl, r2]; simp [hf]), mayK]
   simp only
   rw [mayK]
   simp [hk, hf]
  ·
   rw [if_pos (by rw [show ([] : List Tm).length = 0 from rfl, r2]; simp [hf])]
   simp [hf]
 ·
  rw [if_pos (by rw [show ([] : List Tm).length = 0 from rfl, r1]; simp [hk])]
  have : ¬ (0 ≤ key ∧ key ≤ 1073741824 ∧ f.length ≤ 1024) := fun h => hk ⟨h.1, h.2.1⟩
  simp [this]
end K9
open Go.RowKit
def hdL : List UInt8 := [123, 34, 97, 108, 103, 34, 58, 34, 83, 89, 77, 34, 125]
def frontL (c : List UInt8) : List UInt8 := K9.B64.enc hdL ++ [46] ++ K9.B64.enc c
def signL (key : Int) (v : Jv) : List UInt8 :=
 if v.kind = 6 ∧ mayB v = true then (if K9.markT (K9.sigT key (frontL (printJ v))) = [] then [] else frontL (printJ v) ++ [46] ++ K9.markT (K9.sigT key (frontL (printJ v)))) else []
def verO (key : Int) (l : List UInt8) : Option Jv :=
 match splitC 46 l with
 | [_, b, _] =>
  match K9.B64.dec b with
  | none => none
  | some x => if (parseL x).1 = 0 ∧ signL key (parseL x).2 = l ∧ l ≠ [] then some (parseL x).2 else none
 | _ => none
theorem no_dot (b : List UInt8) : (K9.B64.enc b).count 46 = 0 := by
 rw [List.count_eq_zero]
 intro h
 have := List.all_eq_true.1 (K9.B64.enc_signs b) 46 h
 revert this
 decide +kernel
theorem no_dot_mark (t : K9.Tm) : (K9.markT t).count 46 = 0 := by
 cases h : K9.mayB t
 ·
  rw [K9.mark_noZ h]; rfl
 ·
  rw [K9.mark_formZ h, List.count_cons, List.count_append, no_dot]; rfl
theorem split_one (a r : List UInt8) (h : a.count 46 = 0) : splitC 46 (a ++ 46 :: r) = a :: splitC 46 r := by
 have h1 := (splitC_at 46 (a ++ 46 :: r) a.length (by simp) (fun k hk => by
  rw [List.getElem?_append_left hk]
  intro e
  have := List.mem_of_getElem? e
  rw [List.count_eq_zero] at h
  exact h this)).1
 rw [h1]
 simp
theorem split_sign {a b c : List UInt8} (ha : a.count 46 = 0) (hb : b.count 46 = 0) (hc : c.count 46 = 0) : splitC 46 (a ++ [46] ++ b ++ [46] ++ c) = [a, b, c] := by
 rw [show a ++ [46] ++ b ++ [46] ++ c = a ++ 46 :: (b ++ 46 :: c) by simp, split_one a _ ha, split_one b _ hb, splitC_none 46 c hc]
theorem sign_form {key : Int} {v : Jv} (h : signL key v ≠ []) : v.kind = 6 ∧ mayB v = true ∧ K9.mayB (K9.sigT key (frontL (printJ v))) = true ∧ signL key v = K9.B64.enc hdL ++ [46] ++ K9.B64.enc (printJ v) ++ [46] ++ K9.markT (K9.sigT key (frontL (printJ v))) := by
 unfold signL at h ⊢
 split at h
 ·
  rename_i h1
  split at h
  ·
   exact absurd rfl h
  ·
   rename_i h2
   refine ⟨h1.1, h1.2, K9.mark_neZ.1 h2, ?_⟩
   rw [if_pos h1, if_neg h2, frontL]
 ·
  exact absurd rfl h
theorem sign_parts {key : Int} {v : Jv} (h : signL key v ≠ []) : splitC 46 (signL key v) = [K9.B64.enc hdL, K9.B64.enc (printJ v), K9.markT (K9.sigT key (frontL (printJ v)))] := by
 rw [(sign_form h).2.2.2]
 exact split_sign (no_dot _) (no_dot _) (no_dot_mark _)
theorem print_may {v : Jv} (h : mayB v = true) : printJ v = jprint v := if_pos h
theorem ver_sign {key : Int} {v : Jv} (h : signL key v ≠ []) : verO key (signL key v) = some v := by
 have hp := sign_parts h
 obtain ⟨h1, h2, h3, h4⟩ := sign_form h
 rw [verO, hp]
 simp only
 rw [K9.B64.b64_dec_enc]
 simp only
 rw [print_may h2, parse_back h2, if_pos ⟨rfl, rfl, h⟩]
theorem ver_some {key : Int} {l : List UInt8} {v : Jv} (h : verO key l = some v) : signL key v = l ∧ l ≠ [] := by
 unfold verO at h
 split at h
 ·
  split at h
  ·
   cases h
  ·
   split at h
   ·
    rename_i h1
    injection h with h
    rw [← h]
    exact ⟨h1.2.1, h1.2.2⟩
   ·
    cases h
 ·
  cases h
theorem sig_inj {k m : Int} {f g : List UInt8} (hf : K9.mayB (K9.sigT k f) = true) (hg : K9.mayB (K9.sigT m g) = true) (h : K9.markT (K9.sigT k f) = K9.markT (K9.sigT m g)) : k = m ∧ f = g := by
 have := K9.mark_injZ hf hg h
 rw [K9.sigT, K9.sigT] at this
 injection this with _ _ _ h4
 injection h4 with h4 h5
 injection h4 with _ h6
 injection h5 with h5 _
 injection h5 with _ _ h7
 injection h7 with h7
 exact ⟨h6, List.toArray_inj h7⟩
theorem ver_other {k m : Int} {v : Jv} (h : signL k v ≠ []) (hv : (verO m (signL k v)).isSome = true) : k = m := by
 cases hx : verO m (signL k v) with
 | none => rw [hx] at hv; cases hv
 | some u =>
  obtain ⟨h1, h2⟩ := ver_some hx
  have hu : signL m u ≠ [] := by rw [h1]; exact h2
  have p1 := sign_parts hu
  rw [h1, sign_parts h] at p1
  injection p1 with _ p1
  injection p1 with _ p1
  injection p1 with p1 _
  exact (sig_inj (sign_form h).2.2.1 (sign_form hu).2.2.1 p1).1
theorem sign_ref (key : Int) (v : Jv) : signL key v = if 0 ≤ key ∧ key ≤ 1073741824 ∧ v.kind = 6 ∧ mayB v = true ∧ (frontL (printJ v)).length ≤ 1024 then frontL (printJ v) ++ [46] ++ K9.markT (K9.sigT key (frontL (printJ v))) else [] := by
 unfold signL
 by_cases h1 : v.kind = 6 ∧ mayB v = true
 ·
  rw [if_pos h1]
  have hs := K9.sig_may key (frontL (printJ v))
  by_cases h2 : 0 ≤ key ∧ key ≤ 1073741824 ∧ (frontL (printJ v)).length ≤ 1024
  ·
   rw [if_neg (K9.mark_neZ.2 (by rw [hs]; simpa using h2)), if_pos ⟨h2.1, h2.2.1, h1.1, h1.2, h2.2.2⟩]
  ·
   rw [if_pos (K9.mark_noZ (by rw [hs]; simpa using h2)), if_neg (fun h => h2 ⟨h.1, h.2.1, h.2.2.2.2⟩)]
 ·
  rw [if_neg h1, if_neg (fun h => h1 ⟨h.2.2.1, h.2.2.2.1⟩)]
end Go.Proofs.YtieppmppdmcleaaGreatDoor

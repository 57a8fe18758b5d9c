/- The plain laws of bytes that are a term: they are its own; and what follows for Take and One. No condition of its own. -/
import Derived.Test.YtekpdkjkkglcjaaDv
set_option linter.unusedVariables false
set_option linter.unusedSimpArgs false
set_option maxRecDepth 20000
namespace Go.Proofs.Ytekpdkjkkglcjaa
open Go.RowKit
theorem u8_of (a : UInt8) (x : Int) (h : x % 256 = (a.toNat : Int)) : byteI x = a := UInt8.toNat_inj.1 (by rw [byteI_nat, h]; omega)
theorem len_two {l : List UInt8} (h : l.length = 2) : ∃ a b, l = [a, b] := by
  rcases l with _ | ⟨a, _ | ⟨b, _ | ⟨c, l⟩⟩⟩ <;> simp at h
  exact ⟨a, b, rfl⟩
theorem len_four {l : List UInt8} (h : l.length = 4) : ∃ a b c d, l = [a, b, c, d] := by
  rcases l with _ | ⟨a, _ | ⟨b, _ | ⟨c, _ | ⟨d, _ | ⟨e, l⟩⟩⟩⟩⟩ <;> simp at h
  exact ⟨a, b, c, d, rfl⟩
theorem back_two {l : List UInt8} (h : l.length = 2) : numB (beN l : Nat) 2 = l := by
  obtain ⟨a, b, rfl⟩ := len_two h
  have h1 := a.toNat_lt
  have h2 := b.toNat_lt
  simp only [numB, if_true, beN, List.foldl]
  rw [u8_of a _ (by omega), u8_of b _ (by omega)]
theorem back_four {l : List UInt8} (h : l.length = 4) : numB (beN l : Nat) 4 = l := by
  obtain ⟨a, b, c, d, rfl⟩ := len_four h
  have h1 := a.toNat_lt
  have h2 := b.toNat_lt
  have h3 := c.toNat_lt
  have h4 := d.toNat_lt
  simp only [numB, if_neg (show ¬ (4 : Int) = 2 by decide), beN, List.foldl]
  rw [u8_of a _ (by omega), u8_of b _ (by omega), u8_of c _ (by omega), u8_of d _ (by omega)]
theorem num_ok {l : List UInt8} {p n most v q : Nat} (h : numT l p n most = .ok (v, q)) : v ≤ most ∧ q = p + n ∧ q ≤ l.length ∧ ∃ a, a.length = n ∧ beN a = v ∧ l.drop p = a ++ l.drop q := by
  rw [numT] at h
  split at h
  · cases h
  · split at h
    · cases h
    · injection h with h
      injection h with h1 h2
      refine ⟨by omega, h2.symm, by omega, (l.drop p).take n, by rw [List.length_take, List.length_drop]; omega, h1, ?_⟩
      rw [← h2, ← List.drop_drop, List.take_append_drop]
theorem atom_ok {l : List UInt8} {p q : Nat} {s : ByteArray} (h : atomT l p = .ok (s, q)) : s.size ≤ 1024 ∧ q ≤ l.length ∧ l.drop p = (numB s.size 2 ++ s.data.toList) ++ l.drop q := by
  rw [atomT] at h
  cases hN : numT l p 2 1024 with
  | error c => rw [hN] at h; cases h
  | ok r =>
    obtain ⟨m, q1⟩ := r
    rw [hN] at h
    simp only at h
    split at h
    · cases h
    · injection h with h
      injection h with h1 h2
      obtain ⟨hm, e1, h3, a, ha, hb, hd⟩ := num_ok hN
      have hs : s.size = m := by rw [Lib.size_eq, ← h1]; simp; omega
      refine ⟨by omega, by omega, ?_⟩
      have e9 : (l.drop q1).drop m = l.drop (q1 + m) := List.drop_drop ..
      rw [hs, hd, ← hb, back_two ha, List.append_assoc, ← h1, ← h2]
      have e8 := (List.take_append_drop m (l.drop q1)).symm
      rw [e9, hb] at *
      exact congrArg (a ++ ·) e8
theorem may_mk {kind n : Int} {s : ByteArray} {kids : List Tm} {deep : Int} {c c' : Nat} (hc : c + 1 ≤ 64) (hd : deep ≤ 16) (hr : rightB kind n s kids.length = true) (hk : mayK kids (deep + 1) (c + 1) = (true, c')) :
    mayT (.mk kind n s kids) deep c = (true, c') := by
  rw [mayT, if_neg (fun h => by rcases h with h | h | h; omega; omega; rw [hr] at h; cases h), hk]
theorem drop_at {l : List UInt8} {p : Nat} {x : UInt8} (h : l[p]? = some x) : l.drop p = x :: l.drop (p + 1) := by
  obtain ⟨h1, h2⟩ := List.getElem?_eq_some_iff.1 h
  rw [List.drop_eq_getElem_cons h1, h2]
def DecOk (d : Nat) : Prop := ∀ (l : List UInt8) (p n : Nat) (t : Tm) (q n' : Nat), decT d l p n = .ok (t, q, n') → mayT t (17 - (d : Int)) n = (true, n') ∧ q ≤ l.length ∧ l.drop p = encT t ++ l.drop q
theorem decK_ok (d : Nat) (hT : DecOk d) : ∀ (m : Nat) (l : List UInt8) (p n : Nat) (ts : List Tm) (q n' : Nat), p ≤ l.length → decK m d l p n = .ok (ts, q, n') →
    ts.length = m ∧ mayK ts (17 - (d : Int)) n = (true, n') ∧ q ≤ l.length ∧ l.drop p = encTs ts ++ l.drop q
  | 0, l, p, n, ts, q, n', hp, h => by
    rw [decK] at h
    injection h with h
    injection h with h1 h2
    injection h2 with h2 h3
    subst h1 h2 h3
    exact ⟨rfl, by rw [mayK], hp, by rw [encTs]; rfl⟩
  | m + 1, l, p, n, ts, q, n', hp, h => by
    rw [decK] at h
    cases hD : decT d l p n with
    | error c => rw [hD] at h; cases h
    | ok r =>
      obtain ⟨t, q1, n1⟩ := r
      rw [hD] at h
      simp only at h
      cases hK : decK m d l q1 n1 with
      | error c => rw [hK] at h; cases h
      | ok r =>
        obtain ⟨us, q2, n2⟩ := r
        rw [hK] at h
        simp only at h
        injection h with h
        injection h with h1 h2
        injection h2 with h2 h3
        subst h1 h2 h3
        obtain ⟨a1, a2, a3⟩ := hT l p n t q1 n1 hD
        obtain ⟨b1, b2, b3, b4⟩ := decK_ok d hT m l q1 n1 us q2 n2 a2 hK
        refine ⟨by rw [List.length_cons, b1], ?_, b3, by rw [a3, b4, encTs, List.append_assoc]⟩
        rw [mayK, a1]
        exact b2
theorem right_atom {s : ByteArray} (h : s.size ≤ 1024) : rightB 1 0 s 0 = true := by
  simp [rightB, kidsN]; right; omega
theorem right_nonce {v : Nat} (h : v ≤ 1073741824) : rightB 2 v ⟨#[]⟩ 0 = true := by
  have e : (⟨#[]⟩ : ByteArray).toList = [] := str_nil rfl
  simp [rightB, kidsN, e]
  omega
theorem right_more {k : Int} {m : Nat} (h : (m : Int) = kidsN k) : rightB k 0 ⟨#[]⟩ m = true := by
  have e : (⟨#[]⟩ : ByteArray).toList = [] := str_nil rfl
  simp [rightB, e, h]
theorem dec_ok : ∀ d, DecOk d
  | 0 => fun l p n t q n' h => by rw [decT] at h; cases h
  | d + 1 => fun l p n t q n' h => by
    have hT := dec_ok d
    rw [decT] at h
    split at h
    · cases h
    · rename_i hn
      split at h
      · cases h
      · rename_i x hx
        have hp : p + 1 ≤ l.length := (List.getElem?_eq_some_iff.1 hx).1
        have hdr := drop_at hx
        split at h
        · rename_i k1
          cases hA : atomT l (p + 1) with
          | error c => rw [hA] at h; cases h
          | ok r =>
            obtain ⟨s, q1⟩ := r
            rw [hA] at h
            simp only at h
            injection h with h
            injection h with h1 h2
            injection h2 with h2 h3
            subst h1 h2 h3
            obtain ⟨a1, a2, a3⟩ := atom_ok hA
            refine ⟨may_mk (by omega) (by omega) (right_atom a1) (by rw [mayK]), a2, ?_⟩
            rw [hdr, a3, enc_one, encTs, List.append_nil, u8_of x 1 (by omega)]
            rfl
        · split at h
          · rename_i k1 k2
            cases hA : numT l (p + 1) 4 1073741824 with
            | error c => rw [hA] at h; cases h
            | ok r =>
              obtain ⟨v, q1⟩ := r
              rw [hA] at h
              simp only at h
              injection h with h
              injection h with h1 h2
              injection h2 with h2 h3
              subst h1 h2 h3
              obtain ⟨a1, a2, a3, a, a4, a5, a6⟩ := num_ok hA
              refine ⟨may_mk (by omega) (by omega) (right_nonce a1) (by rw [mayK]), a3, ?_⟩
              rw [hdr, a6, enc_two, encTs, List.append_nil, u8_of x 2 (by omega), ← a5, back_four a4]
              rfl
          · split at h
            · rename_i k1 k2 k3
              cases hK : decK 1 d l (p + 1) (n + 1) with
              | error c => rw [hK] at h; cases h
              | ok r =>
                obtain ⟨us, q1, n1⟩ := r
                rw [hK] at h
                simp only at h
                injection h with h
                injection h with h1 h2
                injection h2 with h2 h3
                subst h1 h2 h3
                obtain ⟨b1, b2, b3, b4⟩ := decK_ok d hT 1 l (p + 1) (n + 1) us q1 n1 hp hK
                refine ⟨may_mk (by omega) (by omega) ?_ (by rw [show (17 - ((d + 1 : Nat) : Int) + 1) = 17 - (d : Int) by omega]; exact b2), b3, ?_⟩
                · rw [b1]; rcases k3 with k | k <;> rw [k] <;> exact right_more rfl
                · rw [hdr, b4, enc_more _ _ _ _ (by omega) (by omega), u8_of x x.toNat (by have := x.toNat_lt; omega)]
                  rfl
            · split at h
              · rename_i k1 k2 k3 k4
                cases hK : decK 2 d l (p + 1) (n + 1) with
                | error c => rw [hK] at h; cases h
                | ok r =>
                  obtain ⟨us, q1, n1⟩ := r
                  rw [hK] at h
                  simp only at h
                  injection h with h
                  injection h with h1 h2
                  injection h2 with h2 h3
                  subst h1 h2 h3
                  obtain ⟨b1, b2, b3, b4⟩ := decK_ok d hT 2 l (p + 1) (n + 1) us q1 n1 hp hK
                  refine ⟨may_mk (by omega) (by omega) ?_ (by rw [show (17 - ((d + 1 : Nat) : Int) + 1) = 17 - (d : Int) by omega]; exact b2), b3, ?_⟩
                  · rw [b1]; rcases k4 with k | k | k <;> rw [k] <;> exact right_more rfl
                  · rw [hdr, b4, enc_more _ _ _ _ (by omega) (by omega), u8_of x x.toNat (by have := x.toNat_lt; omega)]
                    rfl
              · cases h
end Go.Proofs.Ytekpdkjkkglcjaa

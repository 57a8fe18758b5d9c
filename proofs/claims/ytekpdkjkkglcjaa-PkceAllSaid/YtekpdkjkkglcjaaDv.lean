/- The plain laws of terms and bytes: what is written is read, what is read is written, cut off it is too short. No condition of its own. -/
import Derived.Test.YtekpdkjkkglcjaaDn
set_option linter.unusedVariables false
set_option linter.unusedSimpArgs false
set_option maxRecDepth 20000
namespace Go.Proofs.Ytekpdkjkkglcjaa
open Go.RowKit
theorem byteI_nat (x : Int) : (byteI x).toNat = (x % 256).toNat := by
  unfold byteI
  have h0 := Int.emod_nonneg x (show (256 : Int) ≠ 0 by decide)
  have h1 := Int.emod_lt_of_pos x (show (0 : Int) < 256 by decide)
  rw [UInt8.toNat_ofNat']
  omega
theorem be_two (v : Nat) (h : v ≤ 1024) : beN (numB v 2) = v := by
  simp only [numB, if_true, beN, List.foldl, byteI_nat]
  omega
theorem be_four (v : Nat) (h : v ≤ 1073741824) : beN (numB v 4) = v := by
  simp only [numB, if_neg (show ¬ (4 : Int) = 2 by decide), beN, List.foldl, byteI_nat]
  omega
theorem numB_len2 (v : Int) : (numB v 2).length = 2 := rfl
theorem numB_len4 (v : Int) : (numB v 4).length = 4 := rfl
theorem num_at (pre a rest : List UInt8) (most : Nat) : numT (pre ++ (a ++ rest)) pre.length a.length most = if most < beN a then .error 3 else .ok (beN a, pre.length + a.length) := by
  rw [numT, if_neg (by simp), List.drop_left, List.take_left]
theorem num_cut (pre a : List UInt8) (k n most : Nat) (h : k < n) (h2 : a.length ≤ k) : numT (pre ++ a) pre.length n most = .error 1 := by
  rw [numT, if_pos (by rw [List.length_append]; omega)]
theorem atom_at (pre rest : List UInt8) (s : ByteArray) (h : s.size ≤ 1024) : atomT (pre ++ ((numB s.size 2 ++ s.data.toList) ++ rest)) pre.length = .ok (s, pre.length + (2 + s.size)) := by
  have hn := num_at pre (numB s.size 2) (s.data.toList ++ rest) 1024
  rw [be_two _ h, if_neg (by omega), numB_len2] at hn
  have hl : s.data.toList.length = s.size := (Lib.size_eq s).symm
  rw [List.append_assoc, atomT, hn]
  simp only
  have hd : (pre ++ (numB s.size 2 ++ (s.data.toList ++ rest))).drop (pre.length + 2) = s.data.toList ++ rest := by
    rw [← List.append_assoc, show pre.length + 2 = (pre ++ numB s.size 2).length by rw [List.length_append, numB_len2], List.drop_left]
  rw [if_neg (by simp only [List.length_append, numB_len2, hl]; omega), hd, ← hl, List.take_left]
  rw [hl, Nat.add_assoc]
/-- what a node's shape says -/
theorem right_cases {kind n : Int} {s : ByteArray} {m : Nat} (h : rightB kind n s m = true) :
    (kind = 1 ∧ n = 0 ∧ m = 0 ∧ s.size ≤ 1024) ∨ (kind = 2 ∧ s = ⟨#[]⟩ ∧ m = 0 ∧ 0 ≤ n ∧ n ≤ 1073741824) ∨ ((kind = 3 ∨ kind = 4) ∧ n = 0 ∧ s = ⟨#[]⟩ ∧ m = 1) ∨ ((kind = 5 ∨ kind = 6 ∨ kind = 7) ∧ n = 0 ∧ s = ⟨#[]⟩ ∧ m = 2) := by
  rw [rightB, Bool.and_eq_true, Bool.and_eq_true, Bool.or_eq_true, Bool.or_eq_true, Bool.and_eq_true, Bool.and_eq_true, Bool.and_eq_true] at h
  obtain ⟨⟨h1, h2⟩, h3⟩ := h
  simp only [beq_iff_eq, decide_eq_true_eq] at h1 h2 h3
  have hs : s.toList.isEmpty = true → s = ⟨#[]⟩ ∧ s.size = 0 := fun e => by
    have e1 : s.toList = [] := by simpa using e
    have e2 : s.data.toList = [] := by rw [← ByteArray.toList_eq]; exact e1
    have e3 : s.data = #[] := by simpa using e2
    have : s = ⟨#[]⟩ := by cases s; simp at e3; rw [e3]
    exact ⟨this, by rw [this]; rfl⟩
  unfold kidsN at h1
  by_cases k1 : kind = 1
  · left
    rw [if_pos k1] at h1
    refine ⟨k1, by omega, by omega, ?_⟩
    rcases h2 with h2 | h2
    · rw [(hs h2).2]; omega
    · omega
  · have hse : s = ⟨#[]⟩ := by
      rcases h2 with h2 | h2
      · exact (hs h2).1
      · exact absurd h2.1 k1
    right
    rw [if_neg k1] at h1
    by_cases k2 : kind = 2
    · left
      rw [if_pos k2] at h1
      exact ⟨k2, hse, by omega, by omega, by omega⟩
    · right
      have hn : n = 0 := by omega
      rw [if_neg k2] at h1
      by_cases k3 : kind = 3
      · rw [if_pos k3] at h1; exact .inl ⟨.inl k3, hn, hse, by omega⟩
      · rw [if_neg k3] at h1
        by_cases k4 : kind = 4
        · rw [if_pos k4] at h1; exact .inl ⟨.inr k4, hn, hse, by omega⟩
        · rw [if_neg k4] at h1
          by_cases k5 : kind = 5
          · rw [if_pos k5] at h1; exact .inr ⟨.inl k5, hn, hse, by omega⟩
          · rw [if_neg k5] at h1
            by_cases k6 : kind = 6
            · rw [if_pos k6] at h1; exact .inr ⟨.inr (.inl k6), hn, hse, by omega⟩
            · rw [if_neg k6] at h1
              by_cases k7 : kind = 7
              · rw [if_pos k7] at h1; exact .inr ⟨.inr (.inr k7), hn, hse, by omega⟩
              · rw [if_neg k7] at h1; omega
theorem at_pre (pre : List UInt8) (x : UInt8) (r : List UInt8) : (pre ++ x :: r)[pre.length]? = some x := by
  rw [List.getElem?_append_right (Nat.le_refl _), Nat.sub_self]; rfl
theorem pre_cons (pre : List UInt8) (x : UInt8) (r : List UInt8) : pre ++ x :: r = (pre ++ [x]) ++ r := by rw [List.append_assoc]; rfl
theorem pre_len (pre : List UInt8) (x : UInt8) : pre.length + 1 = (pre ++ [x]).length := by rw [List.length_append]; rfl
theorem enc_two (n : Int) (s : ByteArray) (ks : List Tm) : encT (.mk 2 n s ks) = byteI 2 :: (numB n 4 ++ encTs ks) := by rw [encT]; rfl
theorem enc_one (n : Int) (s : ByteArray) (ks : List Tm) : encT (.mk 1 n s ks) = byteI 1 :: ((numB s.size 2 ++ s.data.toList) ++ encTs ks) := by rw [encT, if_pos rfl]
theorem enc_more (k n : Int) (s : ByteArray) (ks : List Tm) (h1 : k ≠ 1) (h2 : k ≠ 2) : encT (.mk k n s ks) = byteI k :: encTs ks := by rw [encT, if_neg h1, if_neg h2, List.nil_append]
theorem may_node_true {kind n : Int} {s : ByteArray} {kids : List Tm} {deep : Int} {c c' : Nat} (h : mayT (.mk kind n s kids) deep c = (true, c')) :
    c + 1 ≤ 64 ∧ deep ≤ 16 ∧ rightB kind n s kids.length = true ∧ mayK kids (deep + 1) (c + 1) = (true, c') := by
  rw [mayT] at h
  split at h
  · injection h with e; cases e
  · rename_i hn
    refine ⟨by omega, by omega, ?_, h⟩
    cases hB : rightB kind n s kids.length
    · exact absurd (.inr (.inr hB)) hn
    · rfl
theorem may_kids_true {k : Tm} {ks : List Tm} {deep : Int} {c c' : Nat} (h : mayK (k :: ks) deep c = (true, c')) : ∃ c1, mayT k deep c = (true, c1) ∧ mayK ks deep c1 = (true, c') := by
  rw [mayK] at h
  cases hT : mayT k deep c with
  | mk b c1 =>
    rw [hT] at h
    cases b
    · injection h with e; cases e
    · exact ⟨c1, rfl, h⟩
mutual
theorem dec_enc : ∀ (t : Tm) (deep : Int) (c c' : Nat), mayT t deep c = (true, c') → ∀ (d : Nat), deep + d = 17 → ∀ (pre rest : List UInt8),
    decT d (pre ++ (encT t ++ rest)) pre.length c = .ok (t, pre.length + (encT t).length, c')
  | .mk kind n s kids, deep, c, c', h, d, hd, pre, rest => by
    obtain ⟨hc, hdp, hr, hk⟩ := may_node_true h
    obtain ⟨d, rfl⟩ : ∃ e, d = e + 1 := ⟨d - 1, by omega⟩
    rcases right_cases hr with ⟨rfl, rfl, hm, hs⟩ | ⟨rfl, rfl, hm, hn0, hn1⟩ | ⟨hkd, rfl, rfl, hm⟩ | ⟨hkd, rfl, rfl, hm⟩
    · obtain rfl : kids = [] := List.eq_nil_of_length_eq_zero hm
      rw [mayK] at hk
      injection hk with _ hk
      rw [enc_one, encTs, List.append_nil, List.cons_append, decT, if_neg (by omega), at_pre]
      have e1 : (byteI 1).toNat = 1 := rfl
      simp only [e1]
      rw [if_pos trivial, pre_cons, pre_len, atom_at _ _ _ hs]
      simp only
      have hl : (numB (s.size : Int) 2 ++ s.data.toList).length = 2 + s.size := by rw [List.length_append, numB_len2, ← Lib.size_eq]
      rw [List.length_cons, hl, ← pre_len, hk]
      congr 3
      omega
    · obtain rfl : kids = [] := List.eq_nil_of_length_eq_zero hm
      rw [mayK] at hk
      injection hk with _ hk
      obtain ⟨v, rfl⟩ : ∃ v : Nat, n = v := ⟨n.toNat, by omega⟩
      rw [enc_two, encTs, List.append_nil, List.cons_append, decT, if_neg (by omega), at_pre]
      have e1 : (byteI 2).toNat = 2 := rfl
      simp only [e1]
      have hq := num_at (pre ++ [byteI 2]) (numB v 4) rest 1073741824
      rw [be_four _ (by omega), if_neg (by omega), numB_len4] at hq
      rw [if_neg (show ¬ (2 : Nat) = 1 by decide), if_pos trivial, pre_cons, pre_len, hq]
      simp only
      rw [List.length_cons, numB_len4, ← pre_len, hk]
    · have hK := decK_enc kids (deep + 1) (c + 1) c' hk d (by omega) (pre ++ [byteI kind]) rest
      rw [hm] at hK
      rw [enc_more _ _ _ _ (by omega) (by omega), List.cons_append, decT, if_neg (by omega), at_pre]
      have e1 : (byteI kind).toNat = kind.toNat := by rw [byteI_nat]; omega
      have e2 : ((kind.toNat : Nat) : Int) = kind := by omega
      simp only [e1]
      rw [if_neg (by omega), if_neg (by omega), if_pos (by omega), pre_cons, pre_len, hK]
      simp only
      rw [e2, List.length_cons, ← pre_len]
      congr 3
      omega
    · have hK := decK_enc kids (deep + 1) (c + 1) c' hk d (by omega) (pre ++ [byteI kind]) rest
      rw [hm] at hK
      rw [enc_more _ _ _ _ (by omega) (by omega), List.cons_append, decT, if_neg (by omega), at_pre]
      have e1 : (byteI kind).toNat = kind.toNat := by rw [byteI_nat]; omega
      have e2 : ((kind.toNat : Nat) : Int) = kind := by omega
      simp only [e1]
      rw [if_neg (by omega), if_neg (by omega), if_neg (by omega), if_pos (by omega), pre_cons, pre_len, hK]
      simp only
      rw [e2, List.length_cons, ← pre_len]
      congr 3
      omega
theorem decK_enc : ∀ (ks : List Tm) (deep : Int) (c c' : Nat), mayK ks deep c = (true, c') → ∀ (d : Nat), deep + d = 17 → ∀ (pre rest : List UInt8),
    decK ks.length d (pre ++ (encTs ks ++ rest)) pre.length c = .ok (ks, pre.length + (encTs ks).length, c')
  | [], deep, c, c', h, d, hd, pre, rest => by
    rw [mayK] at h
    injection h with _ h
    rw [List.length_nil, decK, encTs, h]
    rfl
  | k :: ks, deep, c, c', h, d, hd, pre, rest => by
    obtain ⟨c1, h1, h2⟩ := may_kids_true h
    have e1 := dec_enc k deep c c1 h1 d hd pre (encTs ks ++ rest)
    have e2 := decK_enc ks deep c1 c' h2 d hd (pre ++ encT k) rest
    rw [List.length_append] at e2
    rw [List.length_cons, decK, encTs, List.append_assoc, e1]
    simp only
    rw [← List.append_assoc, e2]
    simp only
    rw [List.length_append, Nat.add_assoc]
end
theorem take_nil_or (k : Nat) (x : UInt8) (l : List UInt8) : (x :: l).take (k + 1) = x :: l.take k := rfl
mutual
theorem dec_cut : ∀ (t : Tm) (deep : Int) (c c' : Nat), mayT t deep c = (true, c') → ∀ (d : Nat), deep + d = 17 → ∀ (pre : List UInt8) (k : Nat), k < (encT t).length →
    decT d (pre ++ (encT t).take k) pre.length c = .error 1
  | .mk kind n s kids, deep, c, c', h, d, hd, pre, k, hlt => by
    obtain ⟨hc, hdp, hr, hk⟩ := may_node_true h
    obtain ⟨d, rfl⟩ : ∃ e, d = e + 1 := ⟨d - 1, by omega⟩
    rw [decT, if_neg (by omega)]
    cases k with
    | zero =>
      rw [List.take_zero, List.append_nil, List.getElem?_eq_none (Nat.le_refl _)]
    | succ k =>
    rcases right_cases hr with ⟨rfl, rfl, hm, hs⟩ | ⟨rfl, rfl, hm, hn0, hn1⟩ | ⟨hkd, rfl, rfl, hm⟩ | ⟨hkd, rfl, rfl, hm⟩
    · obtain rfl : kids = [] := List.eq_nil_of_length_eq_zero hm
      rw [enc_one, encTs, List.append_nil] at hlt ⊢
      rw [List.length_cons, List.length_append, numB_len2, ← Lib.size_eq] at hlt
      rw [take_nil_or, at_pre]
      have e1 : (byteI 1).toNat = 1 := rfl
      simp only [e1]
      rw [if_pos trivial, pre_cons, pre_len]
      generalize pre ++ [byteI 1] = pre'
      have ha : atomT (pre' ++ (numB s.size 2 ++ s.data.toList).take k) pre'.length = .error 1 := by
        rw [atomT]
        by_cases h2 : k < 2
        · rw [num_cut _ _ k _ _ h2 (by rw [List.length_take]; omega)]
        · have e3 : (numB s.size 2 ++ s.data.toList).take k = numB s.size 2 ++ s.data.toList.take (k - 2) := by
            rw [List.take_append, List.take_of_length_le (by rw [numB_len2]; omega), numB_len2]
          have hn := num_at pre' (numB s.size 2) (s.data.toList.take (k - 2)) 1024
          rw [be_two _ hs, if_neg (by omega), numB_len2] at hn
          rw [e3, hn]
          simp only
          rw [if_pos (by simp only [List.length_append, numB_len2, List.length_take, ← Lib.size_eq]; omega)]
      rw [ha]
    · obtain rfl : kids = [] := List.eq_nil_of_length_eq_zero hm
      rw [enc_two, encTs, List.append_nil] at hlt ⊢
      rw [List.length_cons, numB_len4] at hlt
      rw [take_nil_or, at_pre]
      have e1 : (byteI 2).toNat = 2 := rfl
      simp only [e1]
      rw [if_neg (show ¬ (2 : Nat) = 1 by decide), if_pos trivial, pre_cons, pre_len, num_cut _ _ k _ _ (by omega) (by rw [List.length_take]; omega)]
    · rw [enc_more _ _ _ _ (by omega) (by omega)] at hlt ⊢
      rw [List.length_cons] at hlt
      have hK := decK_cut kids (deep + 1) (c + 1) c' hk d (by omega) (pre ++ [byteI kind]) k (by omega)
      rw [hm] at hK
      rw [take_nil_or, at_pre]
      have e1 : (byteI kind).toNat = kind.toNat := by rw [byteI_nat]; omega
      simp only [e1]
      rw [if_neg (by omega), if_neg (by omega), if_pos (by omega), pre_cons, pre_len, hK]
    · rw [enc_more _ _ _ _ (by omega) (by omega)] at hlt ⊢
      rw [List.length_cons] at hlt
      have hK := decK_cut kids (deep + 1) (c + 1) c' hk d (by omega) (pre ++ [byteI kind]) k (by omega)
      rw [hm] at hK
      rw [take_nil_or, at_pre]
      have e1 : (byteI kind).toNat = kind.toNat := by rw [byteI_nat]; omega
      simp only [e1]
      rw [if_neg (by omega), if_neg (by omega), if_neg (by omega), if_pos (by omega), pre_cons, pre_len, hK]
theorem decK_cut : ∀ (ks : List Tm) (deep : Int) (c c' : Nat), mayK ks deep c = (true, c') → ∀ (d : Nat), deep + d = 17 → ∀ (pre : List UInt8) (k : Nat), k < (encTs ks).length →
    decK ks.length d (pre ++ (encTs ks).take k) pre.length c = .error 1
  | [], deep, c, c', h, d, hd, pre, k, hlt => by rw [encTs] at hlt; simp at hlt
  | x :: ks, deep, c, c', h, d, hd, pre, k, hlt => by
    obtain ⟨c1, h1, h2⟩ := may_kids_true h
    rw [encTs, List.length_append] at hlt
    rw [List.length_cons, decK, encTs]
    by_cases hx : k < (encT x).length
    · have e1 := dec_cut x deep c c1 h1 d hd pre k hx
      rw [List.take_append_of_le_length (by omega), e1]
    · have e3 : (encT x ++ encTs ks).take k = encT x ++ (encTs ks).take (k - (encT x).length) := by
        rw [List.take_append, List.take_of_length_le (by omega)]
      have e1 := dec_enc x deep c c1 h1 d hd pre ((encTs ks).take (k - (encT x).length))
      have e2 := decK_cut ks deep c1 c' h2 d hd (pre ++ encT x) (k - (encT x).length) (by omega)
      rw [List.length_append] at e2
      rw [e3, e1]
      simp only
      rw [← List.append_assoc, e2]
end
end Go.Proofs.Ytekpdkjkkglcjaa

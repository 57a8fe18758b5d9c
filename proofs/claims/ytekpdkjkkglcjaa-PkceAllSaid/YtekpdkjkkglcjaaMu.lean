/- The plain law of sixty-four signs: what is written is read, what is read is written so; the two readers agree. No program in sight, no condition. -/
import Derived.Test.YtekpdkjkkglcjaaMt
set_option linter.unusedVariables false
set_option linter.unusedSimpArgs false
set_option maxRecDepth 20000
namespace Go.Proofs.Ytekpdkjkkglcjaa.B64
theorem getD_bt (l : List UInt8) (k : Nat) (h : k < l.length) : l.getD k 0 = l[k] := by
  rw [List.getD_eq_getElem?_getD, List.getElem?_eq_getElem h]; rfl
theorem part_chunk (p : List UInt8) (h : partOk p = true) (h4 : p.length ≤ 4) : chunk (thrL p) = p ∧ 1 < p.length := by
  simp only [partOk, Bool.and_eq_true, List.all_eq_true, decide_eq_true_eq] at h
  obtain ⟨⟨hs, hl⟩, h0, h1, h2, h3⟩ := h
  refine ⟨?_, hl⟩
  have hk : ∀ k (hk : k < p.length), sgn (sxt (thrL p) k) = p[k] := by
    intro k hk
    have e : sxt (thrL p) k = nm p k := by
      match k, hk with
      | 0, _ => exact h0
      | 1, _ => exact h1
      | 2, _ => exact h2
      | 3, _ => exact h3
      | k + 4, h => omega
    rw [e, nm, if_pos hk, getD_bt p k hk]
    exact sgn_num _ (hs _ (List.getElem_mem hk))
  apply List.ext_getElem
  · rw [chunk_length, thrL_length]; omega
  · intro k h1 h2
    simp only [chunk, List.getElem_map, List.getElem_range]
    exact hk k h2
theorem nm_chunk (o : List UInt8) (k : Nat) (h : k ≤ o.length) : nm (chunk o) k = sxt o k := by
  have hl : k < (chunk o).length := by rw [chunk_length]; omega
  rw [nm, if_pos hl, getD_bt _ _ hl]
  simp only [chunk, List.getElem_map, List.getElem_range]
  exact (num_sgn _ (sxt_lt o k)).1
theorem nm_chunk_out (o : List UInt8) (k : Nat) (h : o.length < k) : nm (chunk o) k = 0 := by
  have hl : ¬ k < (chunk o).length := by rw [chunk_length]; omega
  rw [nm, if_neg hl]
theorem thrL_chunk (o : List UInt8) : thrL (chunk o) = (List.range o.length).map fun k => UInt8.ofNat (thr (nm (chunk o) 0) (nm (chunk o) 1) (nm (chunk o) 2) (nm (chunk o) 3) k) := by
  rw [thrL, chunk_length, Nat.add_sub_cancel]
theorem key1 (a : UInt8) : sxt [a] 2 = 0 ∧ sxt [a] 3 = 0 ∧ thr (sxt [a] 0) (sxt [a] 1) 0 0 0 = a.toNat := by
  have ha := a.toNat_lt
  refine ⟨?_, ?_, ?_⟩ <;> simp [thr, sxt, vol] <;> omega
theorem key2 (a b : UInt8) : sxt [a, b] 3 = 0 ∧ thr (sxt [a, b] 0) (sxt [a, b] 1) (sxt [a, b] 2) 0 0 = a.toNat ∧ thr (sxt [a, b] 0) (sxt [a, b] 1) (sxt [a, b] 2) 0 1 = b.toNat := by
  have ha := a.toNat_lt
  have hb := b.toNat_lt
  refine ⟨?_, ?_, ?_⟩ <;> simp [thr, sxt, vol] <;> omega
theorem key3 (a b c : UInt8) : thr (sxt [a, b, c] 0) (sxt [a, b, c] 1) (sxt [a, b, c] 2) (sxt [a, b, c] 3) 0 = a.toNat ∧ thr (sxt [a, b, c] 0) (sxt [a, b, c] 1) (sxt [a, b, c] 2) (sxt [a, b, c] 3) 1 = b.toNat ∧ thr (sxt [a, b, c] 0) (sxt [a, b, c] 1) (sxt [a, b, c] 2) (sxt [a, b, c] 3) 2 = c.toNat := by
  have ha := a.toNat_lt
  have hb := b.toNat_lt
  have hc := c.toNat_lt
  refine ⟨?_, ?_, ?_⟩ <;> simp [thr, sxt, vol] <;> omega
theorem chunk_part (o : List UInt8) (h0 : o ≠ []) (h3 : o.length ≤ 3) : partOk (chunk o) = true ∧ thrL (chunk o) = o := by
  have hi : ∀ k, isSign (sgn (sxt o k)) = true := fun k => (num_sgn _ (sxt_lt o k)).2
  have key : thrL (chunk o) = o ∧ sxt o 0 = nm (chunk o) 0 ∧ sxt o 1 = nm (chunk o) 1 ∧ sxt o 2 = nm (chunk o) 2 ∧ sxt o 3 = nm (chunk o) 3 := by
    rw [thrL_chunk]
    rcases o with _ | ⟨a, _ | ⟨b, _ | ⟨c, _ | ⟨d, r⟩⟩⟩⟩
    · exact absurd rfl h0
    · obtain ⟨q2, q3, ev⟩ := key1 a
      rw [nm_chunk [a] 0 (by simp), nm_chunk [a] 1 (by simp), nm_chunk_out [a] 2 (by simp), nm_chunk_out [a] 3 (by simp)]
      exact ⟨by simp [List.range_succ, ev], rfl, rfl, q2, q3⟩
    · obtain ⟨q3, ev, ew⟩ := key2 a b
      rw [nm_chunk [a, b] 0 (by simp), nm_chunk [a, b] 1 (by simp), nm_chunk [a, b] 2 (by simp), nm_chunk_out [a, b] 3 (by simp)]
      exact ⟨by simp [List.range_succ, ev, ew], rfl, rfl, rfl, q3⟩
    · obtain ⟨ev, ew, ex⟩ := key3 a b c
      rw [nm_chunk [a, b, c] 0 (by simp), nm_chunk [a, b, c] 1 (by simp), nm_chunk [a, b, c] 2 (by simp), nm_chunk [a, b, c] 3 (by simp)]
      exact ⟨by simp [List.range_succ, ev, ew, ex], rfl, rfl, rfl, rfl⟩
    · simp at h3
  refine ⟨?_, key.1⟩
  simp only [partOk, Bool.and_eq_true, List.all_eq_true, decide_eq_true_eq, key.1]
  refine ⟨⟨fun x hx => ?_, ?_⟩, key.2⟩
  · simp only [chunk, List.mem_map] at hx
    obtain ⟨k, _, rfl⟩ := hx
    exact hi k
  · rw [chunk_length]
    have : 0 < o.length := List.length_pos_iff.2 h0
    omega
theorem b64_dec_enc : ∀ b : List UInt8, dec (enc b) = some b
  | [] => rfl
  | [a] => by
    have h := chunk_part [a] (by simp) (by simp)
    have hne : chunk [a] ≠ [] := by simp [chunk]
    rw [enc, dec_step _ hne, List.take_of_length_le (by rw [chunk_length]; simp), if_pos h.1, h.2, List.drop_of_length_le (by rw [chunk_length]; simp)]
    rfl
  | [a, b] => by
    have h := chunk_part [a, b] (by simp) (by simp)
    have hne : chunk [a, b] ≠ [] := by simp [chunk]
    rw [enc, dec_step _ hne, List.take_of_length_le (by rw [chunk_length]; simp), if_pos h.1, h.2, List.drop_of_length_le (by rw [chunk_length]; simp)]
    rfl
  | a :: b :: c :: r => by
    have h := chunk_part [a, b, c] (by simp) (by simp)
    have hl : (chunk [a, b, c]).length = 4 := chunk_length _
    have hne : chunk [a, b, c] ++ enc r ≠ [] := by simp [chunk]
    rw [enc, dec_step _ hne, List.take_left' hl, List.drop_left' hl, if_pos h.1, h.2, b64_dec_enc r]
    rfl
theorem enc_dec (n : Nat) : ∀ (l b : List UInt8), l.length ≤ n → dec l = some b → enc b = l := by
  induction n with
  | zero =>
    intro l b hl h
    obtain rfl : l = [] := List.eq_nil_of_length_eq_zero (by omega)
    simp only [dec, Option.some.injEq] at h
    subst h; rfl
  | succ n ih =>
    intro l b hl h
    rcases Decidable.em (l = []) with rfl | hne
    · simp only [dec, Option.some.injEq] at h
      subst h; rfl
    · rw [dec_step l hne] at h
      by_cases hp : partOk (l.take 4) = true
      · rw [if_pos hp] at h
        obtain ⟨b', hb', rfl⟩ := Option.map_eq_some_iff.1 h
        obtain ⟨hc, h1⟩ := part_chunk _ hp (List.length_take_le _ _)
        have hpos : 0 < l.length := List.length_pos_iff.2 hne
        have ih' := ih (l.drop 4) b' (by rw [List.length_drop]; omega) hb'
        rcases Nat.lt_or_ge l.length 4 with h4 | h4
        · rw [List.drop_of_length_le (by omega)] at hb' ih'
          simp only [dec, Option.some.injEq] at hb'
          subst hb'
          rw [List.append_nil, enc_small _ (by intro e; rw [e] at hc; rw [← hc] at h1; simp [chunk] at h1) (by rw [thrL_length, List.length_take]; omega), hc, List.take_of_length_le (by omega)]
        · have hl4 : (l.take 4).length = 4 := by rw [List.length_take]; omega
          rw [enc_append _ _ (by rw [thrL_length, hl4]), ih', enc_small _ (by intro e; have := congrArg List.length e; rw [thrL_length, hl4] at this; simp at this) (by rw [thrL_length, hl4]; decide), hc, List.take_append_drop]
      · rw [if_neg hp] at h; cases h
theorem enc_signs : ∀ b : List UInt8, (enc b).all isSign = true := by
  have hc : ∀ o : List UInt8, (chunk o).all isSign = true := by
    intro o
    rw [List.all_eq_true]
    intro x hx
    simp only [chunk, List.mem_map] at hx
    obtain ⟨k, _, rfl⟩ := hx
    exact (num_sgn _ (sxt_lt o k)).2
  intro b
  induction b using enc.induct with
  | case1 => rfl
  | case2 a => exact hc _
  | case3 a b => exact hc _
  | case4 a b c r ih => rw [enc, List.all_append, hc, ih]; rfl
theorem rst_enc_from : ∀ (b acc : List UInt8), ((enc b).foldl rstep ⟨acc, 0, 0⟩).out = acc ++ b := by
  have hn : ∀ o k, num (sgn (sxt o k)) = sxt o k := fun o k => (num_sgn _ (sxt_lt o k)).1
  intro b
  induction b using enc.induct with
  | case1 => intro acc; simp [enc]
  | case2 a =>
    intro acc
    have ha := a.toNat_lt
    have e : enc [a] = [sgn (sxt [a] 0), sgn (sxt [a] 1)] := rfl
    have ev : (sxt [a] 0 * 64 + sxt [a] 1) / 16 = a.toNat := by simp [sxt, vol]; omega
    rw [e]
    simp [rstep, hn, ev]
  | case3 a b =>
    intro acc
    have ha := a.toNat_lt
    have hb := b.toNat_lt
    have e : enc [a, b] = [sgn (sxt [a, b] 0), sgn (sxt [a, b] 1), sgn (sxt [a, b] 2)] := rfl
    have ev : (sxt [a, b] 0 * 64 + sxt [a, b] 1) / 16 = a.toNat := by simp [sxt, vol]; omega
    have ew : ((sxt [a, b] 0 * 64 + sxt [a, b] 1) % 16 * 64 + sxt [a, b] 2) / 4 = b.toNat := by simp [sxt, vol]; omega
    rw [e]
    simp [rstep, hn, ev, ew]
  | case4 a b c r ih =>
    intro acc
    have ha := a.toNat_lt
    have hb := b.toNat_lt
    have hc := c.toNat_lt
    have e : chunk [a, b, c] = [sgn (sxt [a, b, c] 0), sgn (sxt [a, b, c] 1), sgn (sxt [a, b, c] 2), sgn (sxt [a, b, c] 3)] := rfl
    have ev : (sxt [a, b, c] 0 * 64 + sxt [a, b, c] 1) / 16 = a.toNat := by simp [sxt, vol]; omega
    have ew : ((sxt [a, b, c] 0 * 64 + sxt [a, b, c] 1) % 16 * 64 + sxt [a, b, c] 2) / 4 = b.toNat := by simp [sxt, vol]; omega
    have ex : ((sxt [a, b, c] 0 * 64 + sxt [a, b, c] 1) % 16 * 64 + sxt [a, b, c] 2) % 4 * 64 + sxt [a, b, c] 3 = c.toNat := by simp [sxt, vol]; omega
    have key : (chunk [a, b, c]).foldl rstep ⟨acc, 0, 0⟩ = ⟨acc ++ [a, b, c], 0, 0⟩ := by
      rw [e]
      simp [rstep, hn, ev, ew, ex, Nat.mod_one]
    rw [enc, List.foldl_append, key, ih]
    simp
theorem rdec_eq (l : List UInt8) : rdec l = dec l := by
  by_cases h : l.all isSign = true ∧ enc (rst l).out = l
  · rw [rdec, if_pos h]
    have := b64_dec_enc (rst l).out
    rw [h.2] at this
    exact this.symm
  · rw [rdec, if_neg h]
    cases hd : dec l with
    | none => rfl
    | some b =>
      exfalso
      have he := enc_dec l.length l b (Nat.le_refl _) hd
      apply h
      have h2 : (rst l).out = b := by
        have := rst_enc_from b []
        rw [he] at this
        simpa [rst] using this
      exact ⟨by rw [← he]; exact enc_signs b, by rw [h2]; exact he⟩
theorem part_four (a b c d : UInt8) (h : [a, b, c, d].all isSign = true) : partOk [a, b, c, d] = true := by
  have e : ∀ x0 x1 x2 x3 : Nat, x0 < 64 → x1 < 64 → x2 < 64 → x3 < 64 →
      sxt [UInt8.ofNat (thr x0 x1 x2 x3 0), UInt8.ofNat (thr x0 x1 x2 x3 1), UInt8.ofNat (thr x0 x1 x2 x3 2)] 0 = x0 ∧
      sxt [UInt8.ofNat (thr x0 x1 x2 x3 0), UInt8.ofNat (thr x0 x1 x2 x3 1), UInt8.ofNat (thr x0 x1 x2 x3 2)] 1 = x1 ∧
      sxt [UInt8.ofNat (thr x0 x1 x2 x3 0), UInt8.ofNat (thr x0 x1 x2 x3 1), UInt8.ofNat (thr x0 x1 x2 x3 2)] 2 = x2 ∧
      sxt [UInt8.ofNat (thr x0 x1 x2 x3 0), UInt8.ofNat (thr x0 x1 x2 x3 1), UInt8.ofNat (thr x0 x1 x2 x3 2)] 3 = x3 := by
    intro x0 x1 x2 x3 h0 h1 h2 h3
    have t0 := thr_lt x0 x1 x2 x3 0
    have t1 := thr_lt x0 x1 x2 x3 1
    have t2 := thr_lt x0 x1 x2 x3 2
    simp only [sxt, vol, List.getD_cons_zero, List.getD_cons_succ, UInt8.toNat_ofNat', Nat.reducePow, Nat.reduceSub]
    rw [Nat.mod_eq_of_lt t0, Nat.mod_eq_of_lt t1, Nat.mod_eq_of_lt t2]
    simp only [thr, Nat.reducePow, Nat.reduceSub]
    omega
  simp only [partOk, Bool.and_eq_true, decide_eq_true_eq]
  refine ⟨⟨h, by simp⟩, ?_⟩
  have hl : thrL [a, b, c, d] = [UInt8.ofNat (thr (nm [a, b, c, d] 0) (nm [a, b, c, d] 1) (nm [a, b, c, d] 2) (nm [a, b, c, d] 3) 0), UInt8.ofNat (thr (nm [a, b, c, d] 0) (nm [a, b, c, d] 1) (nm [a, b, c, d] 2) (nm [a, b, c, d] 3) 1), UInt8.ofNat (thr (nm [a, b, c, d] 0) (nm [a, b, c, d] 1) (nm [a, b, c, d] 2) (nm [a, b, c, d] 3) 2)] := by
    rw [thrL]
    simp [List.range_succ]
  rw [hl]
  have hlt : ∀ k, nm [a, b, c, d] k < 64 := fun k => by unfold nm; split; exact num_lt _; decide
  exact e _ _ _ _ (hlt 0) (hlt 1) (hlt 2) (hlt 3)
theorem dec_eight (l : List UInt8) (h8 : l.length = 8) (h : l.all isSign = true) : ∃ b, dec l = some b := by
  match l, h8, h with
  | [a, b, c, d, e, f, g, i], _, h =>
    have h1 : [a, b, c, d].all isSign = true := by simp only [List.all_cons, Bool.and_eq_true, List.all_nil] at h ⊢; exact ⟨h.1, h.2.1, h.2.2.1, h.2.2.2.1, trivial⟩
    have h2 : [e, f, g, i].all isSign = true := by simp only [List.all_cons, Bool.and_eq_true, List.all_nil] at h ⊢; exact ⟨h.2.2.2.2.1, h.2.2.2.2.2.1, h.2.2.2.2.2.2.1, h.2.2.2.2.2.2.2.1, trivial⟩
    rw [dec, if_pos (part_four a b c d h1), dec, if_pos (part_four e f g i h2)]
    exact ⟨_, rfl⟩
theorem enc_length : ∀ l : List UInt8, (enc l).length = (l.length * 8 + 5) / 6
  | [] => rfl
  | [a] => by rw [enc, chunk_length]; simp
  | [a, b] => by rw [enc, chunk_length]; simp
  | a :: b :: c :: r => by
    rw [enc, List.length_append, chunk_length, enc_length r]
    simp only [List.length_cons, List.length_nil]
    omega
theorem enc_mod4 (b : List UInt8) : (enc b).length % 4 ≠ 1 := by
  rw [enc_length]; omega
theorem and63_any (x : Int) : ∃ q : Nat, q < 64 ∧ bits .and .i64 x 63 = (q : Int) := by
  have hx : BitVec.ofInt 64 x &&& BitVec.ofInt 64 63 ≤ BitVec.ofInt 64 63 := by
    rw [BitVec.le_def, BitVec.toNat_and]
    exact Nat.and_le_right
  have hn : (BitVec.ofInt 64 x &&& BitVec.ofInt 64 63).toNat ≤ 63 := hx
  refine ⟨(BitVec.ofInt 64 x &&& BitVec.ofInt 64 63).toNat, by omega, ?_⟩
  show IntKind.i64.wrap ((BitVec.ofInt 64 x &&& BitVec.ofInt 64 63).toNat : Int) = _
  rw [IntKind.wrap_i64]
  omega
end Go.Proofs.Ytekpdkjkkglcjaa.B64

/- The plain law of challenges; known; the statement PkceOne. No condition of its own. -/
import Derived.Test.YtekpdkjkkglcjaaNc
set_option linter.unusedVariables false
set_option linter.unusedSimpArgs false
set_option maxRecDepth 20000
namespace Go.Proofs.Ytekpdkjkkglcjaa
open Go.RowKit
theorem key_may (n : Nat) (h : n ≤ 1073741824) : mayB (.mk 2 (n : Int) ⟨#[]⟩ []) = true := by
  rw [mayB, may_mk (by omega) (by omega) (right_nonce (by omega)) (by rw [mayK])]
theorem hash_may (n : Nat) (h : n ≤ 1073741824) : mayB (hashT n) = true := by
  rw [mayB, hashT, may_mk (by omega) (by omega) (right_more rfl) (by rw [mayK, may_mk (by omega) (by omega) (right_nonce (by omega)) (by rw [mayK])]; simp only; rw [mayK])]
theorem mark_form {t : Tm} (h : mayB t = true) : markT t = 126 :: (B64.enc (encT t) ++ [126]) := by
  have := enc_pos t
  rw [markT, put_of h, if_neg (by omega)]
  rfl
theorem read_mark {t : Tm} (h : mayB t = true) : readO (markT t) = some t := by
  have hs : sideB (markT t) = true := by
    rw [mark_form h, sideB]
    simp [List.isPrefixOf, List.isSuffixOf]
  have hm : midL (markT t) = B64.enc (encT t) := by
    rw [mark_form h, midL]
    simp
  rw [readO, if_pos hs, hm, innerO, B64.b64_dec_enc]
  simp only
  rw [one_put h]
theorem mark_inj {t u : Tm} (ht : mayB t = true) (hu : mayB u = true) (h : markT t = markT u) : t = u := by
  have h1 := read_mark ht
  rw [h, read_mark hu] at h1
  injection h1 with h1
  exact h1.symm
theorem num_key (n : Nat) (h : n ≤ 1073741824) : numO (keyL n) = some (n : Int) := by
  rw [numO, keyL, read_mark (key_may n h)]
  rfl
theorem num_hash (n : Nat) (h : n ≤ 1073741824) : numO (markT (hashT n)) = none := by
  rw [numO, read_mark (hash_may n h)]
  rfl
theorem chal_key (n : Nat) (h : n ≤ 1073741824) : chalO (keyL n) = some (markT (hashT n)) := by rw [chalO, num_key n h]; rfl
theorem chal_hash (n : Nat) (h : n ≤ 1073741824) : chalO (markT (hashT n)) = none := by rw [chalO, num_hash n h]; rfl
theorem may_key (n : Nat) (h : n ≤ 1073741824) : mayC (keyL n) = false := by rw [mayC, keyL, read_mark (key_may n h)]; rfl
theorem may_hash (n : Nat) (h : n ≤ 1073741824) : mayC (markT (hashT n)) = true := by rw [mayC, read_mark (hash_may n h)]; rfl
theorem hash_eq (n m : Nat) (hn : n ≤ 1073741824) (hm : m ≤ 1073741824) : (markT (hashT n) == markT (hashT m)) = decide (n = m) := by
  rw [Bool.eq_iff_iff, beq_iff_eq, decide_eq_true_eq]
  constructor
  · intro h
    have := mark_inj (hash_may n hn) (hash_may m hm) h
    rw [hashT, hashT] at this
    injection this with _ _ _ h4
    injection h4 with h4
    injection h4 with _ h5
    omega
  · intro h; rw [h]
theorem key_eq (n m : Nat) (hn : n ≤ 1073741824) (hm : m ≤ 1073741824) : (keyL n == keyL m) = decide (n = m) := by
  rw [Bool.eq_iff_iff, beq_iff_eq, decide_eq_true_eq]
  constructor
  · intro h
    have := mark_inj (key_may n hn) (key_may m hm) h
    injection this with _ h5
    omega
  · intro h; rw [h]
theorem holds_key (n m : Nat) (hn : n ≤ 1073741824) (hm : m ≤ 1073741824) : holdsB (markT (hashT n)) (keyL m) = decide (m = n) := by
  rw [holdsB, chal_key m hm]
  exact hash_eq m n hm hn
theorem holds_self (n : Nat) (hn : n ≤ 1073741824) : holdsB (markT (hashT n)) (markT (hashT n)) = false := by rw [holdsB, chal_hash n hn]
theorem chal_x : chalO [120] = none := by
  have h : sideB [120] = false := by decide
  rw [chalO, numO, readO, h]
  rfl
theorem size_mk (l : List UInt8) : (⟨l.toArray⟩ : ByteArray).size = l.length := by simp [ByteArray.size]
theorem within18_walk (z n : Int) (w : World) (hn : 1 ≤ n) (hn2 : n ≤ 9223372036854775807) (hz : -9223372036854775808 ≤ z ∧ z ≤ 9223372036854775807) :
    Calls Try.prog 17 #[.int .i64 z, .int .i64 n] w fun e w' => e = .returned (.int .i64 (z % n)) ∧ w = w' := by
  have h0 := Int.emod_nonneg z (show n ≠ 0 by omega)
  have h1 := Int.emod_lt_of_pos z (show 0 < n by omega)
  obtain ⟨hz1, hz2⟩ := hz
  by_cases h : 0 ≤ z
  · go_enter Try.func17, Try.ntmps17
    go_wp2_with fail
    go_ret
    exact ⟨rfl, rfl⟩
  · obtain ⟨r, er⟩ : ∃ r, z.tmod n = r := ⟨_, rfl⟩
    have hr : r = z % n ∧ r = 0 ∨ r = z % n - n ∧ r < 0 := by
      rw [← er, Int.tmod_eq_emod]
      by_cases hd : n ∣ z
      · left
        have := Int.emod_eq_zero_of_dvd hd
        simp [hd]; omega
      · right
        simp only [hd, or_false, h, if_false]
        omega
    rcases hr with ⟨e1, e2⟩ | ⟨e1, e2⟩
    · have E := Lib.hid e1
      have hr0 : ¬ r < 0 := by omega
      have hz0 : z % n = 0 := by omega
      have hr0' : r = 0 := e2
      subst hr0'
      have HZ := Lib.hid hz0
      clear e1 hz0 h0 h1 e2
      go_enter Try.func17, Try.ntmps17
      go_wp2_with fail
      go_ret
      exact ⟨by rw [HZ.out]; rfl, rfl⟩
    · have E : Hid (r + n = z % n) := by show _ = _; omega
      have hr1 : -n ≤ r := by omega
      clear e1 h0 h1
      go_enter Try.func17, Try.ntmps17
      go_wp2_with fail
      go_ret
      exact ⟨by rw [← E.out]; rfl, rfl⟩
theorem chalk (n : Nat) (h : n ≤ 1073741824) (w : World) : Calls Try.prog 12 #[.string ⟨(keyL n).toArray⟩] w fun e w' => e = .returned (.tuple #[.string ⟨(markT (hashT n)).toArray⟩, .bool true]) ∧ Below w.heap.size w w' := by
  have hl := mark_le (.mk 2 (n : Int) ⟨#[]⟩ [])
  have := chal_walk ⟨(keyL n).toArray⟩ (keyL n) rfl w (by rw [size_mk, keyL]; omega)
  rw [chal_key n h] at this
  exact this
theorem chalh (n : Nat) (h : n ≤ 1073741824) (w : World) : Calls Try.prog 12 #[.string ⟨(markT (hashT n)).toArray⟩] w fun e w' => e = .returned (.tuple #[.string ⟨#[]⟩, .bool false]) ∧ Below w.heap.size w w' := by
  have hl := mark_le (hashT n)
  have := chal_walk ⟨(markT (hashT n)).toArray⟩ (markT (hashT n)) rfl w (by rw [size_mk]; omega)
  rw [chal_hash n h] at this
  exact this
theorem mayh (n : Nat) (h : n ≤ 1073741824) (w : World) : Calls Try.prog 13 #[.string ⟨(markT (hashT n)).toArray⟩] w fun e w' => e = .returned (.bool true) ∧ Below w.heap.size w w' := by
  have hl := mark_le (hashT n)
  have := cmay_walk ⟨(markT (hashT n)).toArray⟩ (markT (hashT n)) rfl w (by rw [size_mk]; omega)
  rw [may_hash n h] at this
  exact this
theorem mayk (n : Nat) (h : n ≤ 1073741824) (w : World) : Calls Try.prog 13 #[.string ⟨(keyL n).toArray⟩] w fun e w' => e = .returned (.bool false) ∧ Below w.heap.size w w' := by
  have hl := mark_le (.mk 2 (n : Int) ⟨#[]⟩ [])
  have := cmay_walk ⟨(keyL n).toArray⟩ (keyL n) rfl w (by rw [size_mk, keyL]; omega)
  rw [may_key n h] at this
  exact this
theorem holdk (n m : Nat) (hn : n ≤ 1073741824) (hm : m ≤ 1073741824) (w : World) : Calls Try.prog 15 #[.string ⟨(markT (hashT n)).toArray⟩, .string ⟨(keyL m).toArray⟩] w fun e w' => e = .returned (.bool (decide (m = n))) ∧ Below w.heap.size w w' := by
  have hl := mark_le (.mk 2 (m : Int) ⟨#[]⟩ [])
  have := holds_walk ⟨(markT (hashT n)).toArray⟩ ⟨(keyL m).toArray⟩ (markT (hashT n)) (keyL m) rfl rfl w (by rw [size_mk, keyL]; omega)
  rw [holds_key n m hn hm] at this
  exact this
theorem holdh (n : Nat) (hn : n ≤ 1073741824) (w : World) : Calls Try.prog 15 #[.string ⟨(markT (hashT n)).toArray⟩, .string ⟨(markT (hashT n)).toArray⟩] w fun e w' => e = .returned (.bool false) ∧ Below w.heap.size w w' := by
  have hl := mark_le (hashT n)
  have := holds_walk ⟨(markT (hashT n)).toArray⟩ ⟨(markT (hashT n)).toArray⟩ (markT (hashT n)) (markT (hashT n)) rfl rfl w (by rw [size_mk]; omega)
  rw [holds_self n hn] at this
  exact this
set_option maxHeartbeats 4000000 in
theorem known18_walk (w : World) : Calls Try.prog 5 #[] w fun e w' => e = .returned (.bool true) ∧ Below w.heap.size w w' := by
  have k7 := fun w => key_walk 7 w
  have k8 := fun w => key_walk 8 w
  have c7 := chalk 7 (by decide)
  have h77 := holdk 7 7 (by decide) (by decide)
  have h78 := holdk 7 8 (by decide) (by decide)
  have m7 := mayh 7 (by decide)
  have cx := fun w => chal_walk ⟨#[120]⟩ [120] rfl w (by decide)
  rw [chal_x] at cx
  have e7 : ((7 : Nat) : Int) = 7 := rfl
  have e8 : ((8 : Nat) : Int) = 8 := rfl
  simp only [e7, e8] at c7 h77 h78 m7
  clear e7 e8
  have K7 := Lib.hid k7
  have K8 := Lib.hid k8
  have C7 := Lib.hid c7
  have H77 := Lib.hid h77
  have H78 := Lib.hid h78
  have M7 := Lib.hid m7
  have CX := Lib.hid cx
  clear k7 k8 c7 h77 h78 m7 cx
  go_enter Try.func5, Try.ntmps5
  go_wp2_with fail
  refine (K7.out _).mono ?_
  rintro _ w1 ⟨rfl, hb⟩
  go_wp2_with fail
  refine (C7.out _).mono ?_
  rintro _ w2 ⟨rfl, hbn⟩
  replace hb := below_next hb hbn
  clear hbn
  go_wp2_with fail
  refine (CX.out _).mono ?_
  rintro _ w3 ⟨rfl, hbn⟩
  replace hb := below_next hb hbn
  clear hbn
  go_wp2_with fail
  refine (M7.out _).mono ?_
  rintro _ w4 ⟨rfl, hbn⟩
  replace hb := below_next hb hbn
  clear hbn
  go_wp2_with fail
  refine (K7.out _).mono ?_
  rintro _ w5 ⟨rfl, hbn⟩
  replace hb := below_next hb hbn
  clear hbn
  go_wp2_with fail
  refine (H77.out _).mono ?_
  rintro _ w6 ⟨rfl, hbn⟩
  replace hb := below_next hb hbn
  clear hbn
  go_wp2_with fail
  refine (K8.out _).mono ?_
  rintro _ w7 ⟨rfl, hbn⟩
  replace hb := below_next hb hbn
  clear hbn
  go_wp2_with fail
  refine (H78.out _).mono ?_
  rintro _ w8 ⟨rfl, hbn⟩
  replace hb := below_next hb hbn
  clear hbn
  go_wp2_with fail
  go_ret
  exact ⟨rfl, hb⟩
end Go.Proofs.Ytekpdkjkkglcjaa

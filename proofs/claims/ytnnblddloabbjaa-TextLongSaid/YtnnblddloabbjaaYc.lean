import Derived.Test.YtnnblddloabbjaaYb
set_option linter.unusedVariables false
namespace Go.Proofs.Ytnnblddloabbjaa
open Go.RowKit Tx
theorem name_euros (k : Nat) : nameB (euros k) = (decide (1 ≤ k) && decide (k ≤ 24)) := by
  have h1 : ((runes (euros k)).all fun x => shownB x.1) = true := by
    rw [runes_euros, List.all_eq_true]
    intro x hx
    rw [(List.mem_replicate.1 hx).2]
    decide
  have h2 : validL (euros k) = true := by
    rw [validL, runes_euros, List.all_eq_true]
    intro x hx
    rw [(List.mem_replicate.1 hx).2]
    decide
  rw [nameB, h1, h2, runes_euros, List.length_replicate]
  simp
theorem word_ws (j : Nat) : wordB (List.replicate j 119) = (decide (1 ≤ j) && decide (j ≤ 128)) := by
  have h1 : ((List.replicate j (119 : UInt8)).all fun b => plainB b.toNat) = true := by
    rw [List.all_eq_true]
    intro x hx
    rw [(List.mem_replicate.1 hx).2]
    decide
  rw [wordB, h1, List.length_replicate]
  simp
theorem token_ws (j : Nat) : isToken (List.replicate j 119) = decide (1 ≤ j) := by
  have h1 : ((List.replicate j (119 : UInt8)).all fun b => tokenB b.toNat) = true := by
    rw [List.all_eq_true]
    intro x hx
    rw [(List.mem_replicate.1 hx).2]
    decide
  rw [isToken, h1, List.length_replicate]
  simp
theorem euros_str (i : Nat) : (ByteArray.mk (euros i).toArray) ++ ⟨#[226, 130, 172]⟩ = ⟨(euros (i + 1)).toArray⟩ := by
  apply str_eq
  rw [← euros_snoc]
  simp
theorem ws_str (i : Nat) : (ByteArray.mk (Array.replicate i 119)) ++ ⟨#[119]⟩ = ⟨Array.replicate (i + 1) 119⟩ := by
  apply str_eq
  simp [List.replicate_succ']
set_option maxHeartbeats 4000000 in
set_option maxRecDepth 100000 in
theorem textLong_walk (n m : Int) (w : World) (hn : -9223372036854775808 ≤ n ∧ n ≤ 9223372036854775807) (hm : -9223372036854775808 ≤ m ∧ m ≤ 9223372036854775807) :
    Calls Try.prog 7 #[.int .i64 n, .int .i64 m] w fun e w' => e = .returned (.bool true) ∧ Below w.heap.size w w' := by
  have hb := Below.refl w.heap.size w
  obtain ⟨K, eK, hK⟩ : ∃ K : Nat, n % 40 = (K : Int) ∧ K < 40 := ⟨(n % 40).toNat, by omega, by omega⟩
  obtain ⟨J, eJ, hJ⟩ : ∃ J : Nat, m % 200 = (J : Int) ∧ J < 200 := ⟨(m % 200).toNat, by omega, by omega⟩
  have cK := Lib.hid (fun w => within6_walk n 40 w (by omega) (by omega) hn)
  have cJ := Lib.hid (fun w => within6_walk m 200 w (by omega) (by omega) hm)
  rw [eK] at cK
  rw [eJ] at cJ
  clear eK eJ hn hm
  have hel := euros_length
  have c1 := Lib.hid (fun w => name_walk ⟨(euros K).toArray⟩ (euros K) (by simp) w (by simp [ByteArray.size, hel]; omega))
  have c2 := Lib.hid (fun w => word_walk ⟨Array.replicate J 119⟩ (List.replicate J 119) (by simp) w (by simp [ByteArray.size]; omega))
  have c3 := Lib.hid (fun w => token_walk ⟨Array.replicate J 119⟩ (List.replicate J 119) (by simp) w (by simp [ByteArray.size]; omega))
  have c4 := Lib.hid (fun w => runes_walk ⟨(euros K).toArray⟩ (euros K) (by simp) w (by simp [ByteArray.size, hel]; omega))
  rw [name_euros] at c1
  rw [word_ws] at c2
  rw [token_ws] at c3
  rw [runes_euros, List.length_replicate] at c4
  clear hel
  go_enter Try.func7, Try.ntmps7
  go_wp2_with fail
  refine (known6_walk _).mono ?_
  rintro _ w1 ⟨rfl, hbn⟩
  replace hb := below_next hb hbn
  clear hbn
  go_wp2_with fail
  refine (cK.out _).mono ?_
  rintro _ w1 ⟨rfl, rfl⟩
  go_wp2_with fail
  refine (cJ.out _).mono ?_
  rintro _ w1 ⟨rfl, rfl⟩
  go_wp2_with fail
  go_loopw [7, 9] (fun sv nv wr => ∃ i : Nat, i ≤ K ∧ nv = .int .i64 i ∧ sv = .string ⟨(euros i).toArray⟩ ∧ w1 = wr) (fun _ nv _ => K - (intOf nv).toNat)
  case atStart => exact ⟨0, by omega, rfl, rfl, rfl⟩
  case round =>
    obtain ⟨i, hi, rfl, rfl, rfl⟩ := hrel
    by_cases hlt : i < K
    · have e := euros_str i
      have hel : (euros i).length < 1000 := by rw [euros_length]; omega
      go_wp2_with fail
      exact ⟨⟨i + 1, by omega, by go_num, rfl, trivial⟩, by simp [intOf]; omega⟩
    · obtain rfl : i = K := by omega
      go_wp2_with fail
      go_loopw [8, 10] (fun sv nv wr => ∃ j : Nat, j ≤ J ∧ nv = .int .i64 j ∧ sv = .string ⟨Array.replicate j 119⟩ ∧ w1 = wr) (fun _ nv _ => J - (intOf nv).toNat)
      case atStart => exact ⟨0, by omega, rfl, rfl, rfl⟩
      case round =>
        obtain ⟨j, hj, rfl, rfl, rfl⟩ := hrel
        by_cases hlt2 : j < J
        · have e := ws_str j
          go_wp2_with fail
          exact ⟨⟨j + 1, by omega, by go_num, rfl, trivial⟩, by simp [intOf]; omega⟩
        · obtain rfl : j = J := by omega
          clear hlt hlt2
          by_cases h1 : 1 ≤ i <;> by_cases h2 : i ≤ 24 <;> by_cases h3 : 1 ≤ j <;> by_cases h4 : j ≤ 128 <;> first | omega | skip
          all_goals
            first | (have d1 : decide (1 ≤ (i : Int)) = false := by (simp; omega)) | skip
            first | (have d3 : decide (1 ≤ (j : Int)) = false := by (simp; omega)) | skip
            first | (have d2 : decide ((i : Int) ≤ 24) = false := by (simp; omega)) | skip
            first | (have d4 : decide ((j : Int) ≤ 128) = false := by (simp; omega)) | skip
            simp only [h1, h2, h3, h4, decide_true, decide_false, Bool.and_true, Bool.and_false, Bool.false_and] at c1 c2 c3
            go_wp2_with fail
            refine (c1.out _).mono ?_
            rintro _ w1 ⟨rfl, hbn⟩
            replace hb := below_next hb hbn
            clear hbn
            go_wp2_with fail
            refine (c2.out _).mono ?_
            rintro _ w1 ⟨rfl, rfl⟩
            go_wp2_with fail
            refine (c3.out _).mono ?_
            rintro _ w1 ⟨rfl, rfl⟩
            go_wp2_with fail
            refine (c4.out _).mono ?_
            rintro _ w1 ⟨rfl, hbn⟩
            replace hb := below_next hb hbn
            clear hbn
            go_wp2_with fail
            go_ret
            exact ⟨rfl, hb⟩
end Go.Proofs.Ytnnblddloabbjaa

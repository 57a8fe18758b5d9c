/- The statement PkceOne. No condition of its own. -/
import Derived.Test.YtekpdkjkkglcjaaNd
set_option linter.unusedVariables false
set_option linter.unusedSimpArgs false
set_option maxRecDepth 20000
namespace Go.Proofs.Ytekpdkjkkglcjaa
open Go.RowKit
set_option maxRecDepth 100000 in
set_option maxHeartbeats 8000000 in
theorem pkceOne_law (n m : Int) (w : World) (hn : -9223372036854775808 ≤ n ∧ n ≤ 9223372036854775807) (hm : -9223372036854775808 ≤ m ∧ m ≤ 9223372036854775807) :
    Calls Try.prog 4 #[.int .i64 n, .int .i64 m] w fun e w' => e = .returned (.bool true) ∧ Below w.heap.size w w' := by
  have cn := fun w => within18_walk n 500 w (by decide) (by decide) hn
  have cm := fun w => within18_walk m 500 w (by decide) (by decide) hm
  obtain ⟨i, hi, hi2⟩ : ∃ i : Nat, n % 500 = (i : Int) ∧ i ≤ 1073741824 := ⟨(n % 500).toNat, by omega, by omega⟩
  obtain ⟨j, hj, hj2⟩ : ∃ j : Nat, m % 500 = (j : Int) ∧ j ≤ 1073741824 := ⟨(m % 500).toNat, by omega, by omega⟩
  rw [hi] at cn
  rw [hj] at cm
  have CN := Lib.hid cn
  have CM := Lib.hid cm
  have KI := Lib.hid (fun w => key_walk i w)
  have KJ := Lib.hid (fun w => key_walk j w)
  have CI := Lib.hid (chalk i hi2)
  have CJ := Lib.hid (chalk j hj2)
  have CX := Lib.hid (chalh i hi2)
  have HH := Lib.hid (holdk i j hi2 hj2)
  have MX := Lib.hid (mayh i hi2)
  have MA := Lib.hid (mayk i hi2)
  have HX := Lib.hid (holdh i hi2)
  have e1 : ((⟨(markT (hashT i)).toArray⟩ : ByteArray).toList == (⟨(markT (hashT j)).toArray⟩ : ByteArray).toList) = decide (i = j) := by rw [tolist_mk, tolist_mk]; exact hash_eq i j hi2 hj2
  have e2 : ((⟨(keyL i).toArray⟩ : ByteArray).toList == (⟨(keyL j).toArray⟩ : ByteArray).toList) = decide (i = j) := by rw [tolist_mk, tolist_mk]; exact key_eq i j hi2 hj2
  have e3 : decide (j = i) = decide (i = j) := by rw [decide_eq_decide]; exact eq_comm
  rw [e3] at HH
  clear cn cm hi hj hn hm e3
  generalize (⟨(markT (hashT i)).toArray⟩ : ByteArray) = X at *
  generalize (⟨(markT (hashT j)).toArray⟩ : ByteArray) = Y at *
  generalize (⟨(keyL i).toArray⟩ : ByteArray) = A at *
  generalize (⟨(keyL j).toArray⟩ : ByteArray) = B at *
  generalize decide (i = j) = b at *
  cases b
  all_goals
    go_enter Try.func4, Try.ntmps4
    go_wp2_with fail
    refine (known18_walk w).mono ?_
    rintro _ w1 ⟨rfl, hb⟩
    go_wp2_with fail
    refine (CN.out _).mono ?_
    rintro _ w1 ⟨rfl, rfl⟩
    go_wp2_with fail
    refine (KI.out _).mono ?_
    rintro _ w2 ⟨rfl, hbn⟩
    replace hb := below_next hb hbn
    clear hbn
    go_wp2_with fail
    refine (CM.out _).mono ?_
    rintro _ w2 ⟨rfl, rfl⟩
    go_wp2_with fail
    refine (KJ.out _).mono ?_
    rintro _ w3 ⟨rfl, hbn⟩
    replace hb := below_next hb hbn
    clear hbn
    go_wp2_with fail
    refine (CI.out _).mono ?_
    rintro _ w4 ⟨rfl, hbn⟩
    replace hb := below_next hb hbn
    clear hbn
    go_wp2_with fail
    refine (CJ.out _).mono ?_
    rintro _ w5 ⟨rfl, hbn⟩
    replace hb := below_next hb hbn
    clear hbn
    go_wp2_with fail
    refine (CX.out _).mono ?_
    rintro _ w6 ⟨rfl, hbn⟩
    replace hb := below_next hb hbn
    clear hbn
    go_wp2_with fail
    refine (HH.out _).mono ?_
    rintro _ w7 ⟨rfl, hbn⟩
    replace hb := below_next hb hbn
    clear hbn
    go_wp2_with fail
    refine (MX.out _).mono ?_
    rintro _ w8 ⟨rfl, hbn⟩
    replace hb := below_next hb hbn
    clear hbn
    go_wp2_with fail
    refine (MA.out _).mono ?_
    rintro _ w9 ⟨rfl, hbn⟩
    replace hb := below_next hb hbn
    clear hbn
    go_wp2_with fail
    refine (HX.out _).mono ?_
    rintro _ w10 ⟨rfl, hbn⟩
    replace hb := below_next hb hbn
    clear hbn
    go_wp2_with fail
    go_ret
    exact ⟨rfl, hb⟩
end Go.Proofs.Ytekpdkjkkglcjaa

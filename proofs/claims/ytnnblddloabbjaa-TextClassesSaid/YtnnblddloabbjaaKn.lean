import Derived.Test.YtnnblddloabbjaaRk
import Derived.Test.YtnnblddloabbjaaRt
import Derived.Test.YtnnblddloabbjaaTf
import Derived.Test.YtnnblddloabbjaaSo
set_option linter.unusedVariables false
namespace Go.Proofs.Ytnnblddloabbjaa
open Go.RowKit Tx
theorem below_next {w0 w1 w2 : World} (h : Below w0.heap.size w0 w1) (k : Below w1.heap.size w1 w2) : Below w0.heap.size w0 w2 := h.trans (k.mono h.size)
theorem within6_walk (z n : Int) (w : World) (hn : 1 ≤ n) (hn2 : n ≤ 9223372036854775807) (hz : -9223372036854775808 ≤ z ∧ z ≤ 9223372036854775807) :
    Calls Try.prog 18 #[.int .i64 z, .int .i64 n] w fun e w' => e = .returned (.int .i64 (z % n)) ∧ w = w' := by
  have h0 := Int.emod_nonneg z (show n ≠ 0 by omega)
  have h1 := Int.emod_lt_of_pos z (show 0 < n by omega)
  obtain ⟨hz1, hz2⟩ := hz
  by_cases h : 0 ≤ z
  · go_enter Try.func18, Try.ntmps18
    go_wp2_with fail
    go_ret
    exact ⟨rfl, rfl⟩
  · obtain ⟨r, er⟩ : ∃ r, z.tmod n = r := ⟨_, rfl⟩
    have hr : r = z % n ∧ r = 0 ∨ r = z % n - n ∧ r < 0 := by
      rw [← er, Int.tmod_eq_emod]
      by_cases hd : n ∣ z
      · left
        have := Int.emod_eq_zero_of_dvd hd
        simp [hd]; omega
      · right
        simp only [hd, or_false, h, if_false]
        omega
    rcases hr with ⟨e1, e2⟩ | ⟨e1, e2⟩
    · have E := Lib.hid e1
      have hr0 : ¬ r < 0 := by omega
      have hz0 : z % n = 0 := by omega
      have hr0' : r = 0 := e2
      subst hr0'
      have HZ := Lib.hid hz0
      clear e1 hz0 h0 h1 e2
      go_enter Try.func18, Try.ntmps18
      go_wp2_with fail
      go_ret
      exact ⟨by rw [HZ.out]; rfl, rfl⟩
    · have E : Hid (r + n = z % n) := by show _ = _; omega
      have hr1 : -n ≤ r := by omega
      clear e1 h0 h1
      go_enter Try.func18, Try.ntmps18
      go_wp2_with fail
      go_ret
      exact ⟨by rw [← E.out]; rfl, rfl⟩
set_option maxHeartbeats 2000000 in
theorem known6_walk (w : World) : Calls Try.prog 8 #[] w fun e w' => e = .returned (.bool true) ∧ Below w.heap.size w w' := by
  have k1 := Lib.hid (fun w => clip_walk ⟨#[195, 169, 98]⟩ [195, 169, 98] rfl 1 w (by decide) (by omega))
  rw [show (ByteArray.mk #[195, 169, 98]).extract 0 (widths [195, 169, 98] 1) = ⟨#[195, 169]⟩ by kernel_rfl] at k1
  have k2 := Lib.hid (fun w => runes_walk ⟨#[195, 169, 98]⟩ [195, 169, 98] rfl w (by decide))
  rw [show (runes [195, 169, 98]).length = 2 by kernel_rfl] at k2
  have k3 := Lib.hid (fun w => word_walk ⟨#[97, 32, 98]⟩ [97, 32, 98] rfl w (by decide))
  rw [show wordB [97, 32, 98] = false by kernel_rfl] at k3
  have k4 := Lib.hid (fun w => word_walk ⟨#[97]⟩ [97] rfl w (by decide))
  rw [show wordB [97] = true by kernel_rfl] at k4
  have k5 := Lib.hid (fun w => valid_walk ⟨#[]⟩ [] rfl w (by decide))
  rw [show validL [] = true by kernel_rfl] at k5
  have k6 := Lib.hid (fun w => valid_walk ⟨#[255]⟩ [255] rfl w (by decide))
  rw [show validL [255] = false by kernel_rfl] at k6
  have k7 := Lib.hid (fun w => name_walk ⟨#[97]⟩ [97] rfl w (by decide))
  rw [show nameB [97] = true by kernel_rfl] at k7
  have k8 := Lib.hid (fun w => token_walk ⟨#[97]⟩ [97] rfl w (by decide))
  rw [show isToken [97] = true by kernel_rfl] at k8
  have k9 := Lib.hid (fun w => seen_walk ⟨#[97, 32, 98]⟩ [97, 32, 98] rfl w (by decide))
  rw [show (([97, 32, 98] : List UInt8).all fun b => seenB b.toNat) = true by kernel_rfl] at k9
  have k10 := Lib.hid (fun w => fold_walk ⟨#[65, 98]⟩ [65, 98] rfl w (by decide))
  rw [show (ByteArray.mk (foldL [65, 98]).toArray) = ⟨#[97, 98]⟩ by kernel_rfl] at k10
  have hb := Below.refl w.heap.size w
  go_enter Try.func8, Try.ntmps8
  go_wp2_with fail
  refine (k1.out _).mono ?_
  rintro _ w1 ⟨rfl, hbn⟩
  replace hb := below_next hb hbn
  clear hbn
  go_wp2_with fail
  refine (k2.out _).mono ?_
  rintro _ w1 ⟨rfl, hbn⟩
  replace hb := below_next hb hbn
  clear hbn
  go_wp2_with fail
  refine (k3.out _).mono ?_
  rintro _ w1 ⟨rfl, rfl⟩
  go_wp2_with fail
  refine (k4.out _).mono ?_
  rintro _ w1 ⟨rfl, rfl⟩
  go_wp2_with fail
  refine (k5.out _).mono ?_
  rintro _ w1 ⟨rfl, hbn⟩
  replace hb := below_next hb hbn
  clear hbn
  go_wp2_with fail
  refine (k6.out _).mono ?_
  rintro _ w1 ⟨rfl, hbn⟩
  replace hb := below_next hb hbn
  clear hbn
  go_wp2_with fail
  refine (k7.out _).mono ?_
  rintro _ w1 ⟨rfl, hbn⟩
  replace hb := below_next hb hbn
  clear hbn
  go_wp2_with fail
  refine (k8.out _).mono ?_
  rintro _ w1 ⟨rfl, rfl⟩
  go_wp2_with fail
  refine (k9.out _).mono ?_
  rintro _ w1 ⟨rfl, rfl⟩
  go_wp2_with fail
  refine (k10.out _).mono ?_
  rintro _ w1 ⟨rfl, hbn⟩
  replace hb := below_next hb hbn
  clear hbn
  go_wp2_with fail
  go_ret
  exact ⟨rfl, hb⟩
end Go.Proofs.Ytnnblddloabbjaa

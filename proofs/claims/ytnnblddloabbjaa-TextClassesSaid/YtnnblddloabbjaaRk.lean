import Derived.Test.YtnnblddloabbjaaRj
set_option linter.unusedVariables false
namespace Go.Proofs.Ytnnblddloabbjaa
open Go.RowKit Tx
theorem name_no1 {l : List UInt8} (h : validL l = false) : nameB l = false := by simp [nameB, h]
theorem name_no2 {l : List UInt8} (h : ¬ 1 ≤ (runes l).length) : nameB l = false := by simp [nameB, h]
set_option maxHeartbeats 2000000 in
theorem rname_walk (s : ByteArray) (l : List UInt8) (hs : s.data.toList = l) (w : World) (hm : s.size ≤ 1000000) :
    Calls Try.prog 15 #[.string s] w fun e w' => e = .returned (.bool (nameB l)) ∧ Below w.heap.size w w' := by
  have hrl := runes_le l
  have hsz : l.length = s.size := by rw [← hs, Lib.size_eq]
  have cv := Lib.hid (fun w => rvalid_walk s l hs w hm)
  have cr := Lib.hid (fun w => rrunes_walk s l hs w hm)
  cases hV : validL l
  · have hv := Lib.hid (name_no1 hV)
    rw [hV] at cv
    clear hV
    go_enter Try.func15, Try.ntmps15
    go_wp2_with fail
    refine (cv.out _).mono ?_
    rintro _ w1 ⟨rfl, hb1⟩
    go_wp2_with fail
    go_ret
    exact ⟨by rw [hv.out]; rfl, hb1⟩
  rw [hV] at cv
  by_cases h1 : 1 ≤ (runes l).length
  · by_cases h24 : (runes l).length ≤ 24
    · have h24i : ¬ (24 : Int) < ((runes l).length : Int) := by omega
      have h1i : ¬ ((runes l).length : Int) < 1 := by omega
      have HV := Lib.hid hV
      clear hV
      go_enter Try.func15, Try.ntmps15
      go_wp2_with fail
      refine (cv.out _).mono ?_
      rintro _ w1 ⟨rfl, hb1⟩
      go_wp2_with fail
      refine (cr.out _).mono ?_
      rintro _ w2 ⟨rfl, hb2⟩
      go_wp2_with fail
      refine (cr.out _).mono ?_
      rintro _ w3 ⟨rfl, hb3⟩
      have hb4 : Below w.heap.size w w3 := (hb1.trans (hb2.mono hb1.size)).trans (hb3.mono (Nat.le_trans hb1.size hb2.size))
      clear hb1 hb2 hb3
      go_wp2_with fail
      go_loopg [3] ((runes l).length) (fun q iv wr => ∃ k p : Nat, k + q = (runes l).length ∧ iv = .int .i64 p ∧ p ≤ s.size ∧ Hid (posAt l k = p) ∧ Hid (∀ j x, j < k → (runes l)[j]? = some x → shownB x.1 = true) ∧ Below w.heap.size w wr)
      case atStart => exact ⟨0, 0, by omega, rfl, by omega, rfl, fun j x hj => by omega, hb4⟩
      case round =>
        obtain ⟨k, p, hk, rfl, hp, HP, hno, hbl⟩ := hrel
        by_cases hlt : p < s.size
        · obtain ⟨r, n, hr1, hr2, hn2, hr3, hn1, hpn, hk2, hp2, hc⟩ := front_more (k := k) hs (by omega) hm (by rw [HP.out]; exact hlt)
          rw [HP.out] at hc hp2 hpn
          have HC := Lib.hid hc
          have HP2 := Lib.hid hp2
          have es : Hid (shownB r = (decide (32 < r) && (decide (r < 127) || decide (160 < r)))) := rfl
          cases hsh : shownB r
          · have hv := Lib.hid (name_hidden hr1 hr2 hsh)
            rw [hsh] at es
            have hcase : r ≤ 32 ∨ 127 ≤ r ∧ r ≤ 160 := by
              have := es.out
              simp at this
              omega
            clear hr1 hr2 hn2 hc hp2 HP hsh
            rcases hcase with hca | ⟨hca, hcb⟩
            · go_wp2_with fail
              refine (HC.out _).mono ?_
              rintro _ w1 ⟨rfl, hb1⟩
              go_wp2_with fail
              go_ret
              exact ⟨by rw [hv.out]; rfl, hbl.trans (hb1.mono hbl.size)⟩
            · go_wp2_with fail
              refine (HC.out _).mono ?_
              rintro _ w1 ⟨rfl, hb1⟩
              go_wp2_with fail
              go_ret
              exact ⟨by rw [hv.out]; rfl, hbl.trans (hb1.mono hbl.size)⟩
          · have HN := Lib.hid (upto_succ (p := fun x => shownB x = true) hno.out hr1 hr2 hsh)
            rw [hsh] at es
            have hcase : 33 ≤ r ∧ (r < 127 ∨ 160 < r) := by
              have := es.out
              simp at this
              omega
            obtain ⟨hc0, hcase⟩ := hcase
            clear hr1 hr2 hn2 hc hp2 HP hsh
            rcases hcase with hca | hca
            all_goals
              go_wp2_with fail
              refine (HC.out _).mono ?_
              rintro _ w1 ⟨rfl, hb1⟩
              go_wp2_with fail
              go_roundg (gk - 1)
              case rel => exact ⟨k + 1, p + n, by omega, by go_num, by omega, HP2, HN, hbl.trans (hb1.mono hbl.size)⟩
              case measure => omega
        · have hke := front_end hs (k := k) (by omega) (by rw [HP.out]; exact hlt)
          have hv := Lib.hid (name_end (fun j x hj => hno.out j x (by omega)) h24)
          clear hke
          go_wp2_with fail
          go_ret
          refine ⟨?_, hbl⟩
          rw [hv.out, HV.out, decide_eq_true h1]
          rfl
    · have hv := Lib.hid (name_long (l := l) (by omega))
      clear hV
      go_enter Try.func15, Try.ntmps15
      go_wp2_with fail
      refine (cv.out _).mono ?_
      rintro _ w1 ⟨rfl, hb1⟩
      go_wp2_with fail
      refine (cr.out _).mono ?_
      rintro _ w2 ⟨rfl, hb2⟩
      go_wp2_with fail
      refine (cr.out _).mono ?_
      rintro _ w3 ⟨rfl, hb3⟩
      go_wp2_with fail
      go_ret
      exact ⟨by rw [hv.out]; rfl, (hb1.trans (hb2.mono hb1.size)).trans (hb3.mono (Nat.le_trans hb1.size hb2.size))⟩
  · have hv := Lib.hid (name_no2 h1)
    clear hV
    go_enter Try.func15, Try.ntmps15
    go_wp2_with fail
    refine (cv.out _).mono ?_
    rintro _ w1 ⟨rfl, hb1⟩
    go_wp2_with fail
    refine (cr.out _).mono ?_
    rintro _ w2 ⟨rfl, hb2⟩
    go_wp2_with fail
    go_ret
    exact ⟨by rw [hv.out]; rfl, hb1.trans (hb2.mono hb1.size)⟩
end Go.Proofs.Ytnnblddloabbjaa

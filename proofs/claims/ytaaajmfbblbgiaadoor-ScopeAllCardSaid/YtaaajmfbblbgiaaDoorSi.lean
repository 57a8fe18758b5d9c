/- countersignlaw16.within, known; plain laws of words. No condition of its own. -/
import Derived.Test.YtaaajmfbblbgiaaDoorSh
import Derived.Test.YtaaajmfbblbgiaaDoorIw
set_option linter.unusedVariables false
set_option linter.unusedSimpArgs false
set_option maxRecDepth 20000
namespace Go.Proofs.YtaaajmfbblbgiaaDoor
open Go.RowKit
theorem tape_new {w : World} {A : Option Addr} {c : Nat} {zs : List Int} (h : IntsIn w A c zs) :
    TapeAt (w.alloc (.cells #[.slice A zs.length c, .int .i64 0] 26)) w.heap.size zs 0 :=
  ⟨Nat.zero_le _, h.2.1, h.2.2.1, A, c, h.1, Blk.new _ _ _, h.2.2.2.alloc (Nat.le_refl _) _⟩
theorem ParseR.ok {ps : List (List UInt8)} {w w' : World} {e : Ending} (h : ParseR ps w e w') (h0 : scopeE ps = 0) : ∃ g c, e = .returned (.tuple #[.slice (some ⟨g, 0, none⟩) ps.length c, .int .i64 0]) ∧ Below w.heap.size w w' ∧ ps.length ≤ c ∧ c ≤ 9223372036854775807 ∧ RowS w' g ps := by
  obtain ⟨hb, ⟨_, g, c, he, _, h1, h2, hr⟩ | ⟨hn, _⟩⟩ := h
  · exact ⟨g, c, he, hb, h1, h2, hr⟩
  · exact absurd h0 hn
theorem ParseR.err {ps : List (List UInt8)} {w w' : World} {e : Ending} (h : ParseR ps w e w') (n : Nat) (h0 : scopeE ps = n) (hn : n ≠ 0) : e = .returned (.tuple #[.slice none 0 0, .int .i64 n]) ∧ Below w.heap.size w w' := by
  obtain ⟨hb, ⟨h1, _⟩ | ⟨_, he⟩⟩ := h
  · exact absurd (h0.symm.trans h1) hn
  · rw [h0] at he; exact ⟨he, hb⟩
theorem within16_walk (z n : Int) (w : World) (hn : 1 ≤ n) (hn2 : n ≤ 9223372036854775807) (hz : -9223372036854775808 ≤ z ∧ z ≤ 9223372036854775807) :
    Calls Tryd.prog 16 #[.int .i64 z, .int .i64 n] w fun e w' => e = .returned (.int .i64 (z % n)) ∧ w = w' := by
  have h0 := Int.emod_nonneg z (show n ≠ 0 by omega)
  have h1 := Int.emod_lt_of_pos z (show 0 < n by omega)
  obtain ⟨hz1, hz2⟩ := hz
  by_cases h : 0 ≤ z
  · go_enter Tryd.func16, Tryd.ntmps16
    go_wp2_with fail
    go_ret
    exact ⟨rfl, rfl⟩
  · obtain ⟨r, er⟩ : ∃ r, z.tmod n = r := ⟨_, rfl⟩
    have hr : r = z % n ∧ r = 0 ∨ r = z % n - n ∧ r < 0 := by
      rw [← er, Int.tmod_eq_emod]
      by_cases hd : n ∣ z
      · left
        have := Int.emod_eq_zero_of_dvd hd
        simp [hd]; omega
      · right
        simp only [hd, or_false, h, if_false]
        omega
    rcases hr with ⟨e1, e2⟩ | ⟨e1, e2⟩
    · have E := Lib.hid e1
      have hr0 : ¬ r < 0 := by omega
      have hz0 : z % n = 0 := by omega
      have hr0' : r = 0 := e2
      subst hr0'
      have HZ := Lib.hid hz0
      clear e1 hz0 h0 h1 e2
      go_enter Tryd.func16, Tryd.ntmps16
      go_wp2_with fail
      go_ret
      exact ⟨by rw [HZ.out]; rfl, rfl⟩
    · have E : Hid (r + n = z % n) := by show _ = _; omega
      have hr1 : -n ≤ r := by omega
      clear e1 h0 h1
      go_enter Tryd.func16, Tryd.ntmps16
      go_wp2_with fail
      go_ret
      exact ⟨by rw [← E.out]; rfl, rfl⟩
theorem known_walk (w : World) : Calls Tryd.prog 6 #[] w fun e w' => e = .returned (.bool true) ∧ Below w.heap.size w w' := by
  have e1 : scopeE (splitC 32 [97, 32, 98]) = 0 := by decide +kernel
  have e2 : scopeE (splitC 32 [97, 32, 32, 98]) = 3 := by decide +kernel
  have e3 : withinB (splitC 32 [97]) (splitC 32 [98, 32, 97]) = true := by decide +kernel
  have e4 : withinB (splitC 32 [99]) (splitC 32 [97]) = false := by decide +kernel
  have e5 : hasB (splitC 32 [97, 32, 98]) [98] = true := by decide +kernel
  have c1 := Lib.hid (fun w => parse_walk ⟨#[97, 32, 98]⟩ [97, 32, 98] rfl w (by decide))
  have c2 := Lib.hid (fun w => parse_walk ⟨#[97, 32, 32, 98]⟩ [97, 32, 32, 98] rfl w (by decide))
  have c3 := Lib.hid (fun w => within_walk ⟨#[97]⟩ [97] rfl (by decide) ⟨#[98, 32, 97]⟩ [98, 32, 97] rfl (by decide) w)
  have c4 := Lib.hid (fun w => within_walk ⟨#[99]⟩ [99] rfl (by decide) ⟨#[97]⟩ [97] rfl (by decide) w)
  have c5 := Lib.hid (fun w => has_walk ⟨#[97, 32, 98]⟩ [97, 32, 98] rfl (by decide) ⟨#[98]⟩ [98] rfl (by decide) w)
  rw [e3] at c3
  rw [e4] at c4
  rw [e5] at c5
  clear e3 e4 e5
  have E1 := Lib.hid e1
  have E2 := Lib.hid e2
  clear e1 e2
  go_enter Tryd.func6, Tryd.ntmps6
  go_wp2_with fail
  refine (c1.out _).mono ?_
  rintro _ w1 h
  obtain ⟨g, c, rfl, hb, _, _, _⟩ := h.ok E1.out
  clear h
  rw [show (splitC 32 [97, 32, 98]).length = 2 from by decide]
  go_wp2_with fail
  refine (c2.out _).mono ?_
  rintro _ w2 h
  obtain ⟨rfl, hbn⟩ := h.err 3 E2.out (by decide)
  replace hb := below_next hb hbn
  clear h hbn
  go_wp2_with fail
  refine (c3.out _).mono ?_
  rintro _ w1 ⟨rfl, hbn⟩
  replace hb := below_next hb hbn
  clear hbn
  go_wp2_with fail
  refine (c4.out _).mono ?_
  rintro _ w1 ⟨rfl, hbn⟩
  replace hb := below_next hb hbn
  clear hbn
  go_wp2_with fail
  refine (c5.out _).mono ?_
  rintro _ w1 ⟨rfl, hbn⟩
  replace hb := below_next hb hbn
  clear hbn
  go_wp2_with fail
  go_ret
  exact ⟨rfl, hb⟩
theorem goE_zero : ∀ (ps seen : List (List UInt8)), goE seen ps = 0 → ps.Nodup ∧ (∀ p ∈ ps, wordB p = true) ∧ ∀ p ∈ ps, p ∉ seen
  | [], seen, _ => by simp
  | p :: ps, seen, h => by
    rw [goE] at h
    split at h
    · cases h
    · rename_i hw
      split at h
      · cases h
      · rename_i hc
        obtain ⟨h1, h2, h3⟩ := goE_zero ps _ h
        have hc' : p ∉ seen := by simpa using hc
        refine ⟨List.nodup_cons.2 ⟨fun hp => h3 p hp (by simp), h1⟩, fun q hq => ?_, fun q hq => ?_⟩
        · rcases List.mem_cons.1 hq with rfl | hq
          · simpa using hw
          · exact h2 q hq
        · rcases List.mem_cons.1 hq with rfl | hq
          · exact hc'
          · exact fun hs => h3 q hq (by simp [hs])
theorem ok_go {ps : List (List UInt8)} (h : scopeE ps = 0) : goE [] ps = 0 := by
  have := ok_len h
  rwa [scopeE, if_pos this] at h
theorem nodup_len {α : Type} [DecidableEq α] : ∀ (ps qs : List α), ps.Nodup → (∀ p ∈ ps, p ∈ qs) → ps.length ≤ qs.length
  | [], qs, _, _ => by simp
  | p :: ps, qs, hn, h => by
    obtain ⟨h1, h2⟩ := List.nodup_cons.1 hn
    have hp := h p (by simp)
    have := nodup_len ps (qs.erase p) h2 (fun q hq => (List.mem_erase_of_ne (show q ≠ p by rintro rfl; exact h1 hq)).2 (h q (by simp [hq])))
    rw [List.length_erase_of_mem hp] at this
    have := List.length_pos_of_mem hp
    simp; omega
theorem within_self (ps : List (List UInt8)) : withinB ps ps = okB ps := by
  unfold withinB
  cases okB ps
  · rfl
  · simp
theorem within_ok {ps qs : List (List UInt8)} (h : withinB ps qs = true) : scopeE ps = 0 ∧ scopeE qs = 0 ∧ ∀ p ∈ ps, p ∈ qs := by
  unfold withinB okB at h
  simp only [Bool.and_eq_true, decide_eq_true_eq, List.all_eq_true] at h
  exact ⟨h.1, h.2.1, fun p hp => by simpa using h.2.2 p hp⟩
theorem within_of {ps qs : List (List UInt8)} (h1 : scopeE ps = 0) (h2 : scopeE qs = 0) (h : ∀ p ∈ ps, p ∈ qs) : withinB ps qs = true := by
  unfold withinB okB
  simp only [Bool.and_eq_true, decide_eq_true_eq, List.all_eq_true]
  exact ⟨h1, h2, fun p hp => by simpa using h p hp⟩
theorem within_trans {ps qs rs : List (List UInt8)} (h : withinB ps qs = true) (k : withinB qs rs = true) : withinB ps rs = true := by
  obtain ⟨h1, h2, h3⟩ := within_ok h
  obtain ⟨k1, k2, k3⟩ := within_ok k
  exact within_of h1 k2 fun p hp => k3 p (h3 p hp)
theorem within_len {ps qs : List (List UInt8)} (h : withinB ps qs = true) : ps.length ≤ qs.length := by
  obtain ⟨h1, h2, h3⟩ := within_ok h
  exact nodup_len ps qs (goE_zero ps [] (ok_go h1)).1 h3
theorem has_of {ps : List (List UInt8)} {p : List UInt8} (h : scopeE ps = 0) (hp : p ∈ ps) : hasB ps p = true := by
  unfold hasB okB
  simp only [Bool.and_eq_true, decide_eq_true_eq]
  exact ⟨h, by simpa using hp⟩
end Go.Proofs.YtaaajmfbblbgiaaDoor

import Derived.Test.YtolfcpbcccbmmaaGreatDoorGs
set_option linter.unusedVariables false
set_option linter.unusedSimpArgs false
set_option maxRecDepth 20000
namespace Go.Proofs.YtolfcpbcccbmmaaGreatDoor
open Go.RowKit
def letterB (c : Nat) : Bool := decide (65 ≤ c) && decide (c ≤ 90) || decide (97 ≤ c) && decide (c ≤ 122)
theorem rletter_walk (c : Nat) (w : World) : Calls Tryz.prog 68 #[.int .u8 (c : Int)] w fun e w' => e = .returned (.bool (letterB c)) ∧ w = w' := by
  have e : Hid (letterB c = (decide (65 ≤ c) && decide (c ≤ 90) || decide (97 ≤ c) && decide (c ≤ 122))) := rfl
  by_cases h1 : 65 ≤ c <;> by_cases h2 : c ≤ 90 <;> by_cases h3 : 97 ≤ c <;> by_cases h4 : c ≤ 122
  all_goals
    go_enter Tryz.func68, Tryz.ntmps68
    go_wp2_with fail
    all_goals
      go_ret
      refine ⟨?_, rfl⟩
      rw [e.out]
      first | (simp [h1, h2, h3, h4]; done) | (simp [h1, h2, h3, h4]; omega)
theorem rdigit_walk (c : Nat) (w : World) : Calls Tryz.prog 43 #[.int .u8 (c : Int)] w fun e w' => e = .returned (.bool (digitB c)) ∧ w = w' := by
  have e : Hid (digitB c = (decide (48 ≤ c) && decide (c ≤ 57))) := rfl
  by_cases h1 : 48 ≤ c <;> by_cases h2 : c ≤ 57
  all_goals
    go_enter Tryz.func43, Tryz.ntmps43
    go_wp2_with fail
    all_goals
      go_ret
      refine ⟨?_, rfl⟩
      rw [e.out]
      first | (simp [h1, h2]; done) | (simp [h1, h2]; omega)
theorem any_yes {l : List UInt8} {p : Nat → Bool} {k : Nat} (hk : k < l.length) (h : p (l.getD k 0).toNat = true) : (l.any fun b => p b.toNat) = true := by
  rw [List.any_eq_true]
  exact ⟨l[k], List.getElem_mem hk, by rw [List.getD_eq_getElem?_getD, List.getElem?_eq_getElem hk] at h; simpa using h⟩
theorem any_no {l : List UInt8} {p : Nat → Bool} (h : ∀ j, j < l.length → p (l.getD j 0).toNat = false) : (l.any fun b => p b.toNat) = false := by
  rw [List.any_eq_false]
  intro x hx
  obtain ⟨j, hj, he⟩ := List.getElem_of_mem hx
  have := h j hj
  rw [List.getD_eq_getElem?_getD, List.getElem?_eq_getElem hj, Option.getD_some, he] at this
  rw [this]; simp
theorem upto_one {l : List UInt8} {p : Nat → Bool} {t : Bool} {k b : Nat} (h : ∀ j, j < k → p (l.getD j 0).toNat = t) (hb : (l.getD k 0).toNat = b) (hp : p b = t) : ∀ j, j < k + 1 → p (l.getD j 0).toNat = t := by
  intro j hj
  rcases Nat.lt_or_ge j k with h' | h'
  · exact h j h'
  · rw [show j = k by omega, hb]; exact hp
set_option maxHeartbeats 400000 in
theorem rin_walk (c : Nat) (s : ByteArray) (l : List UInt8) (hs : s.data.toList = l) (w : World) (hm : s.size ≤ 1000000) :
    Calls Tryz.prog 69 #[.int .u8 (c : Int), .string s] w fun e w' => e = .returned (.bool (l.any fun b => b.toNat == c)) ∧ w = w' := by
  have hsz : l.length = s.size := by rw [← hs, Lib.size_eq]
  go_enter Tryz.func69, Tryz.ntmps69
  go_wp2_with fail
  go_loopw [5] (fun nv wr => ∃ k : Nat, k ≤ s.size ∧ nv = .int .i64 k ∧ Hid (∀ j, j < k → ((l.getD j 0).toNat == c) = false) ∧ w = wr) (fun nv _ => s.size - (intOf nv).toNat)
  case atStart => exact ⟨0, by omega, rfl, fun j hj => by omega, rfl⟩
  case round =>
    obtain ⟨k, hk, rfl, hp, rfl⟩ := hrel
    by_cases hlt : k < s.size
    · obtain ⟨b, eb, hb, hb2⟩ : ∃ b : Nat, (s[k]'hlt).toNat = b ∧ Hid ((l.getD k 0).toNat = b) ∧ b < 256 := ⟨_, str_at hs hlt, rfl, (l.getD k 0).toNat_lt⟩
      cases hpk : (b == c)
      · have hq : ((b : Int) == (c : Int)) = false := by rw [beq_eq_false_iff_ne] at hpk ⊢; omega
        have HN := Lib.hid (upto_one (p := (· == c)) hp.out hb.out hpk)
        clear hpk
        go_wp2_with fail
        exact ⟨⟨k + 1, by omega, by go_num, HN, trivial⟩, by simp [intOf]; omega⟩
      · have hq : ((b : Int) == (c : Int)) = true := by rw [beq_iff_eq] at hpk ⊢; omega
        have hv : Hid ((l.any fun b => b.toNat == c) = true) := any_yes (k := k) (p := (· == c)) (by omega) (by rw [hb.out]; exact hpk)
        clear hpk
        go_wp2_with fail
        go_ret
        exact ⟨by rw [hv.out]; rfl, rfl⟩
    · have hv : Hid ((l.any fun b => b.toNat == c) = false) := any_no (p := (· == c)) (fun j hj => hp.out j (by omega))
      go_wp2_with fail
      go_ret
      exact ⟨by rw [hv.out]; rfl, rfl⟩
theorem lits : Hid ((ByteArray.mk #[45, 46, 95, 126]).data.toList = [45, 46, 95, 126]) := rfl
def rplainB (c : Nat) : Bool := letterB c || digitB c || ([45, 46, 95, 126] : List UInt8).any fun b => b.toNat == c
theorem rplain_eq : ∀ c : Fin 256, rplainB c.val = plainB c.val := by decide +kernel
set_option maxHeartbeats 1000000 in
theorem rplain_walk (c : Nat) (w : World) : Calls Tryz.prog 50 #[.int .u8 (c : Int)] w fun e w' => e = .returned (.bool (rplainB c)) ∧ w = w' := by
  have e : Hid (rplainB c = (letterB c || digitB c || ([45, 46, 95, 126] : List UInt8).any fun b => b.toNat == c)) := rfl
  have c1 := Lib.hid (rletter_walk c)
  have c2 := Lib.hid (rdigit_walk c)
  have c3 := Lib.hid (fun w => rin_walk c ⟨#[45, 46, 95, 126]⟩ [45, 46, 95, 126] rfl w (by decide))
  cases h1 : letterB c <;> rw [h1] at c1 e
  · cases h2 : digitB c <;> rw [h2] at c2 e
    · cases h3 : (([45, 46, 95, 126] : List UInt8).any fun b => b.toNat == c) <;> rw [h3] at c3 e <;> clear h3
      all_goals
        go_enter Tryz.func50, Tryz.ntmps50
        go_wp2_with fail
        refine (c1.out _).mono ?_
        rintro _ w1 ⟨rfl, rfl⟩
        go_wp2_with fail
        refine (c2.out _).mono ?_
        rintro _ w1 ⟨rfl, rfl⟩
        go_wp2_with fail
        refine (c3.out _).mono ?_
        rintro _ w1 ⟨rfl, rfl⟩
        go_wp2_with fail
        go_ret
        exact ⟨by rw [e.out]; rfl, rfl⟩
    · go_enter Tryz.func50, Tryz.ntmps50
      go_wp2_with fail
      refine (c1.out _).mono ?_
      rintro _ w1 ⟨rfl, rfl⟩
      go_wp2_with fail
      refine (c2.out _).mono ?_
      rintro _ w1 ⟨rfl, rfl⟩
      go_wp2_with fail
      go_ret
      exact ⟨by rw [e.out]; simp, rfl⟩
  · go_enter Tryz.func50, Tryz.ntmps50
    go_wp2_with fail
    refine (c1.out _).mono ?_
    rintro _ w1 ⟨rfl, rfl⟩
    go_wp2_with fail
    go_ret
    exact ⟨by rw [e.out]; simp, rfl⟩
end Go.Proofs.YtolfcpbcccbmmaaGreatDoor

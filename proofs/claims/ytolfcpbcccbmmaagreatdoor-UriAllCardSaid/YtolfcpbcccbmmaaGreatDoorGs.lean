import Derived.Test.YtolfcpbcccbmmaaGreatDoorKit
set_option linter.unusedVariables false
set_option linter.unusedSimpArgs false
set_option maxRecDepth 20000
namespace Go.Proofs.YtolfcpbcccbmmaaGreatDoor
open Go.RowKit
def greatB (c : Nat) : Bool := decide (65 ≤ c) && decide (c ≤ 90)
def smallB (c : Nat) : Bool := decide (97 ≤ c) && decide (c ≤ 122)
def digitB (c : Nat) : Bool := decide (48 ≤ c) && decide (c ≤ 57)
def sixtyB (c : Nat) : Bool := greatB c || smallB c || digitB c || decide (c = 45) || decide (c = 95)
def plainB (c : Nat) : Bool := sixtyB c || decide (c = 46) || decide (c = 126)
theorem great_walk (c : Nat) (w : World) : Calls Tryz.prog 92 #[.int .u8 (c : Int)] w fun e w' => e = .returned (.bool (greatB c)) ∧ w = w' := by
  have e : Hid (greatB c = (decide (65 ≤ c) && decide (c ≤ 90))) := rfl
  by_cases h1 : 65 ≤ c <;> by_cases h2 : c ≤ 90
  all_goals
    go_enter Tryz.func92, Tryz.ntmps92
    go_wp2_with fail
    all_goals
      go_ret
      refine ⟨?_, rfl⟩
      rw [e.out]
      first | (simp [h1, h2]; done) | (simp [h1, h2]; omega)
theorem small_walk (c : Nat) (w : World) : Calls Tryz.prog 61 #[.int .u8 (c : Int)] w fun e w' => e = .returned (.bool (smallB c)) ∧ w = w' := by
  have e : Hid (smallB c = (decide (97 ≤ c) && decide (c ≤ 122))) := rfl
  by_cases h1 : 97 ≤ c <;> by_cases h2 : c ≤ 122
  all_goals
    go_enter Tryz.func61, Tryz.ntmps61
    go_wp2_with fail
    all_goals
      go_ret
      refine ⟨?_, rfl⟩
      rw [e.out]
      first | (simp [h1, h2]; done) | (simp [h1, h2]; omega)
theorem digit_walk (c : Nat) (w : World) : Calls Tryz.prog 62 #[.int .u8 (c : Int)] w fun e w' => e = .returned (.bool (digitB c)) ∧ w = w' := by
  have e : Hid (digitB c = (decide (48 ≤ c) && decide (c ≤ 57))) := rfl
  by_cases h1 : 48 ≤ c <;> by_cases h2 : c ≤ 57
  all_goals
    go_enter Tryz.func62, Tryz.ntmps62
    go_wp2_with fail
    all_goals
      go_ret
      refine ⟨?_, rfl⟩
      rw [e.out]
      first | (simp [h1, h2]; done) | (simp [h1, h2]; omega)
theorem beq_lit (c k : Nat) : ((c : Int) == (k : Int)) = decide (c = k) := by
  by_cases h : c = k
  · subst h; simp
  · rw [beq_eq_false_iff_ne.2 (by omega)]; simp [h]
set_option maxHeartbeats 2000000 in
theorem sixty_walk (c : Nat) (w : World) : Calls Tryz.prog 80 #[.int .u8 (c : Int)] w fun e w' => e = .returned (.bool (sixtyB c)) ∧ w = w' := by
  have e : Hid (sixtyB c = (greatB c || smallB c || digitB c || decide (c = 45) || decide (c = 95))) := rfl
  have c1 := Lib.hid (great_walk c)
  have c2 := Lib.hid (small_walk c)
  have c3 := Lib.hid (digit_walk c)
  cases h1 : greatB c <;> rw [h1] at c1 e
  · cases h2 : smallB c <;> rw [h2] at c2 e
    · cases h3 : digitB c <;> rw [h3] at c3 e
      · have b4 : ((c : Int) == 45) = decide (c = 45) := beq_lit c 45
        have b5 : ((c : Int) == 95) = decide (c = 95) := beq_lit c 95
        cases h4 : decide (c = 45) <;> cases h5 : decide (c = 95) <;> rw [h4] at b4 e <;> rw [h5] at b5 e <;> clear h4 h5
        all_goals
          go_enter Tryz.func80, Tryz.ntmps80
          go_wp2_with fail
          refine (c1.out _).mono ?_
          rintro _ w1 ⟨rfl, rfl⟩
          go_wp2_with fail
          refine (c2.out _).mono ?_
          rintro _ w1 ⟨rfl, rfl⟩
          go_wp2_with fail
          refine (c3.out _).mono ?_
          rintro _ w1 ⟨rfl, rfl⟩
          go_wp2_with fail
          all_goals
            go_ret
            refine ⟨?_, rfl⟩
            rw [e.out]
            first | rfl | simp
      · go_enter Tryz.func80, Tryz.ntmps80
        go_wp2_with fail
        refine (c1.out _).mono ?_
        rintro _ w1 ⟨rfl, rfl⟩
        go_wp2_with fail
        refine (c2.out _).mono ?_
        rintro _ w1 ⟨rfl, rfl⟩
        go_wp2_with fail
        refine (c3.out _).mono ?_
        rintro _ w1 ⟨rfl, rfl⟩
        go_wp2_with fail
        go_ret
        exact ⟨by rw [e.out]; rfl, rfl⟩
    · go_enter Tryz.func80, Tryz.ntmps80
      go_wp2_with fail
      refine (c1.out _).mono ?_
      rintro _ w1 ⟨rfl, rfl⟩
      go_wp2_with fail
      refine (c2.out _).mono ?_
      rintro _ w1 ⟨rfl, rfl⟩
      go_wp2_with fail
      go_ret
      exact ⟨by rw [e.out]; simp, rfl⟩
  · go_enter Tryz.func80, Tryz.ntmps80
    go_wp2_with fail
    refine (c1.out _).mono ?_
    rintro _ w1 ⟨rfl, rfl⟩
    go_wp2_with fail
    go_ret
    exact ⟨by rw [e.out]; simp, rfl⟩
theorem plain_walk (c : Nat) (w : World) : Calls Tryz.prog 65 #[.int .u8 (c : Int)] w fun e w' => e = .returned (.bool (plainB c)) ∧ w = w' := by
  have e : Hid (plainB c = (sixtyB c || decide (c = 46) || decide (c = 126))) := rfl
  have c1 := Lib.hid (sixty_walk c)
  cases h1 : sixtyB c <;> rw [h1] at c1 e
  · have b4 : ((c : Int) == 46) = decide (c = 46) := beq_lit c 46
    have b5 : ((c : Int) == 126) = decide (c = 126) := beq_lit c 126
    cases h4 : decide (c = 46) <;> cases h5 : decide (c = 126) <;> rw [h4] at b4 e <;> rw [h5] at b5 e <;> clear h4 h5
    all_goals
      go_enter Tryz.func65, Tryz.ntmps65
      go_wp2_with fail
      refine (c1.out _).mono ?_
      rintro _ w1 ⟨rfl, rfl⟩
      go_wp2_with fail
      all_goals
        go_ret
        refine ⟨?_, rfl⟩
        rw [e.out]
        first | rfl | simp
  · go_enter Tryz.func65, Tryz.ntmps65
    go_wp2_with fail
    refine (c1.out _).mono ?_
    rintro _ w1 ⟨rfl, rfl⟩
    go_wp2_with fail
    go_ret
    exact ⟨by rw [e.out]; simp, rfl⟩
/-- a function value that tells of a byte -/
theorem str_at {s : ByteArray} {l : List UInt8} (hs : s.data.toList = l) {k : Nat} (hk : k < s.size) : (s[k]'hk).toNat = (l.getD k 0).toNat := by
  subst hs
  rw [List.getD_eq_getElem?_getD, List.getElem?_eq_getElem (by simpa using hk)]
  rfl
end Go.Proofs.YtolfcpbcccbmmaaGreatDoor

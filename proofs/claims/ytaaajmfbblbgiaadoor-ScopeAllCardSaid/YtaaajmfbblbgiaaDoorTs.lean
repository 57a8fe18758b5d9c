import Derived.Test.YtaaajmfbblbgiaaDoorKit
set_option linter.unusedVariables false
set_option linter.unusedSimpArgs false
set_option maxRecDepth 20000
namespace Go.Proofs.YtaaajmfbblbgiaaDoor
open Go.RowKit
def greatB (c : Nat) : Bool := decide (65 ≤ c) && decide (c ≤ 90)
def smallB (c : Nat) : Bool := decide (97 ≤ c) && decide (c ≤ 122)
def digitB (c : Nat) : Bool := decide (48 ≤ c) && decide (c ≤ 57)
def sixtyB (c : Nat) : Bool := greatB c || smallB c || digitB c || decide (c = 45) || decide (c = 95)
def plainB (c : Nat) : Bool := sixtyB c || decide (c = 46) || decide (c = 126)
theorem great_walk (c : Nat) (w : World) : Calls Tryd.prog 44 #[.int .u8 (c : Int)] w fun e w' => e = .returned (.bool (greatB c)) ∧ w = w' := by
  have e : Hid (greatB c = (decide (65 ≤ c) && decide (c ≤ 90))) := rfl
  by_cases h1 : 65 ≤ c <;> by_cases h2 : c ≤ 90
  all_goals
    go_enter Tryd.func44, Tryd.ntmps44
    go_wp2_with fail
    all_goals
      go_ret
      refine ⟨?_, rfl⟩
      rw [e.out]
      first | (simp [h1, h2]; done) | (simp [h1, h2]; omega)
theorem small_walk (c : Nat) (w : World) : Calls Tryd.prog 45 #[.int .u8 (c : Int)] w fun e w' => e = .returned (.bool (smallB c)) ∧ w = w' := by
  have e : Hid (smallB c = (decide (97 ≤ c) && decide (c ≤ 122))) := rfl
  by_cases h1 : 97 ≤ c <;> by_cases h2 : c ≤ 122
  all_goals
    go_enter Tryd.func45, Tryd.ntmps45
    go_wp2_with fail
    all_goals
      go_ret
      refine ⟨?_, rfl⟩
      rw [e.out]
      first | (simp [h1, h2]; done) | (simp [h1, h2]; omega)
theorem digit_walk (c : Nat) (w : World) : Calls Tryd.prog 46 #[.int .u8 (c : Int)] w fun e w' => e = .returned (.bool (digitB c)) ∧ w = w' := by
  have e : Hid (digitB c = (decide (48 ≤ c) && decide (c ≤ 57))) := rfl
  by_cases h1 : 48 ≤ c <;> by_cases h2 : c ≤ 57
  all_goals
    go_enter Tryd.func46, Tryd.ntmps46
    go_wp2_with fail
    all_goals
      go_ret
      refine ⟨?_, rfl⟩
      rw [e.out]
      first | (simp [h1, h2]; done) | (simp [h1, h2]; omega)
theorem beq_lit (c k : Nat) : ((c : Int) == (k : Int)) = decide (c = k) := by
  by_cases h : c = k
  · subst h; simp
  · rw [beq_eq_false_iff_ne.2 (by omega)]; simp [h]
set_option maxHeartbeats 2000000 in
theorem sixty_walk (c : Nat) (w : World) : Calls Tryd.prog 39 #[.int .u8 (c : Int)] w fun e w' => e = .returned (.bool (sixtyB c)) ∧ w = w' := by
  have e : Hid (sixtyB c = (greatB c || smallB c || digitB c || decide (c = 45) || decide (c = 95))) := rfl
  have c1 := Lib.hid (great_walk c)
  have c2 := Lib.hid (small_walk c)
  have c3 := Lib.hid (digit_walk c)
  cases h1 : greatB c <;> rw [h1] at c1 e
  · cases h2 : smallB c <;> rw [h2] at c2 e
    · cases h3 : digitB c <;> rw [h3] at c3 e
      · have b4 : ((c : Int) == 45) = decide (c = 45) := beq_lit c 45
        have b5 : ((c : Int) == 95) = decide (c = 95) := beq_lit c 95
        cases h4 : decide (c = 45) <;> cases h5 : decide (c = 95) <;> rw [h4] at b4 e <;> rw [h5] at b5 e <;> clear h4 h5
        all_goals
          go_enter Tryd.func39, Tryd.ntmps39
          go_wp2_with fail
          refine (c1.out _).mono ?_
          rintro _ w1 ⟨rfl, rfl⟩
          go_wp2_with fail
          refine (c2.out _).mono ?_
          rintro _ w1 ⟨rfl, rfl⟩
          go_wp2_with fail
          refine (c3.out _).mono ?_
          rintro _ w1 ⟨rfl, rfl⟩
          go_wp2_with fail
          all_goals
            go_ret
            refine ⟨?_, rfl⟩
            rw [e.out]
            first | rfl | simp
      · go_enter Tryd.func39, Tryd.ntmps39
        go_wp2_with fail
        refine (c1.out _).mono ?_
        rintro _ w1 ⟨rfl, rfl⟩
        go_wp2_with fail
        refine (c2.out _).mono ?_
        rintro _ w1 ⟨rfl, rfl⟩
        go_wp2_with fail
        refine (c3.out _).mono ?_
        rintro _ w1 ⟨rfl, rfl⟩
        go_wp2_with fail
        go_ret
        exact ⟨by rw [e.out]; rfl, rfl⟩
    · go_enter Tryd.func39, Tryd.ntmps39
      go_wp2_with fail
      refine (c1.out _).mono ?_
      rintro _ w1 ⟨rfl, rfl⟩
      go_wp2_with fail
      refine (c2.out _).mono ?_
      rintro _ w1 ⟨rfl, rfl⟩
      go_wp2_with fail
      go_ret
      exact ⟨by rw [e.out]; simp, rfl⟩
  · go_enter Tryd.func39, Tryd.ntmps39
    go_wp2_with fail
    refine (c1.out _).mono ?_
    rintro _ w1 ⟨rfl, rfl⟩
    go_wp2_with fail
    go_ret
    exact ⟨by rw [e.out]; simp, rfl⟩
theorem plain_walk (c : Nat) (w : World) : Calls Tryd.prog 31 #[.int .u8 (c : Int)] w fun e w' => e = .returned (.bool (plainB c)) ∧ w = w' := by
  have e : Hid (plainB c = (sixtyB c || decide (c = 46) || decide (c = 126))) := rfl
  have c1 := Lib.hid (sixty_walk c)
  cases h1 : sixtyB c <;> rw [h1] at c1 e
  · have b4 : ((c : Int) == 46) = decide (c = 46) := beq_lit c 46
    have b5 : ((c : Int) == 126) = decide (c = 126) := beq_lit c 126
    cases h4 : decide (c = 46) <;> cases h5 : decide (c = 126) <;> rw [h4] at b4 e <;> rw [h5] at b5 e <;> clear h4 h5
    all_goals
      go_enter Tryd.func31, Tryd.ntmps31
      go_wp2_with fail
      refine (c1.out _).mono ?_
      rintro _ w1 ⟨rfl, rfl⟩
      go_wp2_with fail
      all_goals
        go_ret
        refine ⟨?_, rfl⟩
        rw [e.out]
        first | rfl | simp
  · go_enter Tryd.func31, Tryd.ntmps31
    go_wp2_with fail
    refine (c1.out _).mono ?_
    rintro _ w1 ⟨rfl, rfl⟩
    go_wp2_with fail
    go_ret
    exact ⟨by rw [e.out]; simp, rfl⟩
/-- a function value that tells of a byte -/
def TellsB (F : FuncId) (p : Nat → Bool) : Prop := (∀ (args : Array Value) (w : World), (callFunc F args).run Tryd.prog w = .ok (.enter F args) w) ∧ ∀ (c : Nat) (w : World), c < 256 → Calls Tryd.prog F #[.int .u8 (c : Int)] w fun e w' => e = .returned (.bool (p c)) ∧ w = w'
theorem str_at {s : ByteArray} {l : List UInt8} (hs : s.data.toList = l) {k : Nat} (hk : k < s.size) : (s[k]'hk).toNat = (l.getD k 0).toNat := by
  subst hs
  rw [List.getD_eq_getElem?_getD, List.getElem?_eq_getElem (by simpa using hk)]
  rfl
theorem all_no {l : List UInt8} {p : Nat → Bool} {k : Nat} (hk : k < l.length) (h : p (l.getD k 0).toNat = false) : (l.all fun b => p b.toNat) = false := by
  rw [List.all_eq_false]
  exact ⟨l[k], List.getElem_mem hk, by rw [List.getD_eq_getElem?_getD, List.getElem?_eq_getElem hk] at h; simpa using h⟩
theorem all_yes {l : List UInt8} {p : Nat → Bool} (h : ∀ j, j < l.length → p (l.getD j 0).toNat = true) : (l.all fun b => p b.toNat) = true := by
  rw [List.all_eq_true]
  intro x hx
  obtain ⟨j, hj, he⟩ := List.getElem_of_mem hx
  have := h j hj
  rwa [List.getD_eq_getElem?_getD, List.getElem?_eq_getElem hj, Option.getD_some, he] at this
set_option maxHeartbeats 400000 in
theorem all_walk (F : FuncId) (p : Nat → Bool) (hF : TellsB F p) (s : ByteArray) (l : List UInt8) (hs : s.data.toList = l) (w : World) (hm : s.size ≤ 1000000) :
    Calls Tryd.prog 30 #[.string s, .func (.func F) #[] #[]] w fun e w' => e = .returned (.bool (l.all fun b => p b.toNat)) ∧ w = w' := by
  have hcf := hF.1
  go_enter Tryd.func30, Tryd.ntmps30
  go_wp2_with fail
  have hsz : l.length = s.size := by rw [← hs, Lib.size_eq]
  go_loopw [8] (fun nv wr => ∃ k : Nat, k ≤ s.size ∧ nv = .int .i64 k ∧ Hid (∀ j, j < k → p (l.getD j 0).toNat = true) ∧ w = wr) (fun nv _ => s.size - (intOf nv).toNat)
  case atStart => exact ⟨0, by omega, rfl, fun j hj => by omega, rfl⟩
  case round =>
    obtain ⟨k, hk, rfl, hp, rfl⟩ := hrel
    by_cases hlt : k < s.size
    · have cF := Lib.hid (fun w => hF.2 (l.getD k 0).toNat w (l.getD k 0).toNat_lt)
      obtain ⟨b, eb, hb, hb2⟩ : ∃ b : Nat, (s[k]'hlt).toNat = b ∧ Hid ((l.getD k 0).toNat = b) ∧ b < 256 := ⟨_, str_at hs hlt, rfl, (l.getD k 0).toNat_lt⟩
      rw [hb.out] at cF
      cases hpk : p b <;> rw [hpk] at cF
      · have hv : Hid ((l.all fun b => p b.toNat) = false) := all_no (k := k) (by omega) (by rw [hb.out]; exact hpk)
        go_wp2_with fail
        try rw [hcf, Oper.upon_enter]
        refine (cF.out _).mono ?_
        rintro _ w1 ⟨rfl, rfl⟩
        go_wp2_with fail
        go_ret
        exact ⟨by rw [hv.out]; rfl, rfl⟩
      · have HN : Hid (∀ j, j < k + 1 → p (l.getD j 0).toNat = true) := by
          show ∀ j, j < k + 1 → _
          intro j hj
          rcases Nat.lt_or_ge j k with h | h
          · exact hp.out j h
          · rw [show j = k by omega, hb.out]; exact hpk
        go_wp2_with fail
        try rw [hcf, Oper.upon_enter]
        refine (cF.out _).mono ?_
        rintro _ w1 ⟨rfl, rfl⟩
        go_wp2_with fail
        exact ⟨⟨k + 1, by omega, by go_num, HN, trivial⟩, by simp [intOf]; omega⟩
    · have hv : Hid ((l.all fun b => p b.toNat) = true) := all_yes (fun j hj => hp.out j (by omega))
      go_wp2_with fail
      go_ret
      exact ⟨by rw [hv.out]; rfl, rfl⟩
end Go.Proofs.YtaaajmfbblbgiaaDoor

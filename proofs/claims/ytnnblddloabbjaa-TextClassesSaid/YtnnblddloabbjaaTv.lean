import Derived.Test.YtnnblddloabbjaaTs
import Derived.Test.YtnnblddloabbjaaShelf
set_option linter.unusedVariables false
namespace Go.Proofs.Ytnnblddloabbjaa
open Go.RowKit
theorem tells_plain : TellsB 32 plainB := ⟨fun _ _ => by kernel_rfl, fun c w _ => plain_walk c w⟩
def seenB (c : Nat) : Bool := decide (32 ≤ c) && decide (c ≤ 126)
theorem seen_in (c : Nat) (w : World) : Calls Try.prog 42 #[.int .u8 (c : Int)] w fun e w' => e = .returned (.bool (seenB c)) ∧ w = w' := by
  have e : Hid (seenB c = (decide (32 ≤ c) && decide (c ≤ 126))) := rfl
  by_cases h1 : 32 ≤ c <;> by_cases h2 : c ≤ 126
  all_goals
    go_enter Try.func42, Try.ntmps42
    go_wp2_with fail
    all_goals
      go_ret
      refine ⟨?_, rfl⟩
      rw [e.out]
      first | (simp [h1, h2]; done) | (simp [h1, h2]; omega)
theorem tells_seen : TellsB 42 seenB := ⟨fun _ _ => by kernel_rfl, fun c w _ => seen_in c w⟩
theorem seen_walk (s : ByteArray) (l : List UInt8) (hs : s.data.toList = l) (w : World) (hm : s.size ≤ 1000000) :
    Calls Try.prog 23 #[.string s] w fun e w' => e = .returned (.bool (l.all fun b => seenB b.toNat)) ∧ w = w' := by
  have hmf : ∀ (fn : Fn) (first cap : Array Value) (w : World), (Instr.makeFunc fn first cap).run Try.prog w = .ok (.func fn first cap) w := fun _ _ _ _ => rfl
  go_enter Try.func23, Try.ntmps23
  go_wp2_with fail
  refine (all_walk _ _ tells_seen s l hs _ hm).mono ?_
  rintro _ w1 ⟨rfl, rfl⟩
  go_wp2_with fail
  go_ret
  exact ⟨rfl, rfl⟩
def wordB (l : List UInt8) : Bool := decide (1 ≤ l.length) && decide (l.length ≤ 128) && (l.all fun b => plainB b.toNat)
theorem word_walk (s : ByteArray) (l : List UInt8) (hs : s.data.toList = l) (w : World) (hm : s.size ≤ 1000000) :
    Calls Try.prog 19 #[.string s] w fun e w' => e = .returned (.bool (wordB l)) ∧ w = w' := by
  have hsz : l.length = s.size := by rw [← hs, Lib.size_eq]
  have hmf : ∀ (fn : Fn) (first cap : Array Value) (w : World), (Instr.makeFunc fn first cap).run Try.prog w = .ok (.func fn first cap) w := fun _ _ _ _ => rfl
  have e : Hid (wordB l = (decide (1 ≤ l.length) && decide (l.length ≤ 128) && (l.all fun b => plainB b.toNat))) := rfl
  have ca := Lib.hid (fun w => all_walk _ _ tells_plain s l hs w hm)
  by_cases h0 : s.size = 0
  · have he : s.toList = [] := str_nil h0
    go_enter Try.func19, Try.ntmps19
    go_wp2_with fail
    go_ret
    refine ⟨?_, rfl⟩
    rw [e.out, show l.length = 0 by omega]
    rfl
  · have he : s.toList.isEmpty = false := (str_ne h0).1
    have he2 : ¬ s.toList = [] := (str_ne h0).2
    by_cases h1 : s.size ≤ 128
    · go_enter Try.func19, Try.ntmps19
      go_wp2_with fail
      refine (ca.out _).mono ?_
      rintro _ w1 ⟨rfl, rfl⟩
      go_wp2_with fail
      go_ret
      refine ⟨?_, rfl⟩
      rw [e.out, show decide (1 ≤ l.length) = true by simp; omega, show decide (l.length ≤ 128) = true by simp; omega]
      rfl
    · go_enter Try.func19, Try.ntmps19
      go_wp2_with fail
      go_ret
      refine ⟨?_, rfl⟩
      rw [e.out, show decide (l.length ≤ 128) = false by simp; omega]
      simp
def tokL : List Nat := [33, 35, 36, 37, 38, 39, 42, 43, 45, 46, 94, 95, 124, 126, 96]
theorem tok_dec : ∀ c : Fin 256, decide (0 ≤ Lib.indexByte [33, 35, 36, 37, 38, 39, 42, 43, 45, 46, 94, 95, 124, 126, 96] (c.val.toUInt8)) = tokL.contains c.val := by decide +kernel
theorem tok_idx (c : Nat) (hc : c < 256) : ∃ z : Int, Hid (Lib.indexByte (ByteArray.mk #[33, 35, 36, 37, 38, 39, 42, 43, 45, 46, 94, 95, 124, 126, 96]).data.toList ((c : Int).toNat.toUInt8) = z) ∧ Hid (decide (0 ≤ z) = tokL.contains c) :=
  ⟨_, rfl, tok_dec ⟨c, hc⟩⟩
def tokenB (c : Nat) : Bool := greatB c || smallB c || digitB c || tokL.contains c
set_option maxRecDepth 100000 in
set_option maxHeartbeats 2000000 in
theorem token_in (c : Nat) (w : World) (hc : c < 256) : Calls Try.prog 34 #[.int .u8 (c : Int)] w fun e w' => e = .returned (.bool (tokenB c)) ∧ w = w' := by
  have e : Hid (tokenB c = (greatB c || smallB c || digitB c || tokL.contains c)) := rfl
  have c1 := Lib.hid (great_walk c)
  have c2 := Lib.hid (small_walk c)
  have c3 := Lib.hid (digit_walk c)
  cases h1 : greatB c <;> rw [h1] at c1 e
  · cases h2 : smallB c <;> rw [h2] at c2 e
    · cases h3 : digitB c <;> rw [h3] at c3 e
      · obtain ⟨z, HZ, HZ2⟩ := tok_idx c hc
        go_enter Try.func34, Try.ntmps34
        go_wp2_with fail
        refine (c1.out _).mono ?_
        rintro _ w1 ⟨rfl, rfl⟩
        go_wp2_with fail
        refine (c2.out _).mono ?_
        rintro _ w1 ⟨rfl, rfl⟩
        go_wp2_with fail
        refine (c3.out _).mono ?_
        rintro _ w1 ⟨rfl, rfl⟩
        go_wp2_with fail
        refine (Try.strings_IndexByte _ _ _).mono ?_
        rintro _ w1 ⟨rfl, rfl⟩
        rw [HZ.out]
        by_cases hz : 0 ≤ z
        · go_wp2_with fail
          go_ret
          refine ⟨?_, rfl⟩
          rw [e.out, ← HZ2.out, decide_eq_true hz]
          first | rfl | simp [hz]
        · go_wp2_with fail
          go_ret
          refine ⟨?_, rfl⟩
          rw [e.out, ← HZ2.out, decide_eq_false (show ¬ 0 ≤ z by omega)]
          first | rfl | simp [hz]
      · go_enter Try.func34, Try.ntmps34
        go_wp2_with fail
        refine (c1.out _).mono ?_
        rintro _ w1 ⟨rfl, rfl⟩
        go_wp2_with fail
        refine (c2.out _).mono ?_
        rintro _ w1 ⟨rfl, rfl⟩
        go_wp2_with fail
        refine (c3.out _).mono ?_
        rintro _ w1 ⟨rfl, rfl⟩
        go_wp2_with fail
        go_ret
        exact ⟨by rw [e.out]; rfl, rfl⟩
    · go_enter Try.func34, Try.ntmps34
      go_wp2_with fail
      refine (c1.out _).mono ?_
      rintro _ w1 ⟨rfl, rfl⟩
      go_wp2_with fail
      refine (c2.out _).mono ?_
      rintro _ w1 ⟨rfl, rfl⟩
      go_wp2_with fail
      go_ret
      exact ⟨by rw [e.out]; simp, rfl⟩
  · go_enter Try.func34, Try.ntmps34
    go_wp2_with fail
    refine (c1.out _).mono ?_
    rintro _ w1 ⟨rfl, rfl⟩
    go_wp2_with fail
    go_ret
    exact ⟨by rw [e.out]; simp, rfl⟩
theorem tells_token : TellsB 34 tokenB := ⟨fun _ _ => by kernel_rfl, fun c w h => token_in c w h⟩
def isToken (l : List UInt8) : Bool := decide (1 ≤ l.length) && (l.all fun b => tokenB b.toNat)
theorem token_walk (s : ByteArray) (l : List UInt8) (hs : s.data.toList = l) (w : World) (hm : s.size ≤ 1000000) :
    Calls Try.prog 21 #[.string s] w fun e w' => e = .returned (.bool (isToken l)) ∧ w = w' := by
  have hsz : l.length = s.size := by rw [← hs, Lib.size_eq]
  have hmf : ∀ (fn : Fn) (first cap : Array Value) (w : World), (Instr.makeFunc fn first cap).run Try.prog w = .ok (.func fn first cap) w := fun _ _ _ _ => rfl
  have e : Hid (isToken l = (decide (1 ≤ l.length) && (l.all fun b => tokenB b.toNat))) := rfl
  have ca := Lib.hid (fun w => all_walk _ _ tells_token s l hs w hm)
  by_cases h0 : s.size = 0
  · have he : s.toList = [] := str_nil h0
    go_enter Try.func21, Try.ntmps21
    go_wp2_with fail
    go_ret
    refine ⟨?_, rfl⟩
    rw [e.out, show l.length = 0 by omega]
    rfl
  · have he : s.toList.isEmpty = false := (str_ne h0).1
    have he2 : ¬ s.toList = [] := (str_ne h0).2
    go_enter Try.func21, Try.ntmps21
    go_wp2_with fail
    refine (ca.out _).mono ?_
    rintro _ w1 ⟨rfl, rfl⟩
    go_wp2_with fail
    go_ret
    refine ⟨?_, rfl⟩
    rw [e.out, show decide (1 ≤ l.length) = true by simp; omega]
    rfl
end Go.Proofs.Ytnnblddloabbjaa

/- Hosts and paths: inHost, inPath, hosted, pathed of the program. No condition of its own. -/
import Derived.Test.YtolfcpbcccbmmaaGreatDoorUa
import Derived.Test.YtolfcpbcccbmmaaGreatDoorGa
set_option linter.unusedVariables false
set_option linter.unusedSimpArgs false
set_option maxRecDepth 20000
namespace Go.Proofs.YtolfcpbcccbmmaaGreatDoor
open Go.RowKit Pc
theorem inHost_walk (c : Nat) (w : World) : Calls Tryz.prog 42 #[.int .u8 (c : Int)] w fun e w' => e = .returned (.bool (inHostB c)) ∧ w = w' := by
  have e : Hid (inHostB c = (smallB c || digitB c || decide (c = 45) || decide (c = 46))) := rfl
  have c1 := Lib.hid (small_walk c)
  have c2 := Lib.hid (digit_walk c)
  cases h1 : smallB c <;> rw [h1] at c1 e
  · cases h2 : digitB c <;> rw [h2] at c2 e
    · have b4 : ((c : Int) == 45) = decide (c = 45) := beq_lit c 45
      have b5 : ((c : Int) == 46) = decide (c = 46) := beq_lit c 46
      cases h4 : decide (c = 45) <;> cases h5 : decide (c = 46) <;> rw [h4] at b4 e <;> rw [h5] at b5 e <;> clear h4 h5
      all_goals
        go_enter Tryz.func42, Tryz.ntmps42
        go_wp2_with fail
        refine (c1.out _).mono ?_
        rintro _ w1 ⟨rfl, rfl⟩
        go_wp2_with fail
        refine (c2.out _).mono ?_
        rintro _ w1 ⟨rfl, rfl⟩
        go_wp2_with fail
        all_goals
          go_ret
          refine ⟨?_, rfl⟩
          rw [e.out]
          first | rfl | simp
    · go_enter Tryz.func42, Tryz.ntmps42
      go_wp2_with fail
      refine (c1.out _).mono ?_
      rintro _ w1 ⟨rfl, rfl⟩
      go_wp2_with fail
      refine (c2.out _).mono ?_
      rintro _ w1 ⟨rfl, rfl⟩
      go_wp2_with fail
      go_ret
      exact ⟨by rw [e.out]; simp, rfl⟩
  · go_enter Tryz.func42, Tryz.ntmps42
    go_wp2_with fail
    refine (c1.out _).mono ?_
    rintro _ w1 ⟨rfl, rfl⟩
    go_wp2_with fail
    go_ret
    exact ⟨by rw [e.out]; simp, rfl⟩
theorem inPath_walk (c : Nat) (w : World) : Calls Tryz.prog 46 #[.int .u8 (c : Int)] w fun e w' => e = .returned (.bool (inPathB c)) ∧ w = w' := by
  have e : Hid (inPathB c = (plainB c || decide (c = 47))) := rfl
  have c1 := Lib.hid (plain_walk c)
  cases h1 : plainB c <;> rw [h1] at c1 e
  · have b4 : ((c : Int) == 47) = decide (c = 47) := beq_lit c 47
    cases h4 : decide (c = 47) <;> rw [h4] at b4 e <;> clear h4
    all_goals
      go_enter Tryz.func46, Tryz.ntmps46
      go_wp2_with fail
      refine (c1.out _).mono ?_
      rintro _ w1 ⟨rfl, rfl⟩
      go_wp2_with fail
      all_goals
        go_ret
        refine ⟨?_, rfl⟩
        rw [e.out]
        first | rfl | simp
  · go_enter Tryz.func46, Tryz.ntmps46
    go_wp2_with fail
    refine (c1.out _).mono ?_
    rintro _ w1 ⟨rfl, rfl⟩
    go_wp2_with fail
    go_ret
    exact ⟨by rw [e.out]; simp, rfl⟩
theorem tells_host : TellsC 42 inHostB := ⟨fun _ _ => by kernel_rfl, fun c w _ => inHost_walk c w⟩
theorem tells_path : TellsC 46 inPathB := ⟨fun _ _ => by kernel_rfl, fun c w _ => inPath_walk c w⟩
theorem hosted_walk (h p : List UInt8) (w : World) (hm : h.length ≤ 1000000) :
    Calls Tryz.prog 22 #[.agg #[.string ⟨h.toArray⟩, .string ⟨p.toArray⟩]] w fun e w' => e = .returned (.bool (hostB h)) ∧ Below w.heap.size w w' := by
  have hb := Lib.hid ((Below.refl w.heap.size w).alloc (Nat.le_refl _) (.cells #[.string ⟨h.toArray⟩, .string ⟨p.toArray⟩] 47))
  have ca := Lib.hid (fun W => all_walk _ _ tells_host ⟨h.toArray⟩ h (by simp) W (by rw [size_mks]; exact hm))
  have hs := size_mks h
  by_cases h0 : h = []
  · have hv : Hid (hostB h = false) := by show _ = _; rw [h0]; rfl
    subst h0
    go_enter Tryz.func22, Tryz.ntmps22
    go_wp2_with fail
    go_ret
    exact ⟨by rw [hv.out]; rfl, hb.out⟩
  · have hn1 : h.isEmpty = false := by cases h with | nil => exact absurd rfl h0 | cons _ _ => rfl
    have hl1 : 1 ≤ h.length := by cases h with | nil => exact absurd rfl h0 | cons _ _ => simp
    by_cases h64 : h.length ≤ 64
    · have hv : Hid (hostB h = h.all fun b => inHostB b.toNat) := by show _ = _; rw [hostB, decide_eq_true hl1, decide_eq_true h64]; rfl
      have hd : decide ((h.length : Int) ≤ 64) = true := by simp; omega
      clear hm
      go_enter Tryz.func22, Tryz.ntmps22
      go_wp2_with fail
      refine (ca.out _).mono ?_
      rintro _ w2 ⟨rfl, rfl⟩
      go_wp2_with fail
      go_ret
      exact ⟨by rw [hv.out]; rfl, hb.out⟩
    · have hv : Hid (hostB h = false) := by show _ = _; rw [hostB, decide_eq_false h64]; simp
      have hd : decide ((h.length : Int) ≤ 64) = false := by simp; omega
      clear hm
      go_enter Tryz.func22, Tryz.ntmps22
      go_wp2_with fail
      go_ret
      exact ⟨by rw [hv.out]; rfl, hb.out⟩
theorem pref_slash (l : List UInt8) : Lib.hasPrefix l [47] = (l.head? == some 47) := by
  cases l with
  | nil => rfl
  | cons x r =>
    rw [Bool.eq_iff_iff]
    simp only [Lib.hasPrefix, List.isPrefixOf, Bool.and_true, beq_iff_eq, List.head?_cons, Option.some.injEq]
    exact eq_comm
theorem pathed_walk (h p : List UInt8) (w : World) (hm : p.length ≤ 1000000) :
    Calls Tryz.prog 26 #[.agg #[.string ⟨h.toArray⟩, .string ⟨p.toArray⟩]] w fun e w' => e = .returned (.bool (pathB p)) ∧ Below w.heap.size w w' := by
  have hb := Lib.hid ((Below.refl w.heap.size w).alloc (Nat.le_refl _) (.cells #[.string ⟨h.toArray⟩, .string ⟨p.toArray⟩] 47))
  have ca := Lib.hid (fun W => all_walk _ _ tells_path ⟨p.toArray⟩ p (by simp) W (by rw [size_mks]; exact hm))
  have cp := Lib.hid (fun W => Tryz.strings_HasPrefix ⟨p.toArray⟩ ⟨#[47]⟩ W)
  rw [show Lib.hasPrefix (⟨p.toArray⟩ : ByteArray).data.toList (⟨#[47]⟩ : ByteArray).data.toList = (p.head? == some 47) from pref_slash p] at cp
  have hv : Hid (pathB p = ((p.head? == some 47) && p.all fun b => inPathB b.toNat)) := rfl
  cases hh : (p.head? == some 47) with
  | false =>
    rw [hh] at cp hv
    clear hh
    go_enter Tryz.func26, Tryz.ntmps26
    go_wp2_with fail
    refine (cp.out _).mono ?_
    rintro _ w2 ⟨rfl, rfl⟩
    go_wp2_with fail
    go_ret
    exact ⟨by rw [hv.out]; rfl, hb.out⟩
  | true =>
    rw [hh] at cp hv
    clear hh
    go_enter Tryz.func26, Tryz.ntmps26
    go_wp2_with fail
    refine (cp.out _).mono ?_
    rintro _ w2 ⟨rfl, rfl⟩
    go_wp2_with fail
    refine (ca.out _).mono ?_
    rintro _ w3 ⟨rfl, rfl⟩
    go_wp2_with fail
    go_ret
    exact ⟨by rw [hv.out]; rfl, hb.out⟩
end Go.Proofs.YtolfcpbcccbmmaaGreatDoor

/- sign.All (seats that bear Gs). No condition of its own. -/
import Derived.Test.YtolfcpbcccbmmaaGreatDoorGs
set_option linter.unusedVariables false
set_option linter.unusedSimpArgs false
set_option maxRecDepth 20000
namespace Go.Proofs.YtolfcpbcccbmmaaGreatDoor
open Go.RowKit
/-- a function value that tells of a byte -/
def TellsC (F : FuncId) (p : Nat → Bool) : Prop := (∀ (args : Array Value) (w : World), (callFunc F args).run Tryz.prog w = .ok (.enter F args) w) ∧ ∀ (c : Nat) (w : World), c < 256 → Calls Tryz.prog F #[.int .u8 (c : Int)] w fun e w' => e = .returned (.bool (p c)) ∧ w = w'
theorem all_no {l : List UInt8} {p : Nat → Bool} {k : Nat} (hk : k < l.length) (h : p (l.getD k 0).toNat = false) : (l.all fun b => p b.toNat) = false := by
  rw [List.all_eq_false]
  exact ⟨l[k], List.getElem_mem hk, by rw [List.getD_eq_getElem?_getD, List.getElem?_eq_getElem hk] at h; simpa using h⟩
theorem all_yes {l : List UInt8} {p : Nat → Bool} (h : ∀ j, j < l.length → p (l.getD j 0).toNat = true) : (l.all fun b => p b.toNat) = true := by
  rw [List.all_eq_true]
  intro x hx
  obtain ⟨j, hj, he⟩ := List.getElem_of_mem hx
  have := h j hj
  rwa [List.getD_eq_getElem?_getD, List.getElem?_eq_getElem hj, Option.getD_some, he] at this
set_option maxHeartbeats 400000 in
theorem all_walk (F : FuncId) (p : Nat → Bool) (hF : TellsC F p) (s : ByteArray) (l : List UInt8) (hs : s.data.toList = l) (w : World) (hm : s.size ≤ 1000000) :
    Calls Tryz.prog 41 #[.string s, .func (.func F) #[] #[]] w fun e w' => e = .returned (.bool (l.all fun b => p b.toNat)) ∧ w = w' := by
  have hcf := hF.1
  go_enter Tryz.func41, Tryz.ntmps41
  go_wp2_with fail
  have hsz : l.length = s.size := by rw [← hs, Lib.size_eq]
  go_loopw [8] (fun nv wr => ∃ k : Nat, k ≤ s.size ∧ nv = .int .i64 k ∧ Hid (∀ j, j < k → p (l.getD j 0).toNat = true) ∧ w = wr) (fun nv _ => s.size - (intOf nv).toNat)
  case atStart => exact ⟨0, by omega, rfl, fun j hj => by omega, rfl⟩
  case round =>
    obtain ⟨k, hk, rfl, hp, rfl⟩ := hrel
    by_cases hlt : k < s.size
    · have cF := Lib.hid (fun w => hF.2 (l.getD k 0).toNat w (l.getD k 0).toNat_lt)
      obtain ⟨b, eb, hb, hb2⟩ : ∃ b : Nat, (s[k]'hlt).toNat = b ∧ Hid ((l.getD k 0).toNat = b) ∧ b < 256 := ⟨_, str_at hs hlt, rfl, (l.getD k 0).toNat_lt⟩
      rw [hb.out] at cF
      cases hpk : p b <;> rw [hpk] at cF
      · have hv : Hid ((l.all fun b => p b.toNat) = false) := all_no (k := k) (by omega) (by rw [hb.out]; exact hpk)
        go_wp2_with fail
        try rw [hcf, Oper.upon_enter]
        refine (cF.out _).mono ?_
        rintro _ w1 ⟨rfl, rfl⟩
        go_wp2_with fail
        go_ret
        exact ⟨by rw [hv.out]; rfl, rfl⟩
      · have HN : Hid (∀ j, j < k + 1 → p (l.getD j 0).toNat = true) := by
          show ∀ j, j < k + 1 → _
          intro j hj
          rcases Nat.lt_or_ge j k with h | h
          · exact hp.out j h
          · rw [show j = k by omega, hb.out]; exact hpk
        go_wp2_with fail
        try rw [hcf, Oper.upon_enter]
        refine (cF.out _).mono ?_
        rintro _ w1 ⟨rfl, rfl⟩
        go_wp2_with fail
        exact ⟨⟨k + 1, by omega, by go_num, HN, trivial⟩, by simp [intOf]; omega⟩
    · have hv : Hid ((l.all fun b => p b.toNat) = true) := all_yes (fun j hj => hp.out j (by omega))
      go_wp2_with fail
      go_ret
      exact ⟨by rw [hv.out]; rfl, rfl⟩
end Go.Proofs.YtolfcpbcccbmmaaGreatDoor

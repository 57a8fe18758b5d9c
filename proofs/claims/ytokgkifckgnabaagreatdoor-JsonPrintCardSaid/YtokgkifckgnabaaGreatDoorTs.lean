import Derived.Test.YtokgkifckgnabaaGreatDoorKit
set_option linter.unusedVariables false
set_option linter.unusedSimpArgs false
set_option maxRecDepth 20000
namespace Go.Proofs.YtokgkifckgnabaaGreatDoor
open Go.RowKit
def greatB (c : Nat) : Bool := decide (65 ≤ c) && decide (c ≤ 90)
def smallB (c : Nat) : Bool := decide (97 ≤ c) && decide (c ≤ 122)
def digitB (c : Nat) : Bool := decide (48 ≤ c) && decide (c ≤ 57)
def sixtyB (c : Nat) : Bool := greatB c || smallB c || digitB c || decide (c = 45) || decide (c = 95)
def plainB (c : Nat) : Bool := sixtyB c || decide (c = 46) || decide (c = 126)
theorem beq_lit (c k : Nat) : ((c : Int) == (k : Int)) = decide (c = k) := by
  by_cases h : c = k
  · subst h; simp
  · rw [beq_eq_false_iff_ne.2 (by omega)]; simp [h]
/-- a function value that tells of a byte -/
def TellsB (F : FuncId) (p : Nat → Bool) : Prop := (∀ (args : Array Value) (w : World), (callFunc F args).run Tryz.prog w = .ok (.enter F args) w) ∧ ∀ (c : Nat) (w : World), c < 256 → Calls Tryz.prog F #[.int .u8 (c : Int)] w fun e w' => e = .returned (.bool (p c)) ∧ w = w'
theorem str_at {s : ByteArray} {l : List UInt8} (hs : s.data.toList = l) {k : Nat} (hk : k < s.size) : (s[k]'hk).toNat = (l.getD k 0).toNat := by
  subst hs
  rw [List.getD_eq_getElem?_getD, List.getElem?_eq_getElem (by simpa using hk)]
  rfl
theorem all_no {l : List UInt8} {p : Nat → Bool} {k : Nat} (hk : k < l.length) (h : p (l.getD k 0).toNat = false) : (l.all fun b => p b.toNat) = false := by
  rw [List.all_eq_false]
  exact ⟨l[k], List.getElem_mem hk, by rw [List.getD_eq_getElem?_getD, List.getElem?_eq_getElem hk] at h; simpa using h⟩
theorem all_yes {l : List UInt8} {p : Nat → Bool} (h : ∀ j, j < l.length → p (l.getD j 0).toNat = true) : (l.all fun b => p b.toNat) = true := by
  rw [List.all_eq_true]
  intro x hx
  obtain ⟨j, hj, he⟩ := List.getElem_of_mem hx
  have := h j hj
  rwa [List.getD_eq_getElem?_getD, List.getElem?_eq_getElem hj, Option.getD_some, he] at this
end Go.Proofs.YtokgkifckgnabaaGreatDoor

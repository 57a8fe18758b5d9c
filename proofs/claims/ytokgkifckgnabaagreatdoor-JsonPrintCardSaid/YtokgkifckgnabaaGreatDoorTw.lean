import Derived.Test.YtokgkifckgnabaaGreatDoorKit
import Derived.Test.YtokgkifckgnabaaGreatDoorTx
set_option linter.unusedVariables false
set_option linter.unusedSimpArgs false
set_option maxRecDepth 20000
namespace Go.Proofs.YtokgkifckgnabaaGreatDoor
open Go.RowKit Tx
/-- the facts of one step of a range over a text -/
theorem next_more {w : World} {g : Nat} {s : ByteArray} {l : List UInt8} {k : Nat} (hs : s.data.toList = l) (hk : k ≤ (runes l).length) (hit : w.heap[g]? = some (.stringIter s (posAt l k))) (hlt : k < (runes l).length) :
    ∃ r : Nat, (runes l)[k]? = some (dc (l.drop (posAt l k))) ∧ (dc (l.drop (posAt l k))).1 = r ∧ r ≤ 2147483647 ∧ posAt l k < s.size ∧
      (∀ ty, (Instr.next (.pointer (some ⟨g, 0, none⟩)) true ty).run Tryz.prog w = .ok (.tuple #[.bool true, .int .i64 (posAt l k : Nat), .int .i32 (r : Int)]) (w.iterAt g s (posAt l (k + 1)))) ∧
      (w.iterAt g s (posAt l (k + 1))).heap[g]? = some (.stringIter s (posAt l (k + 1))) ∧ k + 1 ≤ (runes l).length := by
  obtain ⟨h1, h2, h3, h4⟩ := posAt_spec k l hk
  have hsz : s.size = l.length := by rw [← hs, Lib.size_eq]
  have hp : posAt l k < l.length := by
    rcases Nat.lt_or_ge (posAt l k) l.length with h | h
    · exact h
    · have := h4 (by omega); omega
  obtain ⟨q1, q2, q3⟩ := h3 hp
  refine ⟨_, q2, rfl, ?_, by omega, fun ty => ?_, Lib.iterAt_heap w g s _ _ hit, by omega⟩
  · have := decode_le s (posAt l k)
    rwa [decode_dc s _ (by omega), hs] at this
  · rw [Lib.run_next_any_at w g s _ ty hit (by omega), decode_dc s _ (by omega), hs, q3]
theorem next_end {w : World} {g : Nat} {s : ByteArray} {l : List UInt8} {k : Nat} (hs : s.data.toList = l) (hk : k ≤ (runes l).length) (hit : w.heap[g]? = some (.stringIter s (posAt l k))) (hge : ¬ k < (runes l).length) :
    k = (runes l).length ∧ posAt l k = s.size ∧ ∀ ty, (Instr.next (.pointer (some ⟨g, 0, none⟩)) true ty).run Tryz.prog w = .ok (.tuple #[.bool false]) w := by
  obtain ⟨h1, h2, h3, h4⟩ := posAt_spec k l hk
  have hsz : s.size = l.length := by rw [← hs, Lib.size_eq]
  have hp : ¬ posAt l k < l.length := fun h => hge (h3 h).1
  exact ⟨by omega, by omega, fun ty => Lib.run_next_end_at w g s _ ty hit (by omega)⟩
theorem runes_le (l : List UInt8) : (runes l).length ≤ l.length := by
  have : ∀ (f : Nat) (l : List UInt8), (rn f l).length ≤ f := by
    intro f
    induction f with
    | zero => intro l; simp [rn]
    | succ f ih =>
      intro l
      rw [rn]
      split
      · simp
      · have := ih (l.drop (dc l).2)
        simp; omega
  exact this _ _
def validL (l : List UInt8) : Bool := (runes l).all fun x => x.1 != 65533
theorem valid_no {l : List UInt8} {k r : Nat} (h : (runes l)[k]? = some (dc (l.drop (posAt l k)))) (h2 : (dc (l.drop (posAt l k))).1 = r) (hr : r = 65533) : validL l = false := by
  rw [validL, List.all_eq_false]
  refine ⟨_, List.mem_of_getElem? h, ?_⟩
  rw [h2, hr]; simp
theorem valid_yes {l : List UInt8} (h : ∀ j x, j < (runes l).length → (runes l)[j]? = some x → x.1 ≠ 65533) : validL l = true := by
  rw [validL, List.all_eq_true]
  intro x hx
  obtain ⟨j, hj, he⟩ := List.getElem_of_mem hx
  have := h j x hj (by rw [List.getElem?_eq_getElem hj, he])
  simpa using this
theorem upto_succ {l : List UInt8} {k r : Nat} {p : Nat → Prop} (h : ∀ j x, j < k → (runes l)[j]? = some x → p x.1) (h1 : (runes l)[k]? = some (dc (l.drop (posAt l k)))) (h2 : (dc (l.drop (posAt l k))).1 = r) (hr : p r) : ∀ j x, j < k + 1 → (runes l)[j]? = some x → p x.1 := by
  intro j x hj hx
  rcases Nat.lt_or_ge j k with h' | h'
  · exact h j x h' hx
  · obtain rfl : j = k := by omega
    rw [h1] at hx
    injection hx with hx
    rw [← hx, h2]; exact hr
set_option maxHeartbeats 400000 in
theorem valid_walk (s : ByteArray) (l : List UInt8) (hs : s.data.toList = l) (w : World) (hm : s.size ≤ 1000000) :
    Calls Tryz.prog 70 #[.string s] w fun e w' => e = .returned (.bool (validL l)) ∧ Below w.heap.size w w' := by
  have hrl := runes_le l
  have hsz : l.length = s.size := by rw [← hs, Lib.size_eq]
  go_enter Tryz.func70, Tryz.ntmps70
  go_wp2_with fail
  go_loopg [] ((runes l).length) (fun q wr => ∃ k : Nat, k + q = (runes l).length ∧ Hid (wr.heap[w.heap.size]? = some (.stringIter s (posAt l k))) ∧ Hid (∀ j x, j < k → (runes l)[j]? = some x → x.1 ≠ 65533) ∧ Below w.heap.size w wr)
  case atStart => exact ⟨0, by omega, World.iter_heap w s 0, fun j x hj => by omega, (Below.refl _ _).alloc (Nat.le_refl _) _⟩
  case round =>
    obtain ⟨k, hk, hit, hno, hbl⟩ := hrel
    by_cases hlt : k < (runes l).length
    · obtain ⟨r, hr1, hr2, hr3, hp, hnx, hit2, hk2⟩ := next_more (w := wr) hs (by omega) hit.out hlt
      have hbl2 := Lib.below_iterAt hbl (Nat.le_refl _) s (posAt l (k + 1))
      have HIT := Lib.hid hit2
      by_cases hr : r = 65533
      · have hv := Lib.hid (valid_no hr1 hr2 hr)
        have hb : ((r : Int) == 65533) = true := by rw [beq_iff_eq]; omega
        clear hr1 hr2 hit2 hr
        go_wp2_with fail
        go_ret
        exact ⟨by rw [hv.out]; rfl, hbl2⟩
      · have hb : ((r : Int) == 65533) = false := by rw [beq_eq_false_iff_ne]; omega
        have HN := Lib.hid (upto_succ (p := fun x => x ≠ 65533) hno.out hr1 hr2 hr)
        clear hr1 hr2 hit2 hr
        go_wp2_with fail
        go_roundg (gk - 1)
        case rel => exact ⟨k + 1, by omega, HIT, HN, hbl2⟩
        case measure => omega
    · obtain ⟨hke, hpe, hnx⟩ := next_end (w := wr) hs (by omega) hit.out hlt
      have hv := Lib.hid (valid_yes (fun j x hj => hno.out j x (by omega)))
      clear hke hpe
      go_wp2_with fail
      go_ret
      exact ⟨by rw [hv.out]; rfl, hbl⟩
def shownB (r : Nat) : Bool := decide (32 < r) && (decide (r < 127) || decide (160 < r))
def nameB (l : List UInt8) : Bool := decide (1 ≤ (runes l).length) && decide ((runes l).length ≤ 24) && ((runes l).all fun x => shownB x.1) && validL l
theorem name_long {l : List UInt8} (h : 24 < (runes l).length) : nameB l = false := by
  simp only [nameB]
  rw [show decide ((runes l).length ≤ 24) = false by simp; omega]
  simp
theorem name_hidden {l : List UInt8} {k r : Nat} (h : (runes l)[k]? = some (dc (l.drop (posAt l k)))) (h2 : (dc (l.drop (posAt l k))).1 = r) (hr : shownB r = false) : nameB l = false := by
  have : ((runes l).all fun x => shownB x.1) = false := by
    rw [List.all_eq_false]
    exact ⟨_, List.mem_of_getElem? h, by rw [h2, hr]; simp⟩
  simp [nameB, this]
theorem name_end {l : List UInt8} (h : ∀ j x, j < (runes l).length → (runes l)[j]? = some x → shownB x.1 = true) (h24 : (runes l).length ≤ 24) : nameB l = (decide (1 ≤ (runes l).length) && validL l) := by
  have : ((runes l).all fun x => shownB x.1) = true := by
    rw [List.all_eq_true]
    intro x hx
    obtain ⟨j, hj, he⟩ := List.getElem_of_mem hx
    exact h j x hj (by rw [List.getElem?_eq_getElem hj, he])
  simp [nameB, this, h24]
def widths (l : List UInt8) (n : Int) : Nat := posAt l (min n.toNat (runes l).length)
end Go.Proofs.YtokgkifckgnabaaGreatDoor

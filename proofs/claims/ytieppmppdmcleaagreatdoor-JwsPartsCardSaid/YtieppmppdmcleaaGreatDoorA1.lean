/- Plain words of runes: what a text's bytes are as runes, one behind the other; its front of so many runes. No program in sight, no condition. -/
import Derived.Lib.RuneCount
import Derived.Test.YtieppmppdmcleaaGreatDoorKit
set_option linter.unusedVariables false
set_option linter.unusedSimpArgs false
set_option maxRecDepth 20000
namespace Go.Proofs.YtieppmppdmcleaaGreatDoor.Tx
def bt (l : List UInt8) (k : Nat) : Nat := (l.getD k 0).toNat
theorem bt_lt (l : List UInt8) (k : Nat) : bt l k < 256 := (l.getD k 0).toNat_lt
def cont (l : List UInt8) (k : Nat) : Bool := decide (k < l.length) && bt l k / 64 == 2
/-- the first rune and its width -/
def dc (l : List UInt8) : Nat × Nat :=
  if bt l 0 < 128 then (bt l 0, 1)
  else if bt l 0 / 32 == 6 && cont l 1 then
    if (bt l 0 % 32) * 64 + bt l 1 % 64 ≥ 128 then ((bt l 0 % 32) * 64 + bt l 1 % 64, 2) else (65533, 1)
  else if bt l 0 / 16 == 14 && cont l 1 && cont l 2 then
    if (bt l 0 % 16) * 4096 + (bt l 1 % 64) * 64 + bt l 2 % 64 ≥ 2048 && Utf8.valid ((bt l 0 % 16) * 4096 + (bt l 1 % 64) * 64 + bt l 2 % 64) then ((bt l 0 % 16) * 4096 + (bt l 1 % 64) * 64 + bt l 2 % 64, 3) else (65533, 1)
  else if bt l 0 / 8 == 30 && cont l 1 && cont l 2 && cont l 3 then
    if (bt l 0 % 8) * 262144 + (bt l 1 % 64) * 4096 + (bt l 2 % 64) * 64 + bt l 3 % 64 ≥ 65536 && Utf8.valid ((bt l 0 % 8) * 262144 + (bt l 1 % 64) * 4096 + (bt l 2 % 64) * 64 + bt l 3 % 64) then ((bt l 0 % 8) * 262144 + (bt l 1 % 64) * 4096 + (bt l 2 % 64) * 64 + bt l 3 % 64, 4) else (65533, 1)
  else (65533, 1)
theorem cont_lt {l : List UInt8} {k : Nat} (h : cont l k = true) : k < l.length := by
  simp only [cont, Bool.and_eq_true, decide_eq_true_eq] at h; exact h.1
theorem dc_pos (l : List UInt8) : 1 ≤ (dc l).2 := by
  unfold dc
  repeat' split
  all_goals simp
theorem dc_le (l : List UInt8) (h : l ≠ []) : (dc l).2 ≤ l.length := by
  have h0 : 0 < l.length := List.length_pos_iff.2 h
  unfold dc
  split
  · exact h0
  · split
    · rename_i hc
      simp only [Bool.and_eq_true] at hc
      have := cont_lt hc.2
      split <;> simp <;> omega
    · split
      · rename_i hc
        simp only [Bool.and_eq_true] at hc
        have := cont_lt hc.2
        split <;> simp <;> omega
      · split
        · rename_i hc
          simp only [Bool.and_eq_true] at hc
          have := cont_lt hc.2
          split <;> simp <;> omega
        · exact h0
theorem decode_dc (s : ByteArray) (pos : Nat) (h : pos < s.size) : Utf8.decode s pos = dc (s.data.toList.drop pos) := by
  have hg : ∀ k, pos + k < s.size → (s.get! (pos + k)).toNat = bt (s.data.toList.drop pos) k := by
    intro k hk
    have : s.get! (pos + k) = s.data.toList[pos + k]'(by simpa using hk) := by
      simp only [ByteArray.get!]
      rw [getElem!_pos s.data (pos + k) hk]
      simp
    rw [this, bt, List.getD_eq_getElem?_getD, List.getElem?_drop, List.getElem?_eq_getElem (by simpa using hk)]
    rfl
  have hc : ∀ k, (decide (pos + k < s.size) && (s.get! (pos + k)).toNat / 64 == 2) = cont (s.data.toList.drop pos) k := by
    intro k
    have hll : (s.data.toList.drop pos).length = s.size - pos := by rw [List.length_drop]; simp
    unfold cont
    by_cases hk : pos + k < s.size
    · rw [hg k hk]
      have h1 : k < (s.data.toList.drop pos).length := by omega
      simp only [hk, h1, decide_true]
    · have h1 : ¬ k < (s.data.toList.drop pos).length := by omega
      simp only [hk, h1, decide_false, Bool.false_and]
  have h0 := hg 0 (by omega)
  unfold Utf8.decode dc
  simp only [hc, h0, Utf8.runeError]
  by_cases c1 : cont (s.data.toList.drop pos) 1 = true
  · have e1 := hg 1 (by have := cont_lt c1; rw [List.length_drop] at this; simp at this; omega)
    by_cases c2 : cont (s.data.toList.drop pos) 2 = true
    · have e2 := hg 2 (by have := cont_lt c2; rw [List.length_drop] at this; simp at this; omega)
      by_cases c3 : cont (s.data.toList.drop pos) 3 = true
      · have e3 := hg 3 (by have := cont_lt c3; rw [List.length_drop] at this; simp at this; omega)
        simp only [c1, c2, c3, e1, e2, e3]; rfl
      · simp only [c1, c2, c3, e1, e2]; simp
    · simp only [c1, c2, e1]; simp
  · simp only [c1]; simp
def rn : Nat → List UInt8 → List (Nat × Nat)
  | 0, _ => []
  | f + 1, l => if l = [] then [] else dc l :: rn f (l.drop (dc l).2)
def runes (l : List UInt8) : List (Nat × Nat) := rn l.length l
theorem rn_enough : ∀ (f : Nat) (l : List UInt8), l.length ≤ f → rn f l = rn l.length l
  | 0, l, h => by rw [show l.length = 0 by omega]
  | f + 1, l, h => by
    by_cases hl : l = []
    · subst hl; simp [rn]
    · have h0 : 0 < l.length := List.length_pos_iff.2 hl
      obtain ⟨n, hn⟩ : ∃ n, l.length = n + 1 := ⟨l.length - 1, by omega⟩
      have hp := dc_pos l
      rw [hn, rn, rn, if_neg hl, if_neg hl, rn_enough f _ (by rw [List.length_drop]; omega), rn_enough n _ (by rw [List.length_drop]; omega)]
theorem runes_nil : runes [] = [] := rfl
theorem runes_cons (l : List UInt8) (h : l ≠ []) : runes l = dc l :: runes (l.drop (dc l).2) := by
  have h0 : 0 < l.length := List.length_pos_iff.2 h
  obtain ⟨n, hn⟩ : ∃ n, l.length = n + 1 := ⟨l.length - 1, by omega⟩
  have hp := dc_pos l
  rw [runes, hn, rn, if_neg h, rn_enough n _ (by rw [List.length_drop]; omega)]
  rfl
def posAt : List UInt8 → Nat → Nat
  | _, 0 => 0
  | l, k + 1 => if l = [] then 0 else (dc l).2 + posAt (l.drop (dc l).2) k
theorem posAt_spec : ∀ (k : Nat) (l : List UInt8), k ≤ (runes l).length → posAt l k ≤ l.length ∧ runes (l.drop (posAt l k)) = (runes l).drop k ∧
    (posAt l k < l.length → k < (runes l).length ∧ (runes l)[k]? = some (dc (l.drop (posAt l k))) ∧ posAt l (k + 1) = posAt l k + (dc (l.drop (posAt l k))).2) ∧ (¬ posAt l k < l.length → k = (runes l).length)
  | 0, l, _ => by
    refine ⟨Nat.zero_le _, by simp [posAt], fun h => ?_, fun h => ?_⟩
    · have hl : l ≠ [] := List.length_pos_iff.1 (by simpa [posAt] using h)
      rw [runes_cons l hl]
      simp [posAt, hl]
    · have hl : l = [] := List.eq_nil_of_length_eq_zero (by simpa [posAt] using h)
      subst hl; simp [runes_nil]
  | k + 1, l, h => by
    by_cases hl : l = []
    · subst hl; simp [runes_nil] at h
    · have hc := runes_cons l hl
      rw [hc] at h ⊢
      have hle := dc_le l hl
      obtain ⟨h1, h2, h3, h4⟩ := posAt_spec k (l.drop (dc l).2) (by simpa using h)
      have hpos : posAt l (k + 1) = (dc l).2 + posAt (l.drop (dc l).2) k := by rw [posAt, if_neg hl]
      have hpos2 : posAt l (k + 2) = (dc l).2 + posAt (l.drop (dc l).2) (k + 1) := by rw [posAt, if_neg hl]
      rw [List.length_drop] at h1 h3 h4
      rw [List.drop_drop] at h2 h3
      rw [hpos, hpos2]
      refine ⟨by omega, by simpa using h2, fun hlt => ?_, fun hlt => ?_⟩
      · obtain ⟨q1, q2, q3⟩ := h3 (by omega)
        refine ⟨by simpa using q1, by simpa using q2, by rw [q3]; omega⟩
      · have := h4 (by omega)
        simp [this]
end Go.Proofs.YtieppmppdmcleaaGreatDoor.Tx
set_option linter.unusedVariables false
set_option linter.unusedSimpArgs false
set_option maxRecDepth 20000
namespace Go.Proofs.YtieppmppdmcleaaGreatDoor
open Go.RowKit Tx
/-- the facts of one step of a range over a text -/
theorem next_more {w : World} {g : Nat} {s : ByteArray} {l : List UInt8} {k : Nat} (hs : s.data.toList = l) (hk : k ≤ (runes l).length) (hit : w.heap[g]? = some (.stringIter s (posAt l k))) (hlt : k < (runes l).length) :
    ∃ r : Nat, (runes l)[k]? = some (dc (l.drop (posAt l k))) ∧ (dc (l.drop (posAt l k))).1 = r ∧ r ≤ 2147483647 ∧ posAt l k < s.size ∧
      (∀ ty, (Instr.next (.pointer (some ⟨g, 0, none⟩)) true ty).run Tryz.prog w = .ok (.tuple #[.bool true, .int .i64 (posAt l k : Nat), .int .i32 (r : Int)]) (w.iterAt g s (posAt l (k + 1)))) ∧
      (w.iterAt g s (posAt l (k + 1))).heap[g]? = some (.stringIter s (posAt l (k + 1))) ∧ k + 1 ≤ (runes l).length := by
  obtain ⟨h1, h2, h3, h4⟩ := posAt_spec k l hk
  have hsz : s.size = l.length := by rw [← hs, Lib.size_eq]
  have hp : posAt l k < l.length := by
    rcases Nat.lt_or_ge (posAt l k) l.length with h | h
    · exact h
    · have := h4 (by omega); omega
  obtain ⟨q1, q2, q3⟩ := h3 hp
  refine ⟨_, q2, rfl, ?_, by omega, fun ty => ?_, Lib.iterAt_heap w g s _ _ hit, by omega⟩
  · have := decode_le s (posAt l k)
    rwa [decode_dc s _ (by omega), hs] at this
  · rw [Lib.run_next_any_at w g s _ ty hit (by omega), decode_dc s _ (by omega), hs, q3]
theorem next_end {w : World} {g : Nat} {s : ByteArray} {l : List UInt8} {k : Nat} (hs : s.data.toList = l) (hk : k ≤ (runes l).length) (hit : w.heap[g]? = some (.stringIter s (posAt l k))) (hge : ¬ k < (runes l).length) :
    k = (runes l).length ∧ posAt l k = s.size ∧ ∀ ty, (Instr.next (.pointer (some ⟨g, 0, none⟩)) true ty).run Tryz.prog w = .ok (.tuple #[.bool false]) w := by
  obtain ⟨h1, h2, h3, h4⟩ := posAt_spec k l hk
  have hsz : s.size = l.length := by rw [← hs, Lib.size_eq]
  have hp : ¬ posAt l k < l.length := fun h => hge (h3 h).1
  exact ⟨by omega, by omega, fun ty => Lib.run_next_end_at w g s _ ty hit (by omega)⟩
theorem runes_le (l : List UInt8) : (runes l).length ≤ l.length := by
  have : ∀ (f : Nat) (l : List UInt8), (rn f l).length ≤ f := by
    intro f
    induction f with
    | zero => intro l; simp [rn]
    | succ f ih =>
      intro l
      rw [rn]
      split
      · simp
      · have := ih (l.drop (dc l).2)
        simp; omega
  exact this _ _
def validL (l : List UInt8) : Bool := (runes l).all fun x => x.1 != 65533
theorem valid_no {l : List UInt8} {k r : Nat} (h : (runes l)[k]? = some (dc (l.drop (posAt l k)))) (h2 : (dc (l.drop (posAt l k))).1 = r) (hr : r = 65533) : validL l = false := by
  rw [validL, List.all_eq_false]
  refine ⟨_, List.mem_of_getElem? h, ?_⟩
  rw [h2, hr]; simp
theorem valid_yes {l : List UInt8} (h : ∀ j x, j < (runes l).length → (runes l)[j]? = some x → x.1 ≠ 65533) : validL l = true := by
  rw [validL, List.all_eq_true]
  intro x hx
  obtain ⟨j, hj, he⟩ := List.getElem_of_mem hx
  have := h j x hj (by rw [List.getElem?_eq_getElem hj, he])
  simpa using this
theorem upto_succ {l : List UInt8} {k r : Nat} {p : Nat → Prop} (h : ∀ j x, j < k → (runes l)[j]? = some x → p x.1) (h1 : (runes l)[k]? = some (dc (l.drop (posAt l k)))) (h2 : (dc (l.drop (posAt l k))).1 = r) (hr : p r) : ∀ j x, j < k + 1 → (runes l)[j]? = some x → p x.1 := by
  intro j x hj hx
  rcases Nat.lt_or_ge j k with h' | h'
  · exact h j x h' hx
  · obtain rfl : j = k := by omega
    rw [h1] at hx
    injection hx with hx
    rw [← hx, h2]; exact hr
set_option maxHeartbeats 400000 in
theorem valid_walk (s : ByteArray) (l : List UInt8) (hs : s.data.toList = l) (w : World) (hm : s.size ≤ 1000000) :
    Calls Tryz.prog 114 #[.string s] w fun e w' => e = .returned (.bool (validL l)) ∧ Below w.heap.size w w' := by
  have hrl := runes_le l
  have hsz : l.length = s.size := by rw [← hs, Lib.size_eq]
  go_enter Tryz.func114, Tryz.ntmps114
  go_wp2_with fail
  go_loopg [] ((runes l).length) (fun q wr => ∃ k : Nat, k + q = (runes l).length ∧ Hid (wr.heap[w.heap.size]? = some (.stringIter s (posAt l k))) ∧ Hid (∀ j x, j < k → (runes l)[j]? = some x → x.1 ≠ 65533) ∧ Below w.heap.size w wr)
  case atStart => exact ⟨0, by omega, World.iter_heap w s 0, fun j x hj => by omega, (Below.refl _ _).alloc (Nat.le_refl _) _⟩
  case round =>
    obtain ⟨k, hk, hit, hno, hbl⟩ := hrel
    by_cases hlt : k < (runes l).length
    · obtain ⟨r, hr1, hr2, hr3, hp, hnx, hit2, hk2⟩ := next_more (w := wr) hs (by omega) hit.out hlt
      have hbl2 := Lib.below_iterAt hbl (Nat.le_refl _) s (posAt l (k + 1))
      have HIT := Lib.hid hit2
      by_cases hr : r = 65533
      · have hv := Lib.hid (valid_no hr1 hr2 hr)
        have hb : ((r : Int) == 65533) = true := by rw [beq_iff_eq]; omega
        clear hr1 hr2 hit2 hr
        go_wp2_with fail
        go_ret
        exact ⟨by rw [hv.out]; rfl, hbl2⟩
      · have hb : ((r : Int) == 65533) = false := by rw [beq_eq_false_iff_ne]; omega
        have HN := Lib.hid (upto_succ (p := fun x => x ≠ 65533) hno.out hr1 hr2 hr)
        clear hr1 hr2 hit2 hr
        go_wp2_with fail
        go_roundg (gk - 1)
        case rel => exact ⟨k + 1, by omega, HIT, HN, hbl2⟩
        case measure => omega
    · obtain ⟨hke, hpe, hnx⟩ := next_end (w := wr) hs (by omega) hit.out hlt
      have hv := Lib.hid (valid_yes (fun j x hj => hno.out j x (by omega)))
      clear hke hpe
      go_wp2_with fail
      go_ret
      exact ⟨by rw [hv.out]; rfl, hbl⟩
end Go.Proofs.YtieppmppdmcleaaGreatDoor

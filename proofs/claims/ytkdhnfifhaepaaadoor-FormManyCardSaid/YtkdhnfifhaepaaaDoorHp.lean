/- FormMany: so many fields, and no more. Condition: the table of digits is laid. -/
import Derived.Test.YtkdhnfifhaepaaaDoorHo
set_option linter.unusedVariables false
set_option linter.unusedSimpArgs false
set_option maxRecDepth 20000
namespace Go.Proofs.YtkdhnfifhaepaaaDoor
open Go.RowKit Pc
def sL : Nat → List UInt8
  | 0 => []
  | k + 1 => sL k ++ ((if 0 < k then [38] else []) ++ [UInt8.ofNat (97 + k), 61, 49])
theorem pl_s (r : Nat) (h : r < 6) : (formE (sL (21 + r))).1 = (if r ≤ 3 then 0 else 7) ∧ (r ≤ 3 → (formE (sL (21 + r))).2.length = 21 + r) := by
  obtain rfl | rfl | rfl | rfl | rfl | rfl : r = 0 ∨ r = 1 ∨ r = 2 ∨ r = 3 ∨ r = 4 ∨ r = 5 := by omega
  all_goals decide +kernel
theorem pl_b (r : Nat) (h : r < 6) : (formE ([33] ++ sL (21 + r))).1 = (if r ≤ 3 then 3 else 7) := by
  obtain rfl | rfl | rfl | rfl | rfl | rfl : r = 0 ∨ r = 1 ∨ r = 2 ∨ r = 3 ∨ r = 4 ∨ r = 5 := by omega
  all_goals decide +kernel
theorem cat_l {s t : ByteArray} {a b : List UInt8} (hs : s.data.toList = a) (ht : t.data.toList = b) : (s ++ t).data.toList = a ++ b := by
  rw [← hs, ← ht]; simp
theorem sL_len : ∀ k, (sL k).length ≤ 4 * k
  | 0 => by simp [sL]
  | k + 1 => by have := sL_len k; simp [sL]; split <;> simp <;> omega
theorem size_of {s : ByteArray} {l : List UInt8} (h : s.data.toList = l) : s.size = l.length := by rw [← h, Lib.size_eq]
set_option maxHeartbeats 16000000 in
set_option maxRecDepth 100000 in
theorem formMany_law (z1 : Int) (bad : Bool) (w : World) (h1 : -9223372036854775808 ≤ z1 ∧ z1 ≤ 9223372036854775807) (hd : DigOk w) :
    Calls Tryd.prog 6 #[.int .i64 z1, .bool bad] w fun e w' => e = .returned (.bool true) ∧ Below w.heap.size w w' := by
  have HD := Lib.hid hd
  have c1 := Lib.hid (fun w => within10_walk z1 6 w (by decide) (by decide) h1)
  obtain ⟨r, hr⟩ : ∃ r : Nat, z1 % 6 = r := ⟨(z1 % 6).toNat, by omega⟩
  have hr6 : r < 6 := by omega
  rw [hr] at c1
  clear hr h1 hd
  go_enter Tryd.func6, Tryd.ntmps6
  go_wp2_with fail
  refine (known_walk w HD.out).mono ?_
  rintro _ w1 ⟨rfl, hb⟩
  go_wp2_with fail
  refine (c1.out _).mono ?_
  rintro _ w1 ⟨rfl, rfl⟩
  go_wp2_with fail
  go_loopw [6, 7] (fun sv iv wr => ∃ (k : Nat) (s : ByteArray), k ≤ 21 + r ∧ iv = .int .i64 k ∧ sv = .string s ∧ Hid (s.data.toList = sL k) ∧ Below w.heap.size w wr) (fun _ iv _ => 21 + r - (intOf iv).toNat)
  case atStart => exact ⟨0, ⟨#[]⟩, by omega, rfl, rfl, rfl, hb⟩
  case round =>
    clear hb
    obtain ⟨k, s, hk, rfl, rfl, hs, hb⟩ := hrel
    have hsz : s.size ≤ 200 := by rw [size_of hs.out]; have := sL_len k; omega
    by_cases hlt : k < 21 + r
    · have hu : Hid ((UInt8.ofNat (97 + k)).toNat = 97 + k) := by show _ = _; rw [UInt8.toNat_ofNat']; omega
      have hcv : ∀ W : World, (convert 42 9 (.slice (some ⟨W.heap.size, 0, none⟩) 1 1)).run Tryd.prog (W.alloc (.cells #[.int .u8 (97 + (k : Int))] 5)) = .ok (.string ⟨#[UInt8.ofNat (97 + k)]⟩) (W.alloc (.cells #[.int .u8 (97 + (k : Int))] 5)) := fun W => by
        have hrow := reads_row W 5 (Lib.byteCells [UInt8.ofNat (97 + k)])
        have hbc : Lib.byteCells [UInt8.ofNat (97 + k)] = [.int .u8 (97 + (k : Int))] := by simp only [Lib.byteCells, List.map_cons, List.map_nil, hu.out]; simp
        rw [hbc] at hrow
        exact reads_str (l := [UInt8.ofNat (97 + k)]) (by rw [hbc]; exact hrow) 42 9 5 Tryd.underlying42 Tryd.underlying5 Tryd.underlying9
      have hw8 : IntKind.u8.wrap (97 + (k : Int)) = 97 + (k : Int) := by
        unfold IntKind.wrap; simp [IntKind.bits, IntKind.signed]; omega
      have hbn := Lib.hid (hb.alloc hb.size (.cells #[.int .u8 (97 + (k : Int))] 5))
      by_cases h0 : 0 < k
      · have hn : Hid ((s ++ ⟨#[38]⟩ ++ ⟨#[UInt8.ofNat (97 + k)]⟩ ++ ⟨#[61, 49]⟩).data.toList = sL (k + 1)) := by
          show _ = _
          rw [sL, if_pos h0, cat_l (cat_l (cat_l hs.out rfl) rfl) rfl, List.append_assoc, List.append_assoc]
          rfl
        obtain ⟨bt, hbt⟩ : ∃ bt, UInt8.ofNat (97 + k) = bt := ⟨_, rfl⟩
        rw [hbt] at hcv hn
        clear hbt hu
        go_wp2_with fail
        exact ⟨⟨k + 1, _, by omega, by go_num, rfl, hn, hbn.out⟩, by simp [intOf]; omega⟩
      · have hn : Hid ((s ++ ⟨#[UInt8.ofNat (97 + k)]⟩ ++ ⟨#[61, 49]⟩).data.toList = sL (k + 1)) := by
          show _ = _
          rw [sL, if_neg h0, cat_l (cat_l hs.out rfl) rfl, List.append_assoc]
          rfl
        obtain ⟨bt, hbt⟩ : ∃ bt, UInt8.ofNat (97 + k) = bt := ⟨_, rfl⟩
        rw [hbt] at hcv hn
        clear hbt hu
        go_wp2_with fail
        exact ⟨⟨k + 1, _, by omega, by go_num, rfl, hn, hbn.out⟩, by simp [intOf]; omega⟩
    · obtain rfl : k = 21 + r := by omega
      have HB := Lib.hid hb
      clear hb
      obtain ⟨q1, q2⟩ := pl_s r hr6
      have q3 := pl_b r hr6
      have d1 := Lib.hid (parse_walk s _ hs.out wr (HD.out.below HB.out) (by omega))
      have hsb : (⟨#[33]⟩ ++ s).size ≤ 201 := by rw [ByteArray.size_append]; have : (⟨#[33]⟩ : ByteArray).size = 1 := rfl; omega
      have d2 := Lib.hid (parse_walk (⟨#[33]⟩ ++ s) _ (cat_l (s := ⟨#[33]⟩) (a := [33]) rfl hs.out) wr (HD.out.below HB.out) (by omega))
      by_cases hr3 : r ≤ 3
      · rw [if_pos hr3] at q1 q3
        have hi2 : decide ((24 : Int) < 21 + (r : Int)) = false := by simp; omega
        have hi3 : decide (21 + (r : Int) ≤ 24) = true := by simp; omega
        have q4 := q2 hr3
        have hni : ((21 + r : Nat) : Int) = 21 + (r : Int) := by omega
        have Q1 := Lib.hid q1
        have Q3 := Lib.hid q3
        have Q4 := Lib.hid q4
        clear q1 q2 q3 q4
        cases bad
        · go_wp2_with fail
          refine d1.out.mono ?_
          rintro _ w2 ⟨v, rfl, hown, hbn⟩
          have HB2 := Lib.hid (below_next HB.out hbn)
          rw [Q4.out] at hown
          obtain ⟨A2, c2, rfl, _⟩ := (own_reads hown (Nat.le_refl _))
          rw [Q1.out]
          clear hbn hown d1 d2
          go_wp2_with fail
          go_ret
          exact ⟨by simp, HB2.out⟩
        · go_wp2_with fail
          refine d2.out.mono ?_
          rintro _ w2 ⟨v, rfl, _, hbn⟩
          have HB2 := Lib.hid (below_next HB.out hbn)
          rw [Q3.out]
          clear hbn d1 d2
          go_wp2_with fail
          go_ret
          exact ⟨rfl, HB2.out⟩
      · rw [if_neg hr3] at q1 q3
        have hi2 : decide ((24 : Int) < 21 + (r : Int)) = true := by simp; omega
        have hi3 : decide (21 + (r : Int) ≤ 24) = false := by simp; omega
        have Q1 := Lib.hid q1
        have Q3 := Lib.hid q3
        clear q1 q2 q3
        cases bad
        · go_wp2_with fail
          refine d1.out.mono ?_
          rintro _ w2 ⟨v, rfl, _, hbn⟩
          have HB2 := Lib.hid (below_next HB.out hbn)
          rw [Q1.out]
          clear hbn d1 d2
          go_wp2_with fail
          go_ret
          exact ⟨rfl, HB2.out⟩
        · go_wp2_with fail
          refine d2.out.mono ?_
          rintro _ w2 ⟨v, rfl, _, hbn⟩
          have HB2 := Lib.hid (below_next HB.out hbn)
          rw [Q3.out]
          clear hbn d1 d2
          go_wp2_with fail
          go_ret
          exact ⟨rfl, HB2.out⟩
end Go.Proofs.YtkdhnfifhaepaaaDoor

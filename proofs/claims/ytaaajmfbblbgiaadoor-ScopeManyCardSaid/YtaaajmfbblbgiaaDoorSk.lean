/- ScopeMany. No condition of its own. -/
import Derived.Test.YtaaajmfbblbgiaaDoorSi
set_option linter.unusedVariables false
set_option linter.unusedSimpArgs false
set_option maxRecDepth 20000
namespace Go.Proofs.YtaaajmfbblbgiaaDoor
open Go.RowKit
def sL : Nat → List UInt8
  | 0 => []
  | k + 1 => sL k ++ ((if 0 < k then [32] else []) ++ [UInt8.ofNat (97 + k)])
def wL (j : Nat) : List UInt8 := List.replicate j 119
theorem pl_s (r : Nat) (h : r < 6) : scopeE (splitC 32 (sL (5 + r))) = if r ≤ 3 then 0 else 7 := by
  obtain rfl | rfl | rfl | rfl | rfl | rfl : r = 0 ∨ r = 1 ∨ r = 2 ∨ r = 3 ∨ r = 4 ∨ r = 5 := by omega
  all_goals decide +kernel
theorem pl_sa (r : Nat) (h : r < 6) : scopeE (splitC 32 (sL (5 + r) ++ [32, 97])) = if r ≤ 2 then 6 else 7 := by
  obtain rfl | rfl | rfl | rfl | rfl | rfl : r = 0 ∨ r = 1 ∨ r = 2 ∨ r = 3 ∨ r = 4 ∨ r = 5 := by omega
  all_goals decide +kernel
theorem pl_bs (r : Nat) (h : r < 6) : scopeE (splitC 32 ([33] ++ sL (5 + r))) = if r ≤ 3 then 3 else 7 := by
  obtain rfl | rfl | rfl | rfl | rfl | rfl : r = 0 ∨ r = 1 ∨ r = 2 ∨ r = 3 ∨ r = 4 ∨ r = 5 := by omega
  all_goals decide +kernel
theorem pl_w (q : Nat) (h : q < 4) : scopeE (splitC 32 (wL (126 + q))) = if q ≤ 2 then 0 else 3 := by
  obtain rfl | rfl | rfl | rfl : q = 0 ∨ q = 1 ∨ q = 2 ∨ q = 3 := by omega
  all_goals decide +kernel
theorem cat_l {s t : ByteArray} {a b : List UInt8} (hs : s.data.toList = a) (ht : t.data.toList = b) : (s ++ t).data.toList = a ++ b := by
  rw [← hs, ← ht]; simp
theorem sL_len : ∀ k, (sL k).length ≤ 2 * k
  | 0 => by simp [sL]
  | k + 1 => by have := sL_len k; simp [sL]; split <;> simp <;> omega
def CodeR (n : Nat) (w : World) (e : Ending) (w' : World) : Prop := ∃ v : Value, e = .returned (.tuple #[v, .int .i64 (n : Int)]) ∧ Below w.heap.size w w'
theorem code_walk (s : ByteArray) (l : List UInt8) (hs : s.data.toList = l) (n : Nat) (hn : scopeE (splitC 32 l) = n) (w : World) (hm : s.size ≤ 1000000) :
    Calls Tryd.prog 8 #[.string s] w (CodeR n w) := by
  refine (parse_walk s l hs w hm).mono ?_
  rintro e w' ⟨hb, ⟨h0, g, c, he, _⟩ | ⟨_, he⟩⟩
  · exact ⟨_, by rw [he, ← hn, h0]; rfl, hb⟩
  · exact ⟨_, by rw [he, hn], hb⟩
theorem size_of {s : ByteArray} {l : List UInt8} (h : s.data.toList = l) : s.size = l.length := by rw [← h, Lib.size_eq]
set_option maxHeartbeats 16000000 in
set_option maxRecDepth 100000 in
theorem scopeMany_law (z1 z2 : Int) (w : World) (h1 : -9223372036854775808 ≤ z1 ∧ z1 ≤ 9223372036854775807) (h2 : -9223372036854775808 ≤ z2 ∧ z2 ≤ 9223372036854775807) :
    Calls Tryd.prog 5 #[.int .i64 z1, .int .i64 z2] w fun e w' => e = .returned (.bool true) ∧ Below w.heap.size w w' := by
  have c1 := Lib.hid (fun w => within16_walk z1 6 w (by decide) (by decide) h1)
  have c2 := Lib.hid (fun w => within16_walk z2 4 w (by decide) (by decide) h2)
  obtain ⟨r, hr⟩ : ∃ r : Nat, z1 % 6 = r := ⟨(z1 % 6).toNat, by omega⟩
  obtain ⟨q, hq⟩ : ∃ q : Nat, z2 % 4 = q := ⟨(z2 % 4).toNat, by omega⟩
  have hr6 : r < 6 := by omega
  have hq4 : q < 4 := by omega
  rw [hr] at c1
  rw [hq] at c2
  clear hr hq h1 h2
  go_enter Tryd.func5, Tryd.ntmps5
  go_wp2_with fail
  refine (known_walk w).mono ?_
  rintro _ w1 ⟨rfl, hb⟩
  go_wp2_with fail
  refine (c1.out _).mono ?_
  rintro _ w1 ⟨rfl, rfl⟩
  go_wp2_with fail
  refine (c2.out _).mono ?_
  rintro _ w1 ⟨rfl, rfl⟩
  go_wp2_with fail
  go_loopw [7, 9] (fun sv iv wr => ∃ (k : Nat) (s : ByteArray), k ≤ 5 + r ∧ iv = .int .i64 k ∧ sv = .string s ∧ Hid (s.data.toList = sL k) ∧ Below w.heap.size w wr) (fun _ iv _ => 5 + r - (intOf iv).toNat)
  case atStart => exact ⟨0, ⟨#[]⟩, by omega, rfl, rfl, rfl, hb⟩
  case round =>
    clear hb
    obtain ⟨k, s, hk, rfl, rfl, hs, hb⟩ := hrel
    by_cases hlt : k < 5 + r
    · have hu : Hid ((UInt8.ofNat (97 + k)).toNat = 97 + k) := by show _ = _; rw [UInt8.toNat_ofNat']; omega
      have hcv : ∀ W : World, (convert 38 9 (.slice (some ⟨W.heap.size, 0, none⟩) 1 1)).run Tryd.prog (W.alloc (.cells #[.int .u8 (97 + (k : Int))] 5)) = .ok (.string ⟨#[UInt8.ofNat (97 + k)]⟩) (W.alloc (.cells #[.int .u8 (97 + (k : Int))] 5)) := fun W => by
        have hrow := reads_row W 5 (Lib.byteCells [UInt8.ofNat (97 + k)])
        have hbc : Lib.byteCells [UInt8.ofNat (97 + k)] = [.int .u8 (97 + (k : Int))] := by simp only [Lib.byteCells, List.map_cons, List.map_nil, hu.out]; simp
        rw [hbc] at hrow
        exact reads_str (l := [UInt8.ofNat (97 + k)]) (by rw [hbc]; exact hrow) 38 9 5 Tryd.underlying38 Tryd.underlying5 Tryd.underlying9
      have hw8 : IntKind.u8.wrap (97 + (k : Int)) = 97 + (k : Int) := by
        unfold IntKind.wrap; simp [IntKind.bits, IntKind.signed]; omega
      have hsz : s.size ≤ 20 := by rw [size_of hs.out]; have := sL_len k; omega
      have hbn := Lib.hid (hb.alloc hb.size (.cells #[.int .u8 (97 + (k : Int))] 5))
      by_cases h0 : 0 < k
      · have hn : Hid ((s ++ ⟨#[32]⟩ ++ ⟨#[UInt8.ofNat (97 + k)]⟩).data.toList = sL (k + 1)) := by
          show _ = _
          rw [sL, if_pos h0, cat_l (cat_l hs.out rfl) rfl, List.append_assoc]
        obtain ⟨bt, hbt⟩ : ∃ bt, UInt8.ofNat (97 + k) = bt := ⟨_, rfl⟩
        rw [hbt] at hcv hn
        clear hbt hu
        go_wp2_with fail
        exact ⟨⟨k + 1, _, by omega, by go_num, rfl, hn, hbn.out⟩, by simp [intOf]; omega⟩
      · have hn : Hid ((s ++ ⟨#[UInt8.ofNat (97 + k)]⟩).data.toList = sL (k + 1)) := by
          show _ = _
          rw [sL, if_neg h0, cat_l hs.out rfl, List.nil_append]
        obtain ⟨bt, hbt⟩ : ∃ bt, UInt8.ofNat (97 + k) = bt := ⟨_, rfl⟩
        rw [hbt] at hcv hn
        clear hbt hu
        go_wp2_with fail
        exact ⟨⟨k + 1, _, by omega, by go_num, rfl, hn, hbn.out⟩, by simp [intOf]; omega⟩
    · obtain rfl : k = 5 + r := by omega
      have hsz : s.size ≤ 20 := by rw [size_of hs.out]; have := sL_len (5 + r); omega
      have HB := Lib.hid hb
      clear hb
      go_wp2_with fail
      go_loopw [8, 10] (fun sv iv wr => ∃ (k : Nat) (t : ByteArray), k ≤ 126 + q ∧ iv = .int .i64 k ∧ sv = .string t ∧ Hid (t.data.toList = wL k) ∧ Hid (Below w.heap.size w wr)) (fun _ iv _ => 126 + q - (intOf iv).toNat)
      case atStart => exact ⟨0, ⟨#[]⟩, by omega, rfl, rfl, rfl, HB⟩
      case round =>
        clear HB
        obtain ⟨k, t, hk, rfl, rfl, ht, HB⟩ := hrel
        have htz : t.size ≤ 129 := by rw [size_of ht.out]; unfold wL; rw [List.length_replicate]; omega
        by_cases hlt : k < 126 + q
        · have hn : Hid ((t ++ ⟨#[119]⟩).data.toList = wL (k + 1)) := by
            show _ = _
            rw [cat_l ht.out rfl, wL, wL, List.replicate_succ']
          go_wp2_with fail
          exact ⟨⟨k + 1, _, by omega, by go_num, rfl, hn, HB⟩, by simp [intOf]; omega⟩
        · obtain rfl : k = 126 + q := by omega
          have d1 := Lib.hid (fun w => code_walk s _ hs.out _ (pl_s r hr6) w (by omega))
          have d2 := Lib.hid (fun w => code_walk t _ ht.out _ (pl_w q hq4) w (by omega))
          have d3 := Lib.hid (fun w => code_walk (s ++ ⟨#[32, 97]⟩) _ (cat_l hs.out rfl) _ (pl_sa r hr6) w (by rw [size_of (cat_l (t := ⟨#[32, 97]⟩) (b := [32, 97]) hs.out rfl), List.length_append]; have := sL_len (5 + r); simp only [List.length_cons, List.length_nil]; omega))
          have d4 := Lib.hid (fun w => code_walk (⟨#[33]⟩ ++ s) _ (cat_l (s := ⟨#[33]⟩) rfl hs.out) _ (pl_bs r hr6) w (by rw [size_of (cat_l (s := ⟨#[33]⟩) (a := [33]) rfl hs.out), List.length_append]; have := sL_len (5 + r); simp only [List.length_cons, List.length_nil]; omega))
          obtain hr | hr | hr : r ≤ 2 ∨ r = 3 ∨ 4 ≤ r := by omega
          · by_cases hq : q ≤ 2
            · have hi1 : decide ((8 : Int) < 5 + (r : Int) + 1) = false := by simp; omega
              have hi2 : decide ((8 : Int) < 5 + (r : Int)) = false := by simp; omega
              have hi3 : decide (5 + (r : Int) ≤ 8) = true := by simp; omega
              have hi4 : decide (126 + (q : Int) ≤ 128) = true := by simp; omega
              rw [if_pos (by omega)] at d1
              rw [if_pos (by omega)] at d2
              rw [if_pos (by omega)] at d3
              rw [if_pos (by omega)] at d4
              go_wp2_with fail
              refine (d1.out _).mono ?_
              rintro _ w2 ⟨v1, rfl, hbn⟩
              replace HB := Lib.hid (below_next HB.out hbn)
              clear hbn
              go_wp2_with fail
              refine (d2.out _).mono ?_
              rintro _ w3 ⟨v2, rfl, hbn⟩
              replace HB := Lib.hid (below_next HB.out hbn)
              clear hbn
              go_wp2_with fail
              refine (d3.out _).mono ?_
              rintro _ w4 ⟨v3, rfl, hbn⟩
              replace HB := Lib.hid (below_next HB.out hbn)
              clear hbn
              go_wp2_with fail
              refine (d4.out _).mono ?_
              rintro _ w5 ⟨v4, rfl, hbn⟩
              replace HB := Lib.hid (below_next HB.out hbn)
              clear hbn
              go_wp2_with fail
              go_ret
              exact ⟨rfl, HB.out⟩
            · have hi1 : decide ((8 : Int) < 5 + (r : Int) + 1) = false := by simp; omega
              have hi2 : decide ((8 : Int) < 5 + (r : Int)) = false := by simp; omega
              have hi3 : decide (5 + (r : Int) ≤ 8) = true := by simp; omega
              have hi4 : decide (126 + (q : Int) ≤ 128) = false := by simp; omega
              rw [if_pos (by omega)] at d1
              rw [if_neg (by omega)] at d2
              rw [if_pos (by omega)] at d3
              rw [if_pos (by omega)] at d4
              go_wp2_with fail
              refine (d1.out _).mono ?_
              rintro _ w2 ⟨v1, rfl, hbn⟩
              replace HB := Lib.hid (below_next HB.out hbn)
              clear hbn
              go_wp2_with fail
              refine (d2.out _).mono ?_
              rintro _ w3 ⟨v2, rfl, hbn⟩
              replace HB := Lib.hid (below_next HB.out hbn)
              clear hbn
              go_wp2_with fail
              refine (d3.out _).mono ?_
              rintro _ w4 ⟨v3, rfl, hbn⟩
              replace HB := Lib.hid (below_next HB.out hbn)
              clear hbn
              go_wp2_with fail
              refine (d4.out _).mono ?_
              rintro _ w5 ⟨v4, rfl, hbn⟩
              replace HB := Lib.hid (below_next HB.out hbn)
              clear hbn
              go_wp2_with fail
              go_ret
              exact ⟨rfl, HB.out⟩
          · by_cases hq : q ≤ 2
            · have hi1 : decide ((8 : Int) < 5 + (r : Int) + 1) = true := by simp; omega
              have hi2 : decide ((8 : Int) < 5 + (r : Int)) = false := by simp; omega
              have hi3 : decide (5 + (r : Int) ≤ 8) = true := by simp; omega
              have hi4 : decide (126 + (q : Int) ≤ 128) = true := by simp; omega
              rw [if_pos (by omega)] at d1
              rw [if_pos (by omega)] at d2
              rw [if_neg (by omega)] at d3
              rw [if_pos (by omega)] at d4
              go_wp2_with fail
              refine (d1.out _).mono ?_
              rintro _ w2 ⟨v1, rfl, hbn⟩
              replace HB := Lib.hid (below_next HB.out hbn)
              clear hbn
              go_wp2_with fail
              refine (d2.out _).mono ?_
              rintro _ w3 ⟨v2, rfl, hbn⟩
              replace HB := Lib.hid (below_next HB.out hbn)
              clear hbn
              go_wp2_with fail
              refine (d3.out _).mono ?_
              rintro _ w4 ⟨v3, rfl, hbn⟩
              replace HB := Lib.hid (below_next HB.out hbn)
              clear hbn
              go_wp2_with fail
              refine (d4.out _).mono ?_
              rintro _ w5 ⟨v4, rfl, hbn⟩
              replace HB := Lib.hid (below_next HB.out hbn)
              clear hbn
              go_wp2_with fail
              go_ret
              exact ⟨rfl, HB.out⟩
            · have hi1 : decide ((8 : Int) < 5 + (r : Int) + 1) = true := by simp; omega
              have hi2 : decide ((8 : Int) < 5 + (r : Int)) = false := by simp; omega
              have hi3 : decide (5 + (r : Int) ≤ 8) = true := by simp; omega
              have hi4 : decide (126 + (q : Int) ≤ 128) = false := by simp; omega
              rw [if_pos (by omega)] at d1
              rw [if_neg (by omega)] at d2
              rw [if_neg (by omega)] at d3
              rw [if_pos (by omega)] at d4
              go_wp2_with fail
              refine (d1.out _).mono ?_
              rintro _ w2 ⟨v1, rfl, hbn⟩
              replace HB := Lib.hid (below_next HB.out hbn)
              clear hbn
              go_wp2_with fail
              refine (d2.out _).mono ?_
              rintro _ w3 ⟨v2, rfl, hbn⟩
              replace HB := Lib.hid (below_next HB.out hbn)
              clear hbn
              go_wp2_with fail
              refine (d3.out _).mono ?_
              rintro _ w4 ⟨v3, rfl, hbn⟩
              replace HB := Lib.hid (below_next HB.out hbn)
              clear hbn
              go_wp2_with fail
              refine (d4.out _).mono ?_
              rintro _ w5 ⟨v4, rfl, hbn⟩
              replace HB := Lib.hid (below_next HB.out hbn)
              clear hbn
              go_wp2_with fail
              go_ret
              exact ⟨rfl, HB.out⟩
          · by_cases hq : q ≤ 2
            · have hi1 : decide ((8 : Int) < 5 + (r : Int) + 1) = true := by simp; omega
              have hi2 : decide ((8 : Int) < 5 + (r : Int)) = true := by simp; omega
              have hi3 : decide (5 + (r : Int) ≤ 8) = false := by simp; omega
              have hi4 : decide (126 + (q : Int) ≤ 128) = true := by simp; omega
              rw [if_neg (by omega)] at d1
              rw [if_pos (by omega)] at d2
              rw [if_neg (by omega)] at d3
              rw [if_neg (by omega)] at d4
              go_wp2_with fail
              refine (d1.out _).mono ?_
              rintro _ w2 ⟨v1, rfl, hbn⟩
              replace HB := Lib.hid (below_next HB.out hbn)
              clear hbn
              go_wp2_with fail
              refine (d2.out _).mono ?_
              rintro _ w3 ⟨v2, rfl, hbn⟩
              replace HB := Lib.hid (below_next HB.out hbn)
              clear hbn
              go_wp2_with fail
              refine (d3.out _).mono ?_
              rintro _ w4 ⟨v3, rfl, hbn⟩
              replace HB := Lib.hid (below_next HB.out hbn)
              clear hbn
              go_wp2_with fail
              refine (d4.out _).mono ?_
              rintro _ w5 ⟨v4, rfl, hbn⟩
              replace HB := Lib.hid (below_next HB.out hbn)
              clear hbn
              go_wp2_with fail
              go_ret
              exact ⟨rfl, HB.out⟩
            · have hi1 : decide ((8 : Int) < 5 + (r : Int) + 1) = true := by simp; omega
              have hi2 : decide ((8 : Int) < 5 + (r : Int)) = true := by simp; omega
              have hi3 : decide (5 + (r : Int) ≤ 8) = false := by simp; omega
              have hi4 : decide (126 + (q : Int) ≤ 128) = false := by simp; omega
              rw [if_neg (by omega)] at d1
              rw [if_neg (by omega)] at d2
              rw [if_neg (by omega)] at d3
              rw [if_neg (by omega)] at d4
              go_wp2_with fail
              refine (d1.out _).mono ?_
              rintro _ w2 ⟨v1, rfl, hbn⟩
              replace HB := Lib.hid (below_next HB.out hbn)
              clear hbn
              go_wp2_with fail
              refine (d2.out _).mono ?_
              rintro _ w3 ⟨v2, rfl, hbn⟩
              replace HB := Lib.hid (below_next HB.out hbn)
              clear hbn
              go_wp2_with fail
              refine (d3.out _).mono ?_
              rintro _ w4 ⟨v3, rfl, hbn⟩
              replace HB := Lib.hid (below_next HB.out hbn)
              clear hbn
              go_wp2_with fail
              refine (d4.out _).mono ?_
              rintro _ w5 ⟨v4, rfl, hbn⟩
              replace HB := Lib.hid (below_next HB.out hbn)
              clear hbn
              go_wp2_with fail
              go_ret
              exact ⟨rfl, HB.out⟩
end Go.Proofs.YtaaajmfbblbgiaaDoor

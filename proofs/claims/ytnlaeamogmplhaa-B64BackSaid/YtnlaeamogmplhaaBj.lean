import Derived.Test.YtnlaeamogmplhaaBi
set_option linter.unusedVariables false
namespace Go.Proofs.Ytnlaeamogmplhaa
open Go.RowKit B64
set_option maxHeartbeats 2000000 in
theorem back_walk (A : Option Addr) (m c : Nat) (a : List UInt8) (A2 : Option Addr) (m2 c2 : Nat) (b : List UInt8) (w : World) (ha : Reads w w.heap.size 1 A m (Lib.byteCells a)) (hc : m ≤ c) (hb : Reads w w.heap.size 1 A2 m2 (Lib.byteCells b)) (hc2 : m2 ≤ c2) :
    Calls Try.prog 4 #[.slice A m c, .slice A2 m2 c2] w fun e w' => e = .returned (.bool true) ∧ Below w.heap.size w w' := by
  obtain ⟨i0, hi, hz0, hz1, hz2⟩ := info_parts info5
  have hla := ha.get
  have hlb := hb.get
  by_cases h1 : 300 < m
  · go_enter Try.func4, Try.ntmps4
    go_wp2_with fail
    refine (known_walk w).mono ?_
    rintro e w1 ⟨rfl, hb1⟩
    go_wp2_with fail
    go_ret
    exact ⟨rfl, hb1⟩
  · by_cases h2 : 300 < m2
    · go_enter Try.func4, Try.ntmps4
      go_wp2_with fail
      refine (known_walk w).mono ?_
      rintro e w1 ⟨rfl, hb1⟩
      go_wp2_with fail
      go_ret
      exact ⟨rfl, hb1⟩
    · go_enter Try.func4, Try.ntmps4
      go_wp2_with fail
      refine (known_walk w).mono ?_
      rintro e w1 ⟨rfl, hb1⟩
      have hle := enc_le a
      go_wp2_with fail
      refine (enc_walk A m c a w1 ((ha.below hb1).more hb1.size) (by omega) hc).mono ?_
      rintro e w2 ⟨rfl, hb2⟩
      have hbl2 := hb1.trans (hb2.mono hb1.size)
      go_wp2_with fail
      refine (dec_some ⟨(enc a).toArray⟩ w2 (by simp [ByteArray.size]; omega) a (dec_enc a)).mono ?_
      rintro e w3 ⟨A3, c3, rfl, hr3, hc3, hb3⟩
      have hbl3 := hbl2.trans (hb3.mono hbl2.size)
      rw [hla] at hr3 hc3
      have hlen : (((enc a).length : Int) == ((m : Int) * 8 + 5) / 6) = true := by
        rw [enc_length, hla, beq_iff_eq]; omega
      have hcv1 : ∀ w', Below w3.heap.size w3 w' → (convert 22 9 (.slice A3 m c3)).run Try.prog w' = .ok (.string ⟨a.toArray⟩) w' := fun w' h => reads_str (hr3.below h) 22 9 5 Try.underlying22 Try.underlying5 Try.underlying9
      have hcv2 : ∀ w', Below w3.heap.size w3 w' → (convert 22 9 (.slice A m c)).run Try.prog w' = .ok (.string ⟨a.toArray⟩) w' := fun w' h => reads_str (ha.below (hbl3.trans (h.mono hbl3.size))) 22 9 5 Try.underlying22 Try.underlying5 Try.underlying9
      have haa : (a == a) = true := beq_self_eq_true a
      go_wp2_with fail
      obtain ⟨n, hn, hn0, hnm⟩ : ∃ n : Nat, ((m : Int) / 3 * 3 = (n : Int)) ∧ Hid (n = m / 3 * 3) ∧ n ≤ m := ⟨m / 3 * 3, by omega, rfl, by omega⟩
      rw [hn]
      have hw1 : IntKind.i64.wrap ((m : Int) * 8) = (m : Int) * 8 := by rw [IntKind.wrap_i64]; omega
      have hw2 : IntKind.i64.wrap ((m : Int) * 8 + 5) = (m : Int) * 8 + 5 := by rw [IntKind.wrap_i64]; omega
      have hw3 : IntKind.i64.wrap (((m : Int) * 8 + 5).tdiv 6) = ((m : Int) * 8 + 5) / 6 := by
        rw [Int.tdiv_eq_ediv_of_nonneg (by omega), IntKind.wrap_i64]; omega
      have hn1 : (0 : Int) ≤ (n : Int) := by omega
      have hn2 : (n : Int) ≤ (c : Int) := by omega
      have hl1 := enc_le (a.take n)
      have hl2 := enc_le b
      have hl3 : (a.take n).length = n := by rw [List.length_take]; omega
      have hadd := fun w => run_string_add_lists (P := Try.prog) w (enc (a.take n)) (enc b) (by omega) (by omega)
      have hfin : (enc (a.take n ++ b) == enc (a.take n) ++ enc b) = true := by
        rw [enc_append _ _ (by have := hn0.out; omega)]; exact beq_self_eq_true _
      go_region_held3 (fun w' => Below w3.heap.size w3 w')
        (first | exact (Below.refl _ _).drew | exact ((Below.refl _ _).alloc (Nat.le_refl _) _).drew | exact hbx1 | exact hbx2 | exact hbx3 | exact hbx4 | exact hbx5)
        (first
          | (go_at_call_of 10 A5; refine (enc_walk A5 (n + m2) c5 (a.take n ++ b) w5 (Reads.of_own hown5) (by omega) hc5).mono ?_; rintro e w6 ⟨rfl, hb6⟩; have hbx3 := hbx2.trans (hb6.mono hbx2.size))
          | (go_at_call_of 10 (Value.slice A n c); refine (enc_walk A n c (a.take n) w6 (((ha.frontB hnm).below (hbl3.trans (hbx3.mono hbl3.size))).more (Nat.le_trans hbl3.size hbx3.size)) (by omega) (by omega)).mono ?_; rintro e w7 ⟨rfl, hb7⟩; have hbx4 := hbx3.trans (hb7.mono hbx3.size))
          | (go_at_call_of 10 (Value.slice A2 m2 c2); refine (enc_walk A2 m2 c2 b w7 ((hb.below (hbl3.trans (hbx4.mono hbl3.size))).more (Nat.le_trans hbl3.size hbx4.size)) (by omega) (by omega)).mono ?_; rintro e w8 ⟨rfl, hb8⟩; have hbx5 := hbx4.trans (hb8.mono hbx4.size))
          | (refine step_append_sl _ rfl (.tmp 50) (.tmp 53) 22 rfl w3.heap.size 5 i0 (.int .u8 0) 1 1 Try.underlying22 hi hz0 hz1 hz2 rfl (by decide) _ 0 [] rfl (own_empty w3 5).drew w.heap.size A n c (Lib.byteCells (a.take n)) rfl (((ha.frontB hnm).below hbl3).alloc (Nat.le_trans hbl3.size (Nat.le_refl _)) _).drew (Lib.byteCells_one _) (by unfold maxLen; omega) (by omega) (by simp) n (Nat.zero_add n) (Lib.byteCells (a.take n)) (List.nil_append _) ?_; intro A4 c4 w4 hc4 hown4 hg4; have hbx1 := grown_below ((Below.refl w3.heap.size w3).alloc (Nat.le_refl _) (.cells #[] 5)).drew (own_empty w3 5).drew hg4 (by simp))
          | (refine step_append_sl _ rfl (.tmp 54) (.tmp 55) 22 rfl w3.heap.size 5 i0 (.int .u8 0) 1 1 Try.underlying22 hi hz0 hz1 hz2 rfl (by decide) (.slice A4 n c4) n (Lib.byteCells (a.take n)) rfl hown4 w.heap.size A2 m2 c2 (Lib.byteCells b) rfl (hb.below (hbl3.trans (hbx1.mono hbl3.size))) (Lib.byteCells_one _) (by unfold maxLen; omega) (by omega) hbx1.size (n + m2) rfl (Lib.byteCells (a.take n ++ b)) (Lib.byteCells_append _ _).symm ?_; intro A5 c5 w5 hc5 hown5 hg5; have hbx2 := grown_below hbx1 hown4 hg5 hbx1.size))
      go_wp2_with fail
      go_ret
      exact ⟨rfl, hbl3.trans (hbx5.mono hbl3.size)⟩
end Go.Proofs.Ytnlaeamogmplhaa

/- countersignref6.Digits. Condition: a number of at most 53 bits. -/
import Derived.Test.YtieppmppdmcleaaGreatDoorJs
import Derived.Test.YtieppmppdmcleaaGreatDoorA4
set_option linter.unusedVariables false
set_option linter.unusedSimpArgs false
set_option maxRecDepth 20000
namespace Go.Proofs.YtieppmppdmcleaaGreatDoor
open Go.RowKit
theorem dec_step (n : Nat) (h : ¬ n < 10) : Lib.decDigits n = Lib.decDigits (n / 10) ++ [UInt8.ofNat (48 + n % 10)] := by rw [Lib.decDigits, dif_neg h]
theorem dec_le : ∀ n : Nat, n ≤ 9007199254740992 → (Lib.decDigits n).length ≤ 21 := by
  intro n h
  have := Lib.itoa_length_le (n : Int) (by omega) (by omega)
  rw [Lib.itoa, if_neg (by omega)] at this
  simpa using this
theorem one_cell (w : World) (c : Nat) (hc : c < 256) (cp : Nat) : (convert 31 9 (.slice (some ⟨w.heap.size, 0, none⟩) 1 cp)).run Tryz.prog (w.alloc (.cells #[.int .u8 (c : Int)] 5)) = .ok (.string ⟨[UInt8.ofNat c].toArray⟩) (w.alloc (.cells #[.int .u8 (c : Int)] 5)) := by
  have hrd : Reads (w.alloc (.cells #[.int .u8 (c : Int)] 5)) (w.heap.size + 1) 1 (some ⟨w.heap.size, 0, none⟩) 1 (Lib.byteCells [UInt8.ofNat c]) := by
    have e : Lib.byteCells [UInt8.ofNat c] = [.int .u8 (c : Int)] := by simp [Lib.byteCells]; omega
    rw [e]
    exact reads_row w 5 [.int .u8 (c : Int)]
  exact reads_str (P := Tryz.prog) hrd 31 9 5 Tryz.underlying31 Tryz.underlying5 Tryz.underlying9
theorem one_later {w w1 : World} (c : Nat) (hc : c < 256) (cp : Nat) (hb : Below (w.heap.size + 1) (w.alloc (.cells #[.int .u8 (c : Int)] 5)) w1) : (convert 31 9 (.slice (some ⟨w.heap.size, 0, none⟩) 1 cp)).run Tryz.prog w1 = .ok (.string ⟨[UInt8.ofNat c].toArray⟩) w1 := by
  have hrd : Reads (w.alloc (.cells #[.int .u8 (c : Int)] 5)) (w.heap.size + 1) 1 (some ⟨w.heap.size, 0, none⟩) 1 (Lib.byteCells [UInt8.ofNat c]) := by
    have e : Lib.byteCells [UInt8.ofNat c] = [.int .u8 (c : Int)] := by simp [Lib.byteCells]; omega
    rw [e]
    exact reads_row w 5 [.int .u8 (c : Int)]
  exact reads_str (P := Tryz.prog) (hrd.keep (w' := w1) (fun p hp => hb.cell hp)) 31 9 5 Tryz.underlying31 Tryz.underlying5 Tryz.underlying9
set_option maxHeartbeats 4000000 in
theorem decs_walk (n : Nat) : n ≤ 9007199254740992 → ∀ w : World, Calls Tryz.prog 62 #[.int .i64 (n : Int)] w fun e w' => e = .returned (.string ⟨(Lib.decDigits n).toArray⟩) ∧ Below w.heap.size w w' := by
  induction n using Nat.strongRecOn with
  | ind n ih =>
    intro hn w
    by_cases h10 : n < 10
    · obtain ⟨c, hc⟩ : ∃ c, 48 + n = c := ⟨_, rfl⟩
      have hv := Lib.decDigits_one h10
      rw [hc] at hv
      have HV := Lib.hid hv
      have e1 : (48 : Int) + (n : Int) = (c : Int) := by omega
      have e2 : IntKind.u8.wrap (c : Int) = (c : Int) := by rw [wrap_u8]; omega
      have e3 : IntKind.i64.wrap (c : Int) = (c : Int) := by rw [IntKind.wrap_i64]; omega
      have d1 : decide ((n : Int) < 0) = false := by simp
      have d2 : decide ((n : Int) < 10) = true := by simp; omega
      have hst := one_cell w c (by omega)
      clear hv hc ih
      go_enter Tryz.func62, Tryz.ntmps62
      go_wp2_with fail
      go_ret
      exact ⟨by rw [HV.out]; rfl, (Below.refl _ _).alloc (Nat.le_refl _) _⟩
    · obtain ⟨q, hq⟩ : ∃ q, n / 10 = q := ⟨_, rfl⟩
      obtain ⟨r, hr⟩ : ∃ r, n % 10 = r := ⟨_, rfl⟩
      obtain ⟨c, hc⟩ : ∃ c, 48 + r = c := ⟨_, rfl⟩
      have hv := dec_step n h10
      rw [hq, hr, hc] at hv
      have HV := Lib.hid hv
      have cp := Lib.hid (ih q (by omega) (by omega))
      obtain ⟨z, hz, hzl⟩ := mk_name (Lib.decDigits q) (dec_le q (by omega))
      simp only [hz] at cp
      have HCP := cp
      have HZ := Lib.hid hz
      have e0 : (n : Int) / 10 = (q : Int) := by omega
      have e0' : (n : Int) % 10 = (r : Int) := by omega
      have e0'' : (n : Int).tdiv 10 = (q : Int) := by rw [Int.tdiv_eq_ediv_of_nonneg (by omega)]; omega
      have e0''' : (n : Int).tmod 10 = (r : Int) := by rw [Int.tmod_eq_emod_of_nonneg (by omega)]; omega
      have e1 : (48 : Int) + (r : Int) = (c : Int) := by omega
      have e2 : IntKind.u8.wrap (c : Int) = (c : Int) := by rw [wrap_u8]; omega
      have e3 : IntKind.i64.wrap (c : Int) = (c : Int) := by rw [IntKind.wrap_i64]; omega
      have e4 : IntKind.i64.wrap (q : Int) = (q : Int) := by rw [IntKind.wrap_i64]; omega
      have d1 : decide ((n : Int) < 0) = false := by simp
      have d2 : decide ((n : Int) < 10) = false := by simp; omega
      have hc256 : c < 256 := by omega
      clear hv hc ih hq hr hz cp
      go_enter Tryz.func62, Tryz.ntmps62
      go_wp2_with fail
      refine wp_region_held_drew (S := fun W => True) (by kernel_rfl) trivial (fun hHeld => ?_)
      first | (refine tk 0 rfl (Or.inr ⟨?_, rfl⟩) ?_; rfl) | (refine tk 0 rfl (v := ?_) (Or.inl ⟨?_, ?_⟩) ?_; rotate_left; rfl; focus (intro w hSw; (try dsimp only at hSw); go_simp; all_goals (with_reducible rfl)))
      (try simp only [nrm, Act.put])
      first | (refine tk 1 rfl (Or.inr ⟨?_, rfl⟩) ?_; rfl) | (refine tk 1 rfl (v := ?_) (Or.inl ⟨?_, ?_⟩) ?_; rotate_left; rfl; focus (intro w hSw; (try dsimp only at hSw); go_simp; all_goals (with_reducible rfl)))
      (try simp only [nrm, Act.put])
      first | (refine tk 3 rfl (Or.inr ⟨?_, rfl⟩) ?_; rfl) | (refine tk 3 rfl (v := ?_) (Or.inl ⟨?_, ?_⟩) ?_; rotate_left; rfl; focus (intro w hSw; (try dsimp only at hSw); go_simp; all_goals (with_reducible rfl)))
      (try simp only [nrm, Act.put])
      first | (refine tk 4 rfl (Or.inr ⟨?_, rfl⟩) ?_; rfl) | (refine tk 4 rfl (v := ?_) (Or.inl ⟨?_, ?_⟩) ?_; rotate_left; rfl; focus (intro w hSw; (try dsimp only at hSw); go_simp; all_goals (with_reducible rfl)))
      (try simp only [nrm, Act.put])
      first | (refine tk 5 rfl (Or.inr ⟨?_, rfl⟩) ?_; rfl) | (refine tk 5 rfl (v := ?_) (Or.inl ⟨?_, ?_⟩) ?_; rotate_left; rfl; focus (intro w hSw; (try dsimp only at hSw); go_simp; all_goals (with_reducible rfl)))
      (try simp only [nrm, Act.put])
      first | (refine tk 6 rfl (Or.inr ⟨?_, rfl⟩) ?_; rfl) | (refine tk 6 rfl (v := ?_) (Or.inl ⟨?_, ?_⟩) ?_; rotate_left; rfl; focus (intro w hSw; (try dsimp only at hSw); go_simp; all_goals (with_reducible rfl)))
      (try simp only [nrm, Act.put])
      refine wpAnyH_ready (rs := [2, 7]) (by kernel_rfl) (by simp) ?_
      refine AllReadyH.cons rfl (fun K hK => ?_) (AllReadyH.cons rfl (fun K hK => ?_) AllReadyH.nil)
      · go_simp
        go_at_call 62
        with_reducible refine (HCP.out _).mono ?_
        rintro _ w1 ⟨rfl, hb1⟩
        refine hK.out _ _ trivial (fun hHeld => ?_)
        clear hK K
        (try simp only [nrm, Act.put])
        refine wpAnyH_ready (rs := [7]) (by kernel_rfl) (by simp) ?_
        refine AllReadyH.cons rfl (fun K hK => ?_) AllReadyH.nil
        go_simp
        refine hK.out _ _ trivial (fun hHeld => ?_)
        clear hK K
        (try simp only [nrm, Act.put])
        refine wpAnyH_ready (rs := [8]) (by kernel_rfl) (by simp) ?_
        refine AllReadyH.cons rfl (fun K hK => ?_) AllReadyH.nil
        have hst := one_cell w1 c hc256
        go_simp
        refine hK.out _ _ trivial (fun hHeld => ?_)
        clear hK K hst
        (try simp only [nrm, Act.put])
        have hsum : ¬ 9223372036854775807 < z.size + 1 := by omega
        first | (refine tk 9 rfl (Or.inr ⟨?_, rfl⟩) ?_; rfl) | (refine tk 9 rfl (v := ?_) (Or.inl ⟨?_, ?_⟩) ?_; rotate_left; rfl; focus (intro w hSw; (try dsimp only at hSw); go_simp; all_goals (with_reducible rfl)))
        (try simp only [nrm, Act.put])
        first | (refine tk 10 rfl (Or.inr ⟨?_, rfl⟩) ?_; rfl) | (refine tk 10 rfl (v := ?_) (Or.inl ⟨?_, ?_⟩) ?_; rotate_left; rfl; focus (intro w hSw; (try dsimp only at hSw); go_simp; all_goals (with_reducible rfl)))
        (try simp only [nrm, Act.put])
        refine wpAnyH_done (by kernel_rfl) ?_ _
        have HB1 := Lib.hid ((below_next (Below.refl w.heap.size w).drew hb1).alloc (below_next (Below.refl w.heap.size w).drew hb1).size (.cells #[.int .u8 (c : Int)] 5))
        clear hb1 hHeld hsum
        go_wp2_with fail
        go_ret
        exact ⟨by rw [HV.out, ← HZ.out]; exact congrArg (fun x => Ending.returned (.string x)) (cat_mk _ [UInt8.ofNat c]), HB1.out⟩
      · go_simp
        refine hK.out _ _ trivial (fun hHeld => ?_)
        clear hK K
        (try simp only [nrm, Act.put])
        have hba := (Below.refl w.heap.size w).drew.alloc (Nat.le_refl _) (.cells #[.int .u8 (c : Int)] 5)
        refine wpAnyH_ready (rs := [2, 8]) (by kernel_rfl) (by simp) ?_
        refine AllReadyH.cons rfl (fun K hK => ?_) (AllReadyH.cons rfl (fun K hK => ?_) AllReadyH.nil)
        · go_simp
          go_at_call 62
          with_reducible refine (HCP.out _).mono ?_
          rintro _ w1 ⟨rfl, hb1⟩
          refine hK.out _ _ trivial (fun hHeld => ?_)
          clear hK K
          (try simp only [nrm, Act.put])
          refine wpAnyH_ready (rs := [8]) (by kernel_rfl) (by simp) ?_
          refine AllReadyH.cons rfl (fun K hK => ?_) AllReadyH.nil
          have hst := fun cp => one_later (w := w) c hc256 cp (((Below.refl (w.heap.size + 1) (w.alloc (.cells #[.int .u8 (c : Int)] 5))).drew).trans (hb1.mono (by simp)))
          go_simp
          refine hK.out _ _ trivial (fun hHeld => ?_)
          clear hK K hst
          (try simp only [nrm, Act.put])
          have hsum : ¬ 9223372036854775807 < z.size + 1 := by omega
          first | (refine tk 9 rfl (Or.inr ⟨?_, rfl⟩) ?_; rfl) | (refine tk 9 rfl (v := ?_) (Or.inl ⟨?_, ?_⟩) ?_; rotate_left; rfl; focus (intro w hSw; (try dsimp only at hSw); go_simp; all_goals (with_reducible rfl)))
          (try simp only [nrm, Act.put])
          first | (refine tk 10 rfl (Or.inr ⟨?_, rfl⟩) ?_; rfl) | (refine tk 10 rfl (v := ?_) (Or.inl ⟨?_, ?_⟩) ?_; rotate_left; rfl; focus (intro w hSw; (try dsimp only at hSw); go_simp; all_goals (with_reducible rfl)))
          (try simp only [nrm, Act.put])
          refine wpAnyH_done (by kernel_rfl) ?_ _
          have HB1 := Lib.hid (below_next hba hb1)
          clear hb1 hHeld hsum hba
          go_wp2_with fail
          go_ret
          exact ⟨by rw [HV.out, ← HZ.out]; exact congrArg (fun x => Ending.returned (.string x)) (cat_mk _ [UInt8.ofNat c]), HB1.out⟩
        · have hst := fun cp => one_later (w := w) c hc256 cp ((Below.refl (w.heap.size + 1) (w.alloc (.cells #[.int .u8 (c : Int)] 5))).drew)
          go_simp
          refine hK.out _ _ trivial (fun hHeld => ?_)
          clear hK K hst
          (try simp only [nrm, Act.put])
          refine wpAnyH_ready (rs := [2]) (by kernel_rfl) (by simp) ?_
          refine AllReadyH.cons rfl (fun K hK => ?_) AllReadyH.nil
          go_simp
          go_at_call 62
          with_reducible refine (HCP.out _).mono ?_
          rintro _ w1 ⟨rfl, hb1⟩
          refine hK.out _ _ trivial (fun hHeld => ?_)
          clear hK K
          (try simp only [nrm, Act.put])
          have hsum : ¬ 9223372036854775807 < z.size + 1 := by omega
          first | (refine tk 9 rfl (Or.inr ⟨?_, rfl⟩) ?_; rfl) | (refine tk 9 rfl (v := ?_) (Or.inl ⟨?_, ?_⟩) ?_; rotate_left; rfl; focus (intro w hSw; (try dsimp only at hSw); go_simp; all_goals (with_reducible rfl)))
          (try simp only [nrm, Act.put])
          first | (refine tk 10 rfl (Or.inr ⟨?_, rfl⟩) ?_; rfl) | (refine tk 10 rfl (v := ?_) (Or.inl ⟨?_, ?_⟩) ?_; rotate_left; rfl; focus (intro w hSw; (try dsimp only at hSw); go_simp; all_goals (with_reducible rfl)))
          (try simp only [nrm, Act.put])
          refine wpAnyH_done (by kernel_rfl) ?_ _
          have HB1 := Lib.hid (below_next hba hb1)
          clear hb1 hHeld hsum hba
          go_wp2_with fail
          go_ret
          exact ⟨by rw [HV.out, ← HZ.out]; exact congrArg (fun x => Ending.returned (.string x)) (cat_mk _ [UInt8.ofNat c]), HB1.out⟩
theorem digits_walk (n : Int) (h : -9007199254740992 ≤ n ∧ n ≤ 9007199254740992) (w : World) : Calls Tryz.prog 62 #[.int .i64 n] w fun e w' => e = .returned (.string ⟨(Lib.itoa n).toArray⟩) ∧ Below w.heap.size w w' := by
  by_cases h0 : n < 0
  · obtain ⟨m, hm⟩ : ∃ m : Nat, 0 - n = (m : Int) := ⟨(0 - n).toNat, by omega⟩
    have hv : Lib.itoa n = 45 :: Lib.decDigits m := by rw [Lib.itoa, if_pos h0, show n.natAbs = m by omega]
    have HV := Lib.hid hv
    obtain ⟨z, hz, hzl⟩ := mk_name (Lib.decDigits m) (dec_le m (by omega))
    have cp := Lib.hid (decs_walk m (by omega) w)
    rw [hz] at cp
    have HZ := Lib.hid hz
    have e1 : IntKind.i64.wrap (m : Int) = (m : Int) := by rw [IntKind.wrap_i64]; omega
    have e2 : -n = (m : Int) := by omega
    have d1 : decide (n < 0) = true := decide_eq_true h0
    clear hv hz h0
    go_enter Tryz.func62, Tryz.ntmps62
    go_wp2_with fail

    refine cp.out.mono ?_
    rintro _ w1 ⟨rfl, hb1⟩
    go_wp2_with fail
    go_ret
    exact ⟨by rw [HV.out, ← HZ.out]; exact congrArg (fun x => Ending.returned (.string x)) (cat_mk [45] _), hb1⟩
  · obtain ⟨m, rfl⟩ : ∃ m : Nat, n = (m : Int) := ⟨n.toNat, by omega⟩
    have hv : Lib.itoa (m : Int) = Lib.decDigits m := by rw [Lib.itoa, if_neg h0]; rfl
    rw [hv]
    exact decs_walk m (by omega) w
end Go.Proofs.YtieppmppdmcleaaGreatDoor

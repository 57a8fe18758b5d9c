import Derived.Test.YtolfcpbcccbmmaaGreatDoorPf
import Derived.Test.YtolfcpbcccbmmaaGreatDoorPc
set_option linter.unusedVariables false
set_option linter.unusedSimpArgs false
set_option maxRecDepth 20000
namespace Go.Proofs.YtolfcpbcccbmmaaGreatDoor
open Go.RowKit Pc
set_option maxHeartbeats 2000000 in
theorem dec_walk (s : ByteArray) (l : List UInt8) (hs : s.data.toList = l) (form : Bool) (w : World) (hd : DigOk w) (hm : s.size ≤ 1000000) :
    Calls Tryz.prog 67 #[.string s, .bool form] w fun e w' => e = .returned (decV (decL form l)) ∧ Below w.heap.size w w' := by
  obtain ⟨i0, hi, hz0, hz1, hz2⟩ := info_parts info_u8
  have HD := Lib.hid hd
  clear hd
  go_enter Tryz.func67, Tryz.ntmps67
  go_wp2_with fail
  go_loopw [0, 6] (fun sv ov wr => ∃ (t : ByteArray) (o : List UInt8), sv = .string t ∧ wr.ownsRow w.heap.size 5 1 ov o.length (Lib.byteCells o) ∧ Hid (decL form l = (decL form t.data.toList).map (o ++ ·)) ∧ o.length + t.size ≤ s.size ∧ Below w.heap.size w wr) (fun sv _ _ => vLen sv)
  case atStart => exact ⟨s, [], rfl, World.ownsRow_nil _ _ _ _, by rw [hs]; show _ = _; simp, by simp, Below.refl _ _⟩
  case round =>
    obtain ⟨t, o, rfl, hown, hdec, hsz, hbl⟩ := hrel
    by_cases h0 : t.size = 0
    · have he : t.toList = [] := str_nil h0
      obtain ⟨A, c, rfl, hnc, hrd⟩ := own_reads hown (Nat.le_refl _)
      have hst := reads_str (P := Tryz.prog) (c := c) hrd 81 9 5 Tryz.underlying81 Tryz.underlying5 Tryz.underlying9
      have HV : Hid (decL form l = some o) := by
        show _ = _
        rw [hdec.out, show t.data.toList = [] from List.eq_nil_of_length_eq_zero (by simpa using h0), decL_nil]
        simp
      clear hrd hdec
      go_wp2_with fail
      go_ret2
      exact ⟨by rw [HV.out]; rfl, hbl⟩
    · have he : t.toList.isEmpty = false := (str_ne h0).1
      have he2 : ¬ t.toList = [] := (str_ne h0).2
      obtain ⟨x, r, hxr⟩ : ∃ x r, t.data.toList = x :: r := by
        cases hh : t.data.toList with
        | nil => exact absurd (by rw [Lib.size_eq, hh]; rfl) h0
        | cons x r => exact ⟨x, r, rfl⟩
      have hstep := decL_step form (x :: r) (by simp)
      have c1 := Lib.hid (one_walk t x r hxr form wr (HD.out.below hbl) (by omega))
      rw [hxr] at hdec
      cases ho : one form (x :: r) with
      | none =>
        rw [ho] at c1 hstep
        have HV : Hid (decL form l = none) := by show _ = _; rw [hdec.out, hstep]; rfl
        rw [show oneV none = .tuple #[.int .u8 0, .int .i64 0] from rfl] at c1
        clear hdec hstep ho
        go_wp2_with fail
        refine c1.out.mono ?_
        rintro _ w1 ⟨rfl, n, rfl⟩
        go_wp2_with fail
        go_ret2
        exact ⟨by rw [HV.out]; rfl, below_drewN hbl n⟩
      | some p =>
        obtain ⟨y, m⟩ := p
        obtain ⟨hm1, hm2⟩ := one_pos ho
        have hml : m ≤ t.size := by rw [Lib.size_eq, hxr]; exact hm2
        rw [ho] at c1 hstep
        have HN : Hid (decL form l = (decL form (t.extract m t.size).data.toList).map ((o ++ [y]) ++ ·)) := by
          show _ = _
          rw [hdec.out, hstep, Lib.extract_to_end, hxr]
          simp only [Option.map_map]
          congr 1
          funext z
          simp
        have hy2 := y.toNat_lt
        obtain ⟨yv, hyv⟩ : ∃ yv : Nat, y.toNat = yv := ⟨_, rfl⟩
        have hm0 : ((m : Int) == 0) = false := by rw [beq_eq_false_iff_ne]; omega
        have hmI : (0 : Int) ≤ m := by omega
        have hmI2 : (m : Int) ≤ t.size := by omega
        have HY := Lib.hid hyv
        rw [show oneV (some (y, m)) = .tuple #[.int .u8 (y.toNat : Int), .int .i64 (m : Int)] from rfl, hyv] at c1
        clear hdec hstep ho hyv hy2
        go_wp2_with fail
        refine c1.out.mono ?_
        rintro _ w1 ⟨rfl, n, rfl⟩
        go_wp2_with fail
        refine wp_region_held_drew (S := fun _ => True) (by kernel_rfl) trivial (fun hHeld => ?_)
        first | (refine wpAnyH_take (i := 0) (v := _) rfl (by kernel_rfl) (by kernel_rfl) (by kernel_rfl) (fun _ _ _ h => h) (Or.inr ⟨?_, rfl⟩) (by assumption) ?_; rfl) | (refine wpAnyH_take (i := 0) (v := ?_) rfl (by kernel_rfl) (by kernel_rfl) (by kernel_rfl) (fun _ _ _ h => h) (Or.inl ⟨?_, ?_⟩) (by assumption) ?_; rotate_left; rfl; focus (intro w hSw; (try dsimp only at hSw); go_simp; all_goals (with_reducible rfl)))
        (try simp only [List.getElem_toArray, List.getElem_cons_zero, List.getElem_cons_succ, Act.put, List.setIfInBounds_toArray, List.set_cons_zero, List.set_cons_succ])
        first | (refine wpAnyH_take (i := 1) (v := _) rfl (by kernel_rfl) (by kernel_rfl) (by kernel_rfl) (fun _ _ _ h => h) (Or.inr ⟨?_, rfl⟩) (by assumption) ?_; rfl) | (refine wpAnyH_take (i := 1) (v := ?_) rfl (by kernel_rfl) (by kernel_rfl) (by kernel_rfl) (fun _ _ _ h => h) (Or.inl ⟨?_, ?_⟩) (by assumption) ?_; rotate_left; rfl; focus (intro w hSw; (try dsimp only at hSw); go_simp; all_goals (with_reducible rfl)))
        (try simp only [List.getElem_toArray, List.getElem_cons_zero, List.getElem_cons_succ, Act.put, List.setIfInBounds_toArray, List.set_cons_zero, List.set_cons_succ])
        first | (refine wpAnyH_take (i := 4) (v := _) rfl (by kernel_rfl) (by kernel_rfl) (by kernel_rfl) (fun _ _ _ h => h) (Or.inr ⟨?_, rfl⟩) (by assumption) ?_; rfl) | (refine wpAnyH_take (i := 4) (v := ?_) rfl (by kernel_rfl) (by kernel_rfl) (by kernel_rfl) (fun _ _ _ h => h) (Or.inl ⟨?_, ?_⟩) (by assumption) ?_; rotate_left; rfl; focus (intro w hSw; (try dsimp only at hSw); go_simp; all_goals (with_reducible rfl)))
        (try simp only [List.getElem_toArray, List.getElem_cons_zero, List.getElem_cons_succ, Act.put, List.setIfInBounds_toArray, List.set_cons_zero, List.set_cons_succ])
        first | (refine wpAnyH_take (i := 5) (v := _) rfl (by kernel_rfl) (by kernel_rfl) (by kernel_rfl) (fun _ _ _ h => h) (Or.inr ⟨?_, rfl⟩) (by assumption) ?_; rfl) | (refine wpAnyH_take (i := 5) (v := ?_) rfl (by kernel_rfl) (by kernel_rfl) (by kernel_rfl) (fun _ _ _ h => h) (Or.inl ⟨?_, ?_⟩) (by assumption) ?_; rotate_left; rfl; focus (intro w hSw; (try dsimp only at hSw); go_simp; all_goals (with_reducible rfl)))
        (try simp only [List.getElem_toArray, List.getElem_cons_zero, List.getElem_cons_succ, Act.put, List.setIfInBounds_toArray, List.set_cons_zero, List.set_cons_succ])
        first | (refine wpAnyH_take (i := 6) (v := _) rfl (by kernel_rfl) (by kernel_rfl) (by kernel_rfl) (fun _ _ _ h => h) (Or.inr ⟨?_, rfl⟩) (by assumption) ?_; rfl) | (refine wpAnyH_take (i := 6) (v := ?_) rfl (by kernel_rfl) (by kernel_rfl) (by kernel_rfl) (fun _ _ _ h => h) (Or.inl ⟨?_, ?_⟩) (by assumption) ?_; rotate_left; rfl; focus (intro w hSw; (try dsimp only at hSw); go_simp; all_goals (with_reducible rfl)))
        (try simp only [List.getElem_toArray, List.getElem_cons_zero, List.getElem_cons_succ, Act.put, List.setIfInBounds_toArray, List.set_cons_zero, List.set_cons_succ])
        refine wpAnyH_ready (rs := [2]) (by kernel_rfl) (by simp) ?_
        refine AllReadyH.cons rfl (fun K hK => ?_) AllReadyH.nil
        go_simp
        refine hK.out _ _ trivial (fun hHeld => ?_)
        clear hK K
        (try simp only [List.getElem_toArray, List.getElem_cons_zero, List.getElem_cons_succ, Act.put, List.setIfInBounds_toArray, List.set_cons_zero, List.set_cons_succ])
        refine wpAnyH_ready (rs := [3]) (by kernel_rfl) (by simp) ?_
        refine AllReadyH.cons rfl (fun K hK => ?_) AllReadyH.nil
        refine step_append_any ((wr.drewN (n + 1)).alloc (.cells #[.int .u8 (yv : Int)] 5)) (by rfl) (.tmp 19) (.tmp 21) 81 (by rfl) w.heap.size 5 i0 (.int .u8 0) 1 1 Tryz.underlying81 hi hz0 hz1 hz2 rfl (by decide) u6 o.length (Lib.byteCells o) (by rfl) (World.ownsRow.alloc (w := wr.drewN (n + 1)) hown _) (wr.heap.size + 1) (some ⟨wr.heap.size, 0, none⟩) 1 1 [.int .u8 (yv : Int)] (by rfl) (reads_row (wr.drewN (n + 1)) 5 [.int .u8 (yv : Int)]) (by simp [Value.oneCell']) (by unfold maxLen; omega) (by omega) (by have := hbl.size; simp; omega) ?_
        intro v' w2 hown2 hg2 hat2
        refine hK.out _ _ trivial (fun hHeld => ?_)
        clear hK K
        (try simp only [List.getElem_toArray, List.getElem_cons_zero, List.getElem_cons_succ, Act.put, List.setIfInBounds_toArray, List.set_cons_zero, List.set_cons_succ])
        first | (refine wpAnyH_take (i := 7) (v := _) rfl (by kernel_rfl) (by kernel_rfl) (by kernel_rfl) (fun _ _ _ h => h) (Or.inr ⟨?_, rfl⟩) (by assumption) ?_; rfl) | (refine wpAnyH_take (i := 7) (v := ?_) rfl (by kernel_rfl) (by kernel_rfl) (by kernel_rfl) (fun _ _ _ h => h) (Or.inl ⟨?_, ?_⟩) (by assumption) ?_; rotate_left; rfl; focus (intro w hSw; (try dsimp only at hSw); go_simp; all_goals (with_reducible rfl)))
        (try simp only [List.getElem_toArray, List.getElem_cons_zero, List.getElem_cons_succ, Act.put, List.setIfInBounds_toArray, List.set_cons_zero, List.set_cons_succ])
        first | (refine wpAnyH_take (i := 8) (v := _) rfl (by kernel_rfl) (by kernel_rfl) (by kernel_rfl) (fun _ _ _ h => h) (Or.inr ⟨?_, rfl⟩) (by assumption) ?_; rfl) | (refine wpAnyH_take (i := 8) (v := ?_) rfl (by kernel_rfl) (by kernel_rfl) (by kernel_rfl) (fun _ _ _ h => h) (Or.inl ⟨?_, ?_⟩) (by assumption) ?_; rotate_left; rfl; focus (intro w hSw; (try dsimp only at hSw); go_simp; all_goals (with_reducible rfl)))
        (try simp only [List.getElem_toArray, List.getElem_cons_zero, List.getElem_cons_succ, Act.put, List.setIfInBounds_toArray, List.set_cons_zero, List.set_cons_succ])
        refine wpAnyH_done (by kernel_rfl) ?_ _
        have hbl2 : Below w.heap.size w w2 := ((below_drewN hbl (n + 1)).alloc hbl.size _).grown hg2 (by have := hbl.size; simp; omega) (fun g hg => by have := hown.lt g hg; omega)
        have hown3 := own_next (o' := o ++ [y]) (news := [y]) hown2 (cells_one HY.out) rfl rfl
        have hsz2 : (o ++ [y]).length + (t.extract m t.size).size ≤ s.size := by simp; omega
        have hsz3 : (t.extract m t.size).size < t.size := by simp; omega
        clear hown2 hg2 hat2 hown hHeld
        go_wp2_with fail
        exact ⟨⟨t.extract m t.size, o ++ [y], rfl, hown3, HN, hsz2, hbl2⟩, hsz3⟩
end Go.Proofs.YtolfcpbcccbmmaaGreatDoor

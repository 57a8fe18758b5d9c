import Derived.Test.YtbkembafdhjbkaaQk
import Derived.Lib.SliceRun
set_option linter.unusedVariables false
namespace Go.Proofs.Ytbkembafdhjbkaa
open Go.RowKit
theorem run_clear_one (W : World) (ty : TypeId) (b o c : Nat) (hc : ∀ j, j < 15 → (W.cell? ⟨b, o + j, none⟩).isSome = true) (hf : ∀ j, j < 15 → W.frozen? ⟨b, o + j, none⟩ = false) :
    (Builtin.clear_ #[24] ty #[.slice (some ⟨b, o, none⟩) 1 c]).run Try.prog W = .ok (.tuple #[]) (W.setCells b o Rc.none.cells) := by
  have hz : (zeroValue 32).run Try.prog W = .ok (.agg Rc.none.arr) W := by kernel_rfl
  have hzc : (Builtin.zeroCells (Value.agg Rc.none.arr).cells 1).toList = Rc.none.cells := by kernel_rfl
  have hst := run_storeCells_cells (P := Try.prog) b o Rc.none.cells 0 W (fun j hj => by simpa using hc j hj) (fun j hj => by simpa using hf j hj) (fun v hv => recCells_ones [Rc.none] v (by simpa [recCells] using hv))
  rw [Nat.add_zero] at hst
  simp only [Builtin.clear_]
  simp [run_underlying Try.underlying24, hz, Result.andThen, hzc, hst]
theorem putAll_take {vs : List Value} {o n : Nat} {cur : Array Value} (h : o + vs.length ≤ cur.size) (hn : n ≤ o + vs.length) (ho : o ≤ n) : (putAll cur o vs).toList.take n = cur.toList.take o ++ vs.take (n - o) := by
  apply List.ext_getElem?
  intro j
  rw [List.getElem?_take, Array.getElem?_toList, putAll_at vs o cur h]
  by_cases hj : j < n
  · rw [if_pos hj]
    by_cases hjo : j < o
    · rw [if_neg (by omega), List.getElem?_append_left (by simp; omega), List.getElem?_take, if_pos hjo, Array.getElem?_toList]
    · rw [if_pos (by omega), List.getElem?_append_right (by simp; omega), List.getElem?_take, if_pos (by simp; omega)]
      congr 1
      simp
      omega
  · rw [if_neg hj, List.getElem?_eq_none]
    simp
    omega
theorem putAll_before {vs : List Value} {o n : Nat} {cur : Array Value} (h : o + vs.length ≤ cur.size) (hn : n ≤ o) : (putAll cur o vs).toList.take n = cur.toList.take n := by
  apply List.ext_getElem?
  intro j
  rw [List.getElem?_take, List.getElem?_take, Array.getElem?_toList, putAll_at vs o cur h, Array.getElem?_toList]
  by_cases hj : j < n
  · rw [if_pos hj, if_pos hj, if_neg (by omega), Array.getElem?_toList]
  · rw [if_neg hj, if_neg hj]
theorem drop_at {rs : List Rc} {k : Nat} (hk : k ≤ rs.length) (j : Nat) : (recCells rs)[15 * k + j]? = (recCells (rs.drop k))[j]? := by
  conv => lhs; rw [← List.take_append_drop k rs, recCells_append]
  rw [List.getElem?_append_right (by rw [recCells_len]; simp; omega), recCells_len]
  congr 1
  simp
  omega
set_option maxHeartbeats 2000000 in
theorem delete_walk (rs : List Rc) (base g cap i : Nat) (w : World) (hown : w.ownsRow base 32 15 (.slice (some ⟨g, 0, none⟩) rs.length cap) rs.length (recCells rs)) (hi : i < rs.length) (hm : rs.length ≤ 1000000) :
    Calls Try.prog 43 #[.slice (some ⟨g, 0, none⟩) rs.length cap, .int .i64 i, .int .i64 ((i : Int) + 1)] w fun e w' => ∃ cap' : Nat, e = .returned (.slice (some ⟨g, 0, none⟩) (rs.length - 1) cap') ∧ w'.ownsRow base 32 15 (.slice (some ⟨g, 0, none⟩) (rs.length - 1) cap') (rs.length - 1) (recCells (rs.eraseIdx i)) ∧ w.grownBy w' (some g) ∧ w'.heap.size = w.heap.size := by
  obtain ⟨hxl, h | ⟨g', cap', cur, he, hbase, hg, hnc, hcm, hcs, hcur⟩⟩ := hown
  · obtain ⟨h1, h2⟩ := h
    cases h1
  injection he with h1 h2 h3
  injection h1 with h1
  injection h1 with h1 h4 h5
  subst h1 h3
  clear h2 h4 h5
  have hcm' : cap ≤ 9223372036854775807 := by simpa [maxLen] using hcm
  have hne : ((i : Int) == (i : Int) + 1) = false := by rw [beq_eq_false_iff_ne]; omega
  obtain ⟨m, hN⟩ : ∃ m, rs.length = m + 1 := ⟨rs.length - 1, by omega⟩
  have him : i ≤ m := by omega
  have hs1 : i + (m - i) = m := by omega
  have hcm0 : ¬ cap = m := by omega
  have hic : i ≤ cap := by omega
  have hic1 : i + 1 ≤ cap := by omega
  have hi1 : (i : Int) + 1 ≤ (m : Int) + 1 := by omega
  obtain ⟨i0, hinf, hz0, hz1, hz2⟩ := info_parts info_rec
  have hxs : ∀ x, x < rs.length * 15 → cur[x]? = (recCells rs)[x]? := fun x hx => by
    rw [← hcur, List.getElem?_take, if_pos hx, Array.getElem?_toList]
  obtain ⟨news, hnews⟩ : ∃ news, recCells (rs.drop (i + 1)) = news := ⟨_, rfl⟩
  have s1 : Hid (news.length = (m - i) * 15) := by show _ = _; rw [← hnews, recCells_len, List.length_drop]; omega
  have s2 : Hid (∀ u ∈ news, u.oneCell' = true) := by show ∀ u ∈ news, _; rw [← hnews]; exact recCells_ones _
  have hblk : Blk w.drew g 32 cur := hg
  have hi0 : (0 : Int) ≤ (i : Int) + 1 := by omega
  obtain ⟨AD, hAD, hADe⟩ : ∃ AD : Addr, (if cap = i + 1 then some (⟨g, 0, none⟩ : Addr) else some ⟨g, (i + 1) * 15, none⟩) = some AD ∧ Hid (AD = if cap = i + 1 then ⟨g, 0, none⟩ else ⟨g, (i + 1) * 15, none⟩) := by
    by_cases h : cap = i + 1
    · exact ⟨⟨g, 0, none⟩, by simp [h], by show _ = _; simp [h]⟩
    · exact ⟨⟨g, (i + 1) * 15, none⟩, by simp [h], by show _ = _; simp [h]⟩
  have hsrc : Hid (∀ j u, news[j]? = some u → w.drew.cell? (AD.add j) = some u) := by
    show ∀ j u, _ → _
    intro j u hu
    have hj := (List.getElem?_eq_some_iff.1 hu).1
    rw [s1.out] at hj
    rw [hADe.out]
    have hci : ¬ cap = i + 1 := by omega
    rw [if_neg hci, show ((⟨g, (i + 1) * 15, none⟩ : Addr).add j) = ⟨g, (i + 1) * 15 + j, none⟩ by unfold Addr.add; split <;> simp_all, hblk.cell, hxs _ (by omega), show (i + 1) * 15 + j = 15 * (i + 1) + j by omega, drop_at (by omega), hnews]
    exact hu
  have s3 : Hid (∀ j, j < news.length → (w.drew.cell? ⟨g, 0 + i * 15 + j, none⟩).isSome = true ∧ w.drew.frozen? ⟨g, 0 + i * 15 + j, none⟩ = false) := by
    show ∀ j, _ → _
    intro j hj
    rw [s1.out] at hj
    exact ⟨by rw [hblk.cell, Array.getElem?_eq_getElem (by omega)]; rfl, hblk.frozen _⟩
  have hnl : (0 + i * 15) + news.length ≤ cur.size := by rw [s1.out]; omega
  obtain ⟨cur1, hcur1⟩ : ∃ cur1, putAll cur (0 + i * 15) news = cur1 := ⟨_, rfl⟩
  have hc1s : cur1.size = cap * 15 := by rw [← hcur1, putAll_size]; exact hcs
  obtain ⟨W1, hW1⟩ : ∃ W1, w.drew.setCells g (0 + i * 15) news = W1 := ⟨_, rfl⟩
  have hW1r : W1 = w.drew.setRow g cur1 := by rw [← hW1, ← hcur1]; exact setCells_row g _ news _ w.drew cur hg
  have hb1 : Blk W1 g 32 cur1 := by rw [hW1r]; exact hblk.setRow
  have hcl : ∀ ty, (Builtin.clear_ #[24] ty #[.slice (some ⟨g, m * 15, none⟩) 1 (cap - m)]).run Try.prog W1 = .ok (.tuple #[]) (W1.setCells g (m * 15) Rc.none.cells) := fun ty =>
    run_clear_one W1 ty g (m * 15) (cap - m) (fun j hj => by rw [hb1.cell, Array.getElem?_eq_getElem (by omega)]; rfl) (fun j hj => hb1.frozen _)
  have HW := Lib.hid hW1r
  have HB := Lib.hid hb1
  have HW1 := Lib.hid hW1
  have HCUR1 := Lib.hid hcur1
  have HCUR := Lib.hid hcur
  have HC1 := Lib.hid hc1s
  have HG := Lib.hid hg
  have HNEWS := Lib.hid hnews
  have HNL := Lib.hid hnl
  rw [hN] at hi hm hnc ⊢
  have HN := Lib.hid hN
  clear hW1r hb1 hW1 hcur1 hcur hc1s hg hnews hnl hxs hxl hblk hN
  go_enter Try.func43, Try.ntmps43
  go_wp2_with fail
  refine wp_region_held_drew (S := fun _ => True) (by kernel_rfl) trivial (fun hHeld => ?_)
  first | (refine wpAnyH_take (i := 0) (v := _) rfl (by kernel_rfl) (by kernel_rfl) (by kernel_rfl) (fun _ _ _ h => h) (Or.inr ⟨?_, rfl⟩) (by assumption) ?_; rfl) | (refine wpAnyH_take (i := 0) (v := ?_) rfl (by kernel_rfl) (by kernel_rfl) (by kernel_rfl) (fun _ _ _ h => h) (Or.inl ⟨?_, ?_⟩) (by assumption) ?_; rotate_left; rfl; focus (intro w hSw; (try dsimp only at hSw); go_simp; all_goals (with_reducible rfl)))
  (try simp only [List.getElem_toArray, List.getElem_cons_zero, List.getElem_cons_succ, Act.put, List.setIfInBounds_toArray, List.set_cons_zero, List.set_cons_succ])
  first | (refine wpAnyH_take (i := 1) (v := _) rfl (by kernel_rfl) (by kernel_rfl) (by kernel_rfl) (fun _ _ _ h => h) (Or.inr ⟨?_, rfl⟩) (by assumption) ?_; rfl) | (refine wpAnyH_take (i := 1) (v := ?_) rfl (by kernel_rfl) (by kernel_rfl) (by kernel_rfl) (fun _ _ _ h => h) (Or.inl ⟨?_, ?_⟩) (by assumption) ?_; rotate_left; rfl; focus (intro w hSw; (try dsimp only at hSw); go_simp; all_goals (with_reducible rfl)))
  (try simp only [List.getElem_toArray, List.getElem_cons_zero, List.getElem_cons_succ, Act.put, List.setIfInBounds_toArray, List.set_cons_zero, List.set_cons_succ])
  first | (refine wpAnyH_take (i := 2) (v := _) rfl (by kernel_rfl) (by kernel_rfl) (by kernel_rfl) (fun _ _ _ h => h) (Or.inr ⟨?_, rfl⟩) (by assumption) ?_; rfl) | (refine wpAnyH_take (i := 2) (v := ?_) rfl (by kernel_rfl) (by kernel_rfl) (by kernel_rfl) (fun _ _ _ h => h) (Or.inl ⟨?_, ?_⟩) (by assumption) ?_; rotate_left; rfl; focus (intro w hSw; (try dsimp only at hSw); go_simp; all_goals (with_reducible rfl)))
  (try simp only [List.getElem_toArray, List.getElem_cons_zero, List.getElem_cons_succ, Act.put, List.setIfInBounds_toArray, List.set_cons_zero, List.set_cons_succ])
  first | (refine wpAnyH_take (i := 3) (v := _) rfl (by kernel_rfl) (by kernel_rfl) (by kernel_rfl) (fun _ _ _ h => h) (Or.inr ⟨?_, rfl⟩) (by assumption) ?_; rfl) | (refine wpAnyH_take (i := 3) (v := ?_) rfl (by kernel_rfl) (by kernel_rfl) (by kernel_rfl) (fun _ _ _ h => h) (Or.inl ⟨?_, ?_⟩) (by assumption) ?_; rotate_left; rfl; focus (intro w hSw; (try dsimp only at hSw); go_simp; all_goals (with_reducible rfl)))
  (try simp only [List.getElem_toArray, List.getElem_cons_zero, List.getElem_cons_succ, Act.put, List.setIfInBounds_toArray, List.set_cons_zero, List.set_cons_succ])
  first | (refine wpAnyH_take (i := 4) (v := _) rfl (by kernel_rfl) (by kernel_rfl) (by kernel_rfl) (fun _ _ _ h => h) (Or.inr ⟨?_, rfl⟩) (by assumption) ?_; rfl) | (refine wpAnyH_take (i := 4) (v := ?_) rfl (by kernel_rfl) (by kernel_rfl) (by kernel_rfl) (fun _ _ _ h => h) (Or.inl ⟨?_, ?_⟩) (by assumption) ?_; rotate_left; rfl; focus (intro w hSw; (try dsimp only at hSw); go_simp; all_goals (with_reducible rfl)))
  (try simp only [List.getElem_toArray, List.getElem_cons_zero, List.getElem_cons_succ, Act.put, List.setIfInBounds_toArray, List.set_cons_zero, List.set_cons_succ])
  first | (refine wpAnyH_take (i := 5) (v := _) rfl (by kernel_rfl) (by kernel_rfl) (by kernel_rfl) (fun _ _ _ h => h) (Or.inr ⟨?_, rfl⟩) (by assumption) ?_; rfl) | (refine wpAnyH_take (i := 5) (v := ?_) rfl (by kernel_rfl) (by kernel_rfl) (by kernel_rfl) (fun _ _ _ h => h) (Or.inl ⟨?_, ?_⟩) (by assumption) ?_; rotate_left; rfl; focus (intro w hSw; (try dsimp only at hSw); go_simp; all_goals (with_reducible rfl)))
  (try simp only [List.getElem_toArray, List.getElem_cons_zero, List.getElem_cons_succ, Act.put, List.setIfInBounds_toArray, List.set_cons_zero, List.set_cons_succ])
  refine wpAnyH_ready (rs := [6]) (by kernel_rfl) (by simp) ?_
  refine AllReadyH.cons rfl (fun K hK => ?_) AllReadyH.nil
  refine step_append_room rfl (.tmp 22) (.tmp 25) 24 rfl 32 i0 15 Try.underlying24 hinf hz1 g 0 i cap (by rfl) AD (m - i) (cap - (i + 1)) news (by simp [Act.eval, Act.put]) s1.out hsrc.out s2.out (by omega) s3.out ?_
  rw [HW1.out]
  refine hK.out _ _ trivial (fun hHeld => ?_)
  clear hK K
  (try simp only [List.getElem_toArray, List.getElem_cons_zero, List.getElem_cons_succ, Act.put, List.setIfInBounds_toArray, List.set_cons_zero, List.set_cons_succ])
  first | (refine wpAnyH_take (i := 7) (v := _) rfl (by kernel_rfl) (by kernel_rfl) (by kernel_rfl) (fun _ _ _ h => h) (Or.inr ⟨?_, rfl⟩) (by assumption) ?_; rfl) | (refine wpAnyH_take (i := 7) (v := ?_) rfl (by kernel_rfl) (by kernel_rfl) (by kernel_rfl) (fun _ _ _ h => h) (Or.inl ⟨?_, ?_⟩) (by assumption) ?_; rotate_left; rfl; focus (intro w hSw; (try dsimp only at hSw); go_simp; all_goals (with_reducible rfl)))
  (try simp only [List.getElem_toArray, List.getElem_cons_zero, List.getElem_cons_succ, Act.put, List.setIfInBounds_toArray, List.set_cons_zero, List.set_cons_succ])
  refine wpAnyH_done (by kernel_rfl) ?_ _
  go_wp2_with fail
  have hc1s := HC1.out
  have hcz : Rc.none.cells.length = 15 := rfl
  have hn2 : m * 15 + Rc.none.cells.length ≤ cur1.size := by rw [hc1s, hcz]; omega
  have hW2 : W1.setCells g (m * 15) Rc.none.cells = W1.setRow g (putAll cur1 (m * 15) Rc.none.cells) := setCells_row g _ _ _ W1 cur1 HB.out
  have hb2 : Blk (W1.setRow g (putAll cur1 (m * 15) Rc.none.cells)) g 32 (putAll cur1 (m * 15) Rc.none.cells) := HB.out.setRow
  go_ret
  rw [hW2]
  have hNN := HN.out
  have hlist : (putAll cur1 (m * 15) Rc.none.cells).toList.take (m * 15) = recCells (rs.eraseIdx i) := by
    rw [putAll_before hn2 (Nat.le_refl _), ← HCUR1.out, putAll_take HNL.out (by rw [s1.out]; omega) (by omega)]
    rw [List.eraseIdx_eq_take_drop_succ, recCells_append, HNEWS.out]
    congr 1
    · have := HCUR.out
      have h2 := congrArg (List.take (0 + i * 15)) this
      rw [List.take_take, Nat.min_eq_left (by rw [HN.out]; omega)] at h2
      rw [h2]
      conv => lhs; rw [← List.take_append_drop i rs, recCells_append]
      rw [List.take_append_of_le_length (by rw [recCells_len, List.length_take]; omega)]
      rw [List.take_of_length_le (by rw [recCells_len, List.length_take]; omega)]
    · exact List.take_of_length_le (by rw [s1.out]; omega)
  refine ⟨cap, rfl, ⟨?_, .inr ⟨g, cap, _, rfl, hbase, hb2, ?_, hcm, ?_, hlist⟩⟩, ?_, ?_⟩
  · rw [recCells_len, List.length_eraseIdx, if_pos (by rw [HN.out]; omega), HN.out]
    omega
  · omega
  · rw [putAll_size, hc1s]
  · rw [HW.out]
    exact only_trans (only_trans (only_drewN (only_refl w (some g)) 1) (setRow_only _ g _)) (setRow_only _ g _)
  · rw [HW.out]
    simp
end Go.Proofs.Ytbkembafdhjbkaa

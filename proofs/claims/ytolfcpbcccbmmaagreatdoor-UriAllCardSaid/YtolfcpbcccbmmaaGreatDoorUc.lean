/- Names that were there: slices.Contains of names, (*names).twice, and ContainsFunc over it. No condition of its own. -/
import Derived.Test.YtolfcpbcccbmmaaGreatDoorUb
import Derived.Deep.RegionHeld
import Derived.Deep.AppendLies
set_option linter.unusedVariables false
set_option linter.unusedSimpArgs false
set_option maxRecDepth 20000
namespace Go.Proofs.YtolfcpbcccbmmaaGreatDoor
open Go.RowKit Pc
set_option maxHeartbeats 2000000 in
theorem nindex_walk (A : Option Addr) (n c B : Nat) (ps : List (List UInt8)) (q : List UInt8) (w : World) (hr : Reads w B 1 A n (strVs ps)) (hn : ps.length = n) (hc : n ≤ c) (hb : n ≤ 1000001) :
    Calls Tryz.prog 75 #[.slice A n c, .string ⟨q.toArray⟩] w fun e w' => (∃ i : Int, e = .returned (.int .i64 i) ∧ decide (0 ≤ i) = ps.contains q) ∧ w = w' := by
  go_enter Tryz.func75, Tryz.ntmps75
  go_wp2_with fail
  go_loopw [8] (fun iv wr => ∃ k : Nat, k ≤ n ∧ iv = .int .i64 k ∧ Hid (∀ j p, j < k → ps[j]? = some p → p ≠ q) ∧ w = wr) (fun iv _ => n - (intOf iv).toNat)
  case atStart => exact ⟨0, by omega, rfl, fun j p hj => by omega, rfl⟩
  case round =>
    obtain ⟨k, hk, rfl, hp, rfl⟩ := hrel
    by_cases hlt : k < n
    · obtain ⟨ad, u, rfl, had, hu, hcu⟩ := hr.at_ hlt
      obtain ⟨p, hpk⟩ : ∃ p, ps[k]? = some p := ⟨_, List.getElem?_eq_getElem (by omega)⟩
      obtain rfl : u = .string ⟨p.toArray⟩ := by
        rw [strVs, List.getElem?_map, hpk] at hu
        injection hu with hu
        exact hu.symm
      have hcmp := eq_strL q p
      have hcmp2 := eq_strP q p ⟨p.toArray⟩ (by simp)
      by_cases he : q = p
      · have hv : Hid (ps.contains q = true) := by
          show _ = _
          rw [List.contains_iff_mem, he]
          exact List.mem_of_getElem? hpk
        clear hcmp hcmp2 hpk hu
        subst he
        go_wp2_with fail
        go_ret
        exact ⟨⟨k, rfl, by rw [hv.out]; simp⟩, rfl⟩
      · have HN : Hid (∀ j p, j < k + 1 → ps[j]? = some p → p ≠ q) := fun j p' hj hp' => by
          rcases Nat.lt_succ_iff_lt_or_eq.1 hj with h | rfl
          · exact hp.out j p' h hp'
          · rw [hpk] at hp'; injection hp' with hp'; subst hp'; exact fun e => he e.symm
        rw [decide_eq_false he] at hcmp
        clear hcmp2 hpk hu he
        generalize (⟨q.toArray⟩ : ByteArray) = x at hcmp ⊢
        generalize (⟨p.toArray⟩ : ByteArray) = y at hcmp hcu
        go_wp2_with fail
        exact ⟨⟨k + 1, by omega, by go_num, HN, trivial⟩, by simp [intOf]; omega⟩
    · have hv : Hid (ps.contains q = false) := by
        show _ = _
        rw [Bool.eq_false_iff, ne_eq, List.contains_iff_mem, List.mem_iff_getElem?]
        rintro ⟨j, hj⟩
        exact hp.out j q (by have := (List.getElem?_eq_some_iff.1 hj).1; omega) hj rfl
      go_wp2_with fail
      go_ret
      exact ⟨⟨-1, rfl, by rw [hv.out]; rfl⟩, rfl⟩
theorem ncontains_walk (A : Option Addr) (n c B : Nat) (ps : List (List UInt8)) (q : List UInt8) (w : World) (hr : Reads w B 1 A n (strVs ps)) (hn : ps.length = n) (hc : n ≤ c) (hb : n ≤ 1000001) :
    Calls Tryz.prog 56 #[.slice A n c, .string ⟨q.toArray⟩] w fun e w' => e = .returned (.bool (ps.contains q)) ∧ w = w' := by
  have ci := Lib.hid (nindex_walk A n c B ps q w hr hn hc hb)
  clear hr hn hb
  go_enter Tryz.func56, Tryz.ntmps56
  go_wp2_with fail
  refine ci.out.mono ?_
  rintro _ w2 ⟨⟨i, rfl, hi⟩, rfl⟩
  have HI := Lib.hid hi
  clear hi
  go_wp2_with fail
  go_ret
  exact ⟨by rw [← HI.out]; rfl, rfl⟩
theorem boxF {g : Nat} {f : Fl} {W : World} (h : Blk W g 57 f.arr) : Blk W g 57 f.arr ∧ W.cell? ⟨g, 0, none⟩ = some (.string ⟨f.n.toArray⟩) := ⟨h, h.cell 0⟩
/-- the names that were there, in memory -/
def SeenAt (w : World) (gb : Nat) (ps : List (List UInt8)) : Prop := ∃ v, Blk w gb 54 #[v] ∧ w.ownsRow (gb + 1) 9 1 v ps.length (strVs ps)
theorem strVs_snoc (ps : List (List UInt8)) (q : List UInt8) : strVs (ps ++ [q]) = strVs ps ++ [.string ⟨q.toArray⟩] := by simp [strVs, strV]
theorem strVs_len (ps : List (List UInt8)) : (strVs ps).length = ps.length := by simp [strVs]
def TwiceR (gb : Nat) (ps : List (List UInt8)) (q : List UInt8) (w : World) (e : Ending) (w' : World) : Prop :=
  Below gb w w' ∧ ((e = .returned (.bool true) ∧ (q = [] ∨ ps.contains q = true)) ∨ (e = .returned (.bool false) ∧ q ≠ [] ∧ ps.contains q = false ∧ SeenAt w' gb (ps ++ [q])))
set_option maxHeartbeats 8000000 in
theorem twice_walk (gb : Nat) (ps : List (List UInt8)) (f : Fl) (w : World) (hs : SeenAt w gb ps) (hl : ps.length ≤ 4000) :
    Calls Tryz.prog 33 #[.pointer (some ⟨gb, 0, none⟩), .agg f.arr] w (TwiceR gb ps f.n w) := by
  obtain ⟨i0, hi, hz0, hz1, hz2⟩ := infoS4 info_string
  obtain ⟨v, hk, hown⟩ := hs
  have hgl := hk.lt
  have ha0 := f.at0
  obtain ⟨A, c, rfl, hnc, hrd⟩ := own_reads hown (Nat.le_refl _)
  have HK := Lib.hid (hk.alloc (.cells f.arr 57))
  have HF := Lib.hid (boxF (Blk.new w 57 f.arr))
  have HO := Lib.hid (hown.alloc (.cells f.arr 57))
  have HB := Lib.hid ((Below.refl gb w).alloc (Nat.le_of_lt hgl) (.cells f.arr 57))
  have hrd2 := hrd.alloc (Nat.le_refl _) (.cells f.arr 57)
  have hgw : gb ≠ w.heap.size := by omega
  have HX1 : Hid (∀ r, (Value.slice A ps.length c).ownBlock = some r → r ≠ w.heap.size) := fun r h => by have := (hown.lt r h).2; omega
  generalize hw1 : w.alloc (.cells f.arr 57) = w1 at HK HF HO HB hrd2
  have hsz1 : w1.heap.size = w.heap.size + 1 := by rw [← hw1]; simp
  have cc := Lib.hid (fun q => ncontains_walk A ps.length c w.heap.size ps f.n (w1.drewN q) (hrd2.drewN q) rfl hnc (by omega))
  have hcv := HK.out.cell 0
  have hcn := HF.out.2
  generalize hg1 : w.heap.size = g1 at HF hcn hgw hsz1 cc HX1
  have hS00 : (w1.drewN 1).cell? ⟨g1, 0, none⟩ = some (.string ⟨f.n.toArray⟩) := hcn
  have HW1 := Lib.hid hw1
  have HG1 := Lib.hid hg1
  clear hrd hrd2
  by_cases h0 : f.n = []
  · have HV : Hid (f.n = [] ∨ ps.contains f.n = true) := .inl h0
    have hn1 : f.n.isEmpty = true := by rw [h0]; rfl
    clear hk hown hw1 hg1
    go_enter Tryz.func33, Tryz.ntmps33
    go_wp2_with fail
    rw [HG1.out, HW1.out]
    go_quiet ((go_at_call 56; refine (cc.out _).mono ?_; rintro e w9 ⟨rfl, rfl⟩; exact ⟨rfl, _, rfl⟩))
    go_wp2_with fail
    go_ret
    exact ⟨below_drewN HB.out _, .inl ⟨rfl, HV.out⟩⟩
  · have hn1 : f.n.isEmpty = false := by cases hq : f.n with | nil => exact absurd hq h0 | cons _ _ => rfl
    cases hh : ps.contains f.n with
    | true =>
      have HV : Hid (f.n = [] ∨ ps.contains f.n = true) := .inr hh
      rw [hh] at cc
      clear hk hown hw1 hg1 h0 hh
      go_enter Tryz.func33, Tryz.ntmps33
      go_wp2_with fail
      rw [HG1.out, HW1.out]
      go_quiet ((go_at_call 56; refine (cc.out _).mono ?_; rintro e w9 ⟨rfl, rfl⟩; exact ⟨rfl, _, rfl⟩))
      go_wp2_with fail
      go_ret
      exact ⟨below_drewN HB.out _, .inl ⟨rfl, HV.out⟩⟩
    | false =>
      have HV : Hid (f.n ≠ [] ∧ ps.contains f.n = false) := ⟨h0, hh⟩
      rw [hh] at cc
      clear hk hown hw1 hg1 h0 hh
      go_enter Tryz.func33, Tryz.ntmps33
      go_wp2_with fail
      rw [HG1.out, HW1.out]
      go_quiet ((go_at_call 56; refine (cc.out _).mono ?_; rintro e w9 ⟨rfl, rfl⟩; exact ⟨rfl, _, rfl⟩))
      go_wp2_with fail
      have HK2 : Hid (Blk (w1.drewN nq) gb 54 #[.slice A ps.length c]) := HK.out
      have HO2 : Hid ((w1.drewN nq).ownsRow (gb + 1) 9 1 (.slice A ps.length c) ps.length (strVs ps)) := HO.out
      have HB2 : Hid (Below gb w (w1.drewN nq)) := below_drewN HB.out nq
      have hS0 : (w1.drewN nq).drew.cell? ⟨g1, 0, none⟩ = some (.string ⟨f.n.toArray⟩) := hcn
      have hgl2 : gb < (w1.drewN nq).heap.size := HK2.out.lt
      have hg12 : g1 < (w1.drewN nq).heap.size := by show g1 < w1.heap.size; omega
      clear HK HO HB hcv hcn cc hS00
      generalize w1.drewN nq = w2 at HK2 HO2 HB2 hS0 hgl2 hg12 ⊢
      have hcv : w2.drew.cell? ⟨gb, 0, none⟩ = some (.slice A ps.length c) := HK2.out.cell 0
      have hcv2 : (w2.drew.alloc (.cells #[.string ⟨f.n.toArray⟩] 9)).cell? ⟨gb, 0, none⟩ = some (.slice A ps.length c) := (HK2.out.drew.alloc _).cell 0
      have hS1 : (w2.drew.alloc (.cells #[.string ⟨f.n.toArray⟩] 9)).cell? ⟨g1, 0, none⟩ = some (.string ⟨f.n.toArray⟩) := (World.cell?_alloc_lt w2.drew _ ⟨g1, 0, none⟩ hg12).trans hS0
      have hcv3 : w2.cell? ⟨gb, 0, none⟩ = some (.slice A ps.length c) := hcv
      have hrow := reads_row w2.drew 9 [.string ⟨f.n.toArray⟩]
      refine wp_region_held_drew (S := fun W => W.cell? ⟨g1, 0, none⟩ = some (.string ⟨f.n.toArray⟩)) (by kernel_rfl) hS0 (fun hHeld => ?_)
      first | (refine wpAnyH_take (i := 0) (v := _) rfl (by kernel_rfl) (by kernel_rfl) (by kernel_rfl) (fun _ _ _ h => h) (Or.inr ⟨?_, rfl⟩) (by assumption) ?_; rfl) | (refine wpAnyH_take (i := 0) (v := ?_) rfl (by kernel_rfl) (by kernel_rfl) (by kernel_rfl) (fun _ _ _ h => h) (Or.inl ⟨?_, ?_⟩) (by assumption) ?_; rotate_left; rfl; focus (intro w hSw; (try dsimp only at hSw); go_simp; all_goals (with_reducible rfl)))
      (try simp only [List.getElem_toArray, List.getElem_cons_zero, List.getElem_cons_succ, Act.put, List.setIfInBounds_toArray, List.set_cons_zero, List.set_cons_succ])
      first | (refine wpAnyH_take (i := 1) (v := _) rfl (by kernel_rfl) (by kernel_rfl) (by kernel_rfl) (fun _ _ _ h => h) (Or.inr ⟨?_, rfl⟩) (by assumption) ?_; rfl) | (refine wpAnyH_take (i := 1) (v := ?_) rfl (by kernel_rfl) (by kernel_rfl) (by kernel_rfl) (fun _ _ _ h => h) (Or.inl ⟨?_, ?_⟩) (by assumption) ?_; rotate_left; rfl; focus (intro w hSw; (try dsimp only at hSw); go_simp; all_goals (with_reducible rfl)))
      (try simp only [List.getElem_toArray, List.getElem_cons_zero, List.getElem_cons_succ, Act.put, List.setIfInBounds_toArray, List.set_cons_zero, List.set_cons_succ])
      first | (refine wpAnyH_take (i := 2) (v := _) rfl (by kernel_rfl) (by kernel_rfl) (by kernel_rfl) (fun _ _ _ h => h) (Or.inr ⟨?_, rfl⟩) (by assumption) ?_; rfl) | (refine wpAnyH_take (i := 2) (v := ?_) rfl (by kernel_rfl) (by kernel_rfl) (by kernel_rfl) (fun _ _ _ h => h) (Or.inl ⟨?_, ?_⟩) (by assumption) ?_; rotate_left; rfl; focus (intro w hSw; (try dsimp only at hSw); go_simp; all_goals (with_reducible rfl)))
      (try simp only [List.getElem_toArray, List.getElem_cons_zero, List.getElem_cons_succ, Act.put, List.setIfInBounds_toArray, List.set_cons_zero, List.set_cons_succ])
      first | (refine wpAnyH_take (i := 4) (v := _) rfl (by kernel_rfl) (by kernel_rfl) (by kernel_rfl) (fun _ _ _ h => h) (Or.inr ⟨?_, rfl⟩) (by assumption) ?_; rfl) | (refine wpAnyH_take (i := 4) (v := ?_) rfl (by kernel_rfl) (by kernel_rfl) (by kernel_rfl) (fun _ _ _ h => h) (Or.inl ⟨?_, ?_⟩) (by assumption) ?_; rotate_left; rfl; focus (intro w hSw; (try dsimp only at hSw); go_simp; all_goals (with_reducible rfl)))
      (try simp only [List.getElem_toArray, List.getElem_cons_zero, List.getElem_cons_succ, Act.put, List.setIfInBounds_toArray, List.set_cons_zero, List.set_cons_succ])
      first | (refine wpAnyH_take (i := 5) (v := _) rfl (by kernel_rfl) (by kernel_rfl) (by kernel_rfl) (fun _ _ _ h => h) (Or.inr ⟨?_, rfl⟩) (by assumption) ?_; rfl) | (refine wpAnyH_take (i := 5) (v := ?_) rfl (by kernel_rfl) (by kernel_rfl) (by kernel_rfl) (fun _ _ _ h => h) (Or.inl ⟨?_, ?_⟩) (by assumption) ?_; rotate_left; rfl; focus (intro w hSw; (try dsimp only at hSw); go_simp; all_goals (with_reducible rfl)))
      (try simp only [List.getElem_toArray, List.getElem_cons_zero, List.getElem_cons_succ, Act.put, List.setIfInBounds_toArray, List.set_cons_zero, List.set_cons_succ])
      refine wpAnyH_ready (rs := [3, 6]) (by kernel_rfl) (by simp) ?_
      refine AllReadyH.cons rfl (fun K hK => ?_) (AllReadyH.cons rfl (fun K hK => ?_) AllReadyH.nil)
      · go_simp
        refine hK.out _ _ hS0 (fun hHeld => ?_)
        clear hK K
        (try simp only [List.getElem_toArray, List.getElem_cons_zero, List.getElem_cons_succ, Act.put, List.setIfInBounds_toArray, List.set_cons_zero, List.set_cons_succ])
        refine wpAnyH_ready (rs := [6]) (by kernel_rfl) (by simp) ?_
        refine AllReadyH.cons rfl (fun K hK => ?_) AllReadyH.nil
        go_simp
        refine hK.out _ _ hS1 (fun hHeld => ?_)
        clear hK K
        (try simp only [List.getElem_toArray, List.getElem_cons_zero, List.getElem_cons_succ, Act.put, List.setIfInBounds_toArray, List.set_cons_zero, List.set_cons_succ])
        refine wpAnyH_ready (rs := [7]) (by kernel_rfl) (by simp) ?_
        refine AllReadyH.cons rfl (fun K hK => ?_) AllReadyH.nil
        refine step_append_any (w2.drew.alloc (.cells #[.string ⟨f.n.toArray⟩] 9)) (by rfl) (.tmp 19) (.tmp 22) 54 (by rfl) (gb + 1) 9 i0 (.string ⟨#[]⟩) 1 16 Tryz.underlying54 hi hz0 hz1 hz2 rfl (by decide) (.slice A ps.length c) ps.length (strVs ps) (by rfl) (HO2.out.drew.alloc _) (w2.drew.heap.size + 1) (some ⟨w2.drew.heap.size, 0, none⟩) 1 1 [.string ⟨f.n.toArray⟩] (by rfl) hrow (by simp [Value.oneCell']) (by unfold maxLen; omega) (by omega) (by simp; omega) ?_
        intro v' w8 hown8 hg8 hat8
        obtain ⟨A8, c8, rfl, _, _⟩ := own_reads hown8 (Nat.le_refl _)
        have hnb : ∀ r, (Value.slice A ps.length c).ownBlock = some r → gb < r ∧ r < w2.heap.size := fun r h => by have := HO2.out.lt r h; omega
        have HK8 := Lib.hid (((HK2.out.drew).alloc (.cells #[.string ⟨f.n.toArray⟩] 9)).grown hg8 (fun e => by have := hnb _ e.symm; omega))
        have hS8 : w8.cell? ⟨g1, 0, none⟩ = some (.string ⟨f.n.toArray⟩) := by
          rw [← hS1]
          refine World.cell?_of_block (hg8.block _ (by simp; omega) (fun e => ?_))
          exact HX1.out _ e.symm rfl
        refine hK.out _ _ hS8 (fun hHeld => ?_)
        clear hK K
        (try simp only [List.getElem_toArray, List.getElem_cons_zero, List.getElem_cons_succ, Act.put, List.setIfInBounds_toArray, List.set_cons_zero, List.set_cons_succ])
        first | (refine wpAnyH_take (i := 8) (v := _) rfl (by kernel_rfl) (by kernel_rfl) (by kernel_rfl) (fun _ _ _ h => h) (Or.inr ⟨?_, rfl⟩) (by assumption) ?_; rfl) | (refine wpAnyH_take (i := 8) (v := ?_) rfl (by kernel_rfl) (by kernel_rfl) (by kernel_rfl) (fun _ _ _ h => h) (Or.inl ⟨?_, ?_⟩) (by assumption) ?_; rotate_left; rfl; focus (intro w hSw; (try dsimp only at hSw); go_simp; all_goals (with_reducible rfl)))
        (try simp only [List.getElem_toArray, List.getElem_cons_zero, List.getElem_cons_succ, Act.put, List.setIfInBounds_toArray, List.set_cons_zero, List.set_cons_succ])
        have hc8 : w8.cell? ⟨gb, 0, none⟩ = some (.slice A ps.length c) := HK8.out.cell 0
        have hf8 := HK8.out.frozen 0
        have hS9 : (w8.setCell ⟨gb, 0, none⟩ (.slice A8 (ps.length + 1) c8)).cell? ⟨g1, 0, none⟩ = some (.string ⟨f.n.toArray⟩) := (World.cell?_setCell_other _ _ _ _ (by intro e; injection e with e; exact hgw e)).trans hS8
        have HK9 := Lib.hid (HK8.out.set_ 0 (.slice A8 (ps.length + 1) c8))
        have HO9 : Hid ((w8.setCell ⟨gb, 0, none⟩ (.slice A8 (ps.length + 1) c8)).ownsRow (gb + 1) 9 1 (.slice A8 (ps.length + 1) c8) (ps ++ [f.n]).length (strVs (ps ++ [f.n]))) := by
          show World.ownsRow _ _ _ _ _ _ _
          rw [strVs_snoc, List.length_append]
          exact ownsRow_setCell_below hown8 (Nat.lt_succ_self gb) _
        have HB9 : Hid (Below gb w (w8.setCell ⟨gb, 0, none⟩ (.slice A8 (ps.length + 1) c8))) := ((((HB2.out.drew).alloc (Nat.le_of_lt hgl2) (.cells #[.string ⟨f.n.toArray⟩] 9)).grown hg8 (by simp; omega) (fun q e => by have := hnb q e; omega))).setCell (Nat.le_refl gb) _
        refine wpAnyH_ready (rs := [9]) (by kernel_rfl) (by simp) ?_
        refine AllReadyH.cons rfl (fun K hK => ?_) AllReadyH.nil
        go_simp
        refine hK.out _ _ hS9 (fun hHeld => ?_)
        clear hK K
        (try simp only [List.getElem_toArray, List.getElem_cons_zero, List.getElem_cons_succ, Act.put, List.setIfInBounds_toArray, List.set_cons_zero, List.set_cons_succ])
        refine wpAnyH_done (by kernel_rfl) ?_ _
        clear hHeld hrow hown8 hg8 hat8
        go_wp2_with fail
        go_ret
        exact ⟨HB9.out, .inr ⟨rfl, HV.out.1, HV.out.2, _, HK9.out, HO9.out⟩⟩
      · go_simp
        refine hK.out _ _ hS1 (fun hHeld => ?_)
        clear hK K
        (try simp only [List.getElem_toArray, List.getElem_cons_zero, List.getElem_cons_succ, Act.put, List.setIfInBounds_toArray, List.set_cons_zero, List.set_cons_succ])
        refine wpAnyH_ready (rs := [3]) (by kernel_rfl) (by simp) ?_
        refine AllReadyH.cons rfl (fun K hK => ?_) AllReadyH.nil
        go_simp
        refine hK.out _ _ hS1 (fun hHeld => ?_)
        clear hK K
        (try simp only [List.getElem_toArray, List.getElem_cons_zero, List.getElem_cons_succ, Act.put, List.setIfInBounds_toArray, List.set_cons_zero, List.set_cons_succ])
        refine wpAnyH_ready (rs := [7]) (by kernel_rfl) (by simp) ?_
        refine AllReadyH.cons rfl (fun K hK => ?_) AllReadyH.nil
        refine step_append_any (w2.drew.alloc (.cells #[.string ⟨f.n.toArray⟩] 9)) (by rfl) (.tmp 19) (.tmp 22) 54 (by rfl) (gb + 1) 9 i0 (.string ⟨#[]⟩) 1 16 Tryz.underlying54 hi hz0 hz1 hz2 rfl (by decide) (.slice A ps.length c) ps.length (strVs ps) (by rfl) (HO2.out.drew.alloc _) (w2.drew.heap.size + 1) (some ⟨w2.drew.heap.size, 0, none⟩) 1 1 [.string ⟨f.n.toArray⟩] (by rfl) hrow (by simp [Value.oneCell']) (by unfold maxLen; omega) (by omega) (by simp; omega) ?_
        intro v' w8 hown8 hg8 hat8
        obtain ⟨A8, c8, rfl, _, _⟩ := own_reads hown8 (Nat.le_refl _)
        have hnb : ∀ r, (Value.slice A ps.length c).ownBlock = some r → gb < r ∧ r < w2.heap.size := fun r h => by have := HO2.out.lt r h; omega
        have HK8 := Lib.hid (((HK2.out.drew).alloc (.cells #[.string ⟨f.n.toArray⟩] 9)).grown hg8 (fun e => by have := hnb _ e.symm; omega))
        have hS8 : w8.cell? ⟨g1, 0, none⟩ = some (.string ⟨f.n.toArray⟩) := by
          rw [← hS1]
          refine World.cell?_of_block (hg8.block _ (by simp; omega) (fun e => ?_))
          exact HX1.out _ e.symm rfl
        refine hK.out _ _ hS8 (fun hHeld => ?_)
        clear hK K
        (try simp only [List.getElem_toArray, List.getElem_cons_zero, List.getElem_cons_succ, Act.put, List.setIfInBounds_toArray, List.set_cons_zero, List.set_cons_succ])
        first | (refine wpAnyH_take (i := 8) (v := _) rfl (by kernel_rfl) (by kernel_rfl) (by kernel_rfl) (fun _ _ _ h => h) (Or.inr ⟨?_, rfl⟩) (by assumption) ?_; rfl) | (refine wpAnyH_take (i := 8) (v := ?_) rfl (by kernel_rfl) (by kernel_rfl) (by kernel_rfl) (fun _ _ _ h => h) (Or.inl ⟨?_, ?_⟩) (by assumption) ?_; rotate_left; rfl; focus (intro w hSw; (try dsimp only at hSw); go_simp; all_goals (with_reducible rfl)))
        (try simp only [List.getElem_toArray, List.getElem_cons_zero, List.getElem_cons_succ, Act.put, List.setIfInBounds_toArray, List.set_cons_zero, List.set_cons_succ])
        have hc8 : w8.cell? ⟨gb, 0, none⟩ = some (.slice A ps.length c) := HK8.out.cell 0
        have hf8 := HK8.out.frozen 0
        have hS9 : (w8.setCell ⟨gb, 0, none⟩ (.slice A8 (ps.length + 1) c8)).cell? ⟨g1, 0, none⟩ = some (.string ⟨f.n.toArray⟩) := (World.cell?_setCell_other _ _ _ _ (by intro e; injection e with e; exact hgw e)).trans hS8
        have HK9 := Lib.hid (HK8.out.set_ 0 (.slice A8 (ps.length + 1) c8))
        have HO9 : Hid ((w8.setCell ⟨gb, 0, none⟩ (.slice A8 (ps.length + 1) c8)).ownsRow (gb + 1) 9 1 (.slice A8 (ps.length + 1) c8) (ps ++ [f.n]).length (strVs (ps ++ [f.n]))) := by
          show World.ownsRow _ _ _ _ _ _ _
          rw [strVs_snoc, List.length_append]
          exact ownsRow_setCell_below hown8 (Nat.lt_succ_self gb) _
        have HB9 : Hid (Below gb w (w8.setCell ⟨gb, 0, none⟩ (.slice A8 (ps.length + 1) c8))) := ((((HB2.out.drew).alloc (Nat.le_of_lt hgl2) (.cells #[.string ⟨f.n.toArray⟩] 9)).grown hg8 (by simp; omega) (fun q e => by have := hnb q e; omega))).setCell (Nat.le_refl gb) _
        refine wpAnyH_ready (rs := [9]) (by kernel_rfl) (by simp) ?_
        refine AllReadyH.cons rfl (fun K hK => ?_) AllReadyH.nil
        go_simp
        refine hK.out _ _ hS9 (fun hHeld => ?_)
        clear hK K
        (try simp only [List.getElem_toArray, List.getElem_cons_zero, List.getElem_cons_succ, Act.put, List.setIfInBounds_toArray, List.set_cons_zero, List.set_cons_succ])
        refine wpAnyH_done (by kernel_rfl) ?_ _
        clear hHeld hrow hown8 hg8 hat8
        go_wp2_with fail
        go_ret
        exact ⟨HB9.out, .inr ⟨rfl, HV.out.1, HV.out.2, _, HK9.out, HO9.out⟩⟩
end Go.Proofs.YtolfcpbcccbmmaaGreatDoor

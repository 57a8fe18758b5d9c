/- countersignref17.redirects, May. No condition of its own. -/
import Derived.Test.YtekbdfnbnpmclaaGreatDoorCe
import Derived.Deep.RegionHeld3
set_option linter.unusedVariables false
set_option linter.unusedSimpArgs false
set_option maxRecDepth 20000
namespace Go.Proofs.YtekbdfnbnpmclaaGreatDoor
open Go.RowKit Pc
theorem lead_no1 {l : List UInt8} (h : (uriE l).1 ≠ 0) : leadB l = false := by rw [leadB, decide_eq_false h]; simp
theorem lead_no2 {l : List UInt8} (h : (uriE l).2.q.length ≠ 0) : leadB l = false := by rw [leadB, decide_eq_false h]; simp
theorem lead_no3 {l : List UInt8} (h : ¬ l.length ≤ 256) : leadB l = false := by rw [leadB, decide_eq_false h]; simp
theorem lead_yes {l : List UInt8} (h1 : (uriE l).1 = 0) (h2 : (uriE l).2.q.length = 0) (h3 : l.length ≤ 256) : leadB l = true := by rw [leadB, decide_eq_true h1, decide_eq_true h2, decide_eq_true h3]; rfl
set_option maxHeartbeats 8000000 in
theorem rredirects_walk (ps : List (List UInt8)) (A : Option Addr) (c : Nat) (w : World) (hr : StrsAt w A c ps) (hm : Short ps) :
    Calls Tryz.prog 19 #[.slice A ps.length c] w fun e w' => e = .returned (.bool (redB ps)) ∧ Below w.heap.size w w' := by
  obtain ⟨hpl, hps⟩ := hm
  have hpc := hr.1
  have HR := Lib.hid hr
  have HS := Lib.hid hps
  have HV : Hid (redB ps = (redsB [] ps && (decide (1 ≤ ps.length) && decide (ps.length ≤ 4)))) := rfl
  clear hr hps
  go_enter Tryz.func19, Tryz.ntmps19
  go_wp2_with fail
  go_loopw [3] (fun iv wr => ∃ k : Nat, k ≤ ps.length ∧ iv = .int .i64 k ∧ Hid (redsB (ps.take k) (ps.drop k) = redsB [] ps) ∧ Hid (Below w.heap.size w wr)) (fun iv _ => ps.length - (intOf iv).toNat)
  case atStart => exact ⟨0, by omega, rfl, rfl, Below.refl _ _⟩
  case round =>
    obtain ⟨k, hk, rfl, hp, HB⟩ := hrel
    by_cases hlt : k < ps.length
    case neg =>
      obtain rfl : k = ps.length := by omega
      have hv : Hid (redB ps = (decide (1 ≤ ps.length) && decide (ps.length ≤ 4))) := by show _ = _; rw [HV.out, ← hp.out, redsB_end, Bool.true_and]
      clear hp hlt hk HS HR HV hpc
      generalize ps.length = n at hpl hv ⊢
      by_cases h0 : 1 ≤ n
      · have h1 : decide ((1 : Int) ≤ (n : Int)) = true := by simp; omega
        have h1b : decide (1 ≤ n) = true := by simp; omega
        rw [h1b] at hv
        by_cases h4 : n ≤ 4
        · have h2 : decide ((n : Int) ≤ (4 : Int)) = true := by simp; omega
          have h2b : decide (n ≤ 4) = true := by simp; omega
          rw [h2b] at hv
          go_wp2_with fail
          go_ret
          exact ⟨by rw [hv.out]; rfl, HB.out⟩
        · have h2 : decide ((n : Int) ≤ (4 : Int)) = false := by simp; omega
          have h2b : decide (n ≤ 4) = false := by simp; omega
          rw [h2b] at hv
          go_wp2_with fail
          go_ret
          exact ⟨by rw [hv.out]; rfl, HB.out⟩
      · have h1 : decide ((1 : Int) ≤ (n : Int)) = false := by simp; omega
        have h1b : decide (1 ≤ n) = false := by simp; omega
        rw [h1b] at hv
        go_wp2_with fail
        go_ret
        exact ⟨by rw [hv.out]; rfl, HB.out⟩
    obtain ⟨p, hpk⟩ : ∃ p, ps[k]? = some p := ⟨_, List.getElem?_eq_getElem hlt⟩
    obtain ⟨ad, rfl, hcell⟩ := (HR.out.below HB.out).get hpk
    have hpl2 := HS.out p (List.mem_of_getElem? hpk)
    have hst := Lib.hid (redsB_at ps k p hpk)
    have HP := Lib.hid hpk
    have cu := ruparse_walk ⟨p.toArray⟩ p (by simp) wr (by rw [size_mks]; omega)
    have n1 : (uriE p).1 ≠ 0 → leadB p = false := lead_no1
    have n2 : (uriE p).2.q.length ≠ 0 → leadB p = false := lead_no2
    have n3 : ¬ p.length ≤ 256 → leadB p = false := lead_no3
    have n4 : (uriE p).1 = 0 → (uriE p).2.q.length = 0 → p.length ≤ 256 → leadB p = true := lead_yes
    unfold UriR at cu
    generalize uriE p = z at cu n1 n2 n3 n4
    obtain ⟨m, u⟩ := z
    replace cu := Lib.hid cu
    simp only at n1 n2 n3 n4
    have hsz := size_mks p
    have HN1 := Lib.hid n1
    have HN2 := Lib.hid n2
    have HN3 := Lib.hid n3
    have HN4 := Lib.hid n4
    clear hpk n1 n2 n3 n4
    go_wp2_with fail
    refine cu.out.mono ?_
    rintro _ w1 ⟨A1, c1, rfl, hf1, hbn⟩
    have hb1 := below_next HB.out hbn
    have HB2 := Lib.hid (hb1.alloc hb1.size (.cells (u.arr A1 c1) 60))
    have hk2 := Blk.new w1 60 (u.arr A1 c1)
    have hc2 := (boxU hk2).2.2.2
    have hbl := hk2.lt
    go_upto_region 5 with (refine wpList_store_ur w1 rfl _ _ rfl rfl rfl ?_)
    generalize w1.alloc (.cells (u.arr A1 c1) 60) = w2 at HB2 hc2 hbl ⊢
    have HR2 := Lib.hid (HR.out.below HB2.out)
    obtain ⟨ad2, ea, hcell2⟩ := HR2.out.get HP.out
    injection ea with ea
    subst ea
    clear hb1 hbn hf1 hk2 cu hcell HB
    by_cases hm : m = 0
    case neg =>
      have hv : Hid (redB ps = false) := by show _ = _; rw [HV.out, ← hp.out, hst.out, HN1.out hm]; rfl
      have e1 : ((m : Int) != 0) = true := by rw [bne_iff_ne]; omega
      have e2 : ((m : Int) == 0) = false := by rw [beq_eq_false_iff_ne]; omega
      clear hm
      go_wp2_with fail
      go_ret
      exact ⟨by rw [hv.out]; rfl, HB2.out⟩
    subst hm
    by_cases hq : u.q.length = 0
    case neg =>
      have hv : Hid (redB ps = false) := by show _ = _; rw [HV.out, ← hp.out, hst.out, HN2.out hq]; rfl
      have e1 : decide ((0 : Int) < (u.q.length : Int)) = true := by simp; omega
      have e2 : decide (0 < u.q.length) = true := by simp; omega
      generalize u.q.length = qn at hc2 e1 e2
      clear hq
      go_wp2_with fail
      go_ret
      exact ⟨by rw [hv.out]; rfl, HB2.out⟩
    rw [hq] at hc2
    by_cases hl : p.length ≤ 256
    case neg =>
      have hv : Hid (redB ps = false) := by show _ = _; rw [HV.out, ← hp.out, hst.out, HN3.out hl]; rfl
      have e1 : decide ((256 : Int) < (p.length : Int)) = true := by simp; omega
      go_wp2_with fail
      go_ret
      exact ⟨by rw [hv.out]; rfl, HB2.out⟩
    have e1 : decide ((256 : Int) < (p.length : Int)) = false := by simp; omega
    have HL := Lib.hid (HN4.out rfl hq hl)
    clear hq hl
    go_wp2_with fail
    go_loopw [6] (fun jv wq => ∃ j : Nat, j ≤ k ∧ jv = .int .i64 j ∧ Hid (∀ i q, i < j → ps[i]? = some q → q ≠ p) ∧ Hid (Below w2.heap.size w2 wq)) (fun jv _ => k - (intOf jv).toNat)
    case atStart => exact ⟨0, by omega, rfl, fun i q hi => by omega, Below.refl _ _⟩
    case round =>
      obtain ⟨j, hj, rfl, hno, HBq⟩ := hrel
      have HB3 : Hid (Below w.heap.size w wr) := HB2.out.trans (HBq.out.mono HB2.out.size)
      by_cases hjk : j < k
      case neg =>
        obtain rfl : j = k := by omega
        have hin : (ps.take j).contains p = false := by
          rw [Bool.eq_false_iff, ne_eq, List.contains_iff_mem, List.mem_iff_getElem?]
          rintro ⟨i, hi⟩
          rw [List.getElem?_take] at hi
          split at hi
          · rename_i hij; exact hno.out i p hij hi rfl
          · simp at hi
        have hv : Hid (redsB (ps.take (j + 1)) (ps.drop (j + 1)) = redsB [] ps) := by show _ = _; rw [← hp.out, hst.out, HL.out, hin]; rfl
        clear hin
        go_wp2_with fail
        exact ⟨⟨j + 1, by omega, by go_num, hv, HB3⟩, by simp [intOf]; omega⟩
      obtain ⟨q, hqj⟩ : ∃ q, ps[j]? = some q := ⟨_, List.getElem?_eq_getElem (by omega)⟩
      have HRq := HR2.out.below HBq.out
      obtain ⟨a1, ea1, hcq⟩ := HRq.get hqj
      obtain ⟨a2, ea2, hcp⟩ := HRq.get HP.out
      injection ea1 with ea1
      injection ea2 with ea2
      subst ea1
      subst ea2
      have he := eq_strL q p
      have HQ := Lib.hid hqj
      have hjl : j < ps.length := by omega
      obtain ⟨bq, hbq⟩ : ∃ bq, decide (q = p) = bq := ⟨_, rfl⟩
      rw [hbq] at he
      have HBQ := Lib.hid hbq
      clear HRq hqj hbq hcell2
      generalize hx : (⟨q.toArray⟩ : ByteArray) = x at he hcq
      generalize hy : (⟨p.toArray⟩ : ByteArray) = y at he hcp
      clear hx hy
      cases bq
      all_goals
        go_wp2_with fail
        refine wp_region_held_drew (S := fun W => W.cell? (ad.add j) = some (.string x) ∧ W.cell? (ad.add k) = some (.string y)) (by kernel_rfl) ⟨hcq, hcp⟩ (fun hHeld => ?_)
        first | (refine wpAnyH_take (i := 0) (v := _) rfl (by kernel_rfl) (by kernel_rfl) (by kernel_rfl) (fun _ _ _ h => h) (Or.inr ⟨?_, rfl⟩) (by assumption) ?_; rfl) | (refine wpAnyH_take (i := 0) (v := ?_) rfl (by kernel_rfl) (by kernel_rfl) (by kernel_rfl) (fun _ _ _ h => h) (Or.inl ⟨?_, ?_⟩) (by assumption) ?_; rotate_left; rfl; focus (intro w hSw; (try dsimp only at hSw); go_simp; all_goals (with_reducible rfl)))
        (try simp only [List.getElem_toArray, List.getElem_cons_zero, List.getElem_cons_succ, Act.put, List.setIfInBounds_toArray, List.set_cons_zero, List.set_cons_succ])
        first | (refine wpAnyH_take (i := 1) (v := _) rfl (by kernel_rfl) (by kernel_rfl) (by kernel_rfl) (fun _ _ _ h => h) (Or.inr ⟨?_, rfl⟩) (by assumption) ?_; rfl) | (refine wpAnyH_take (i := 1) (v := ?_) rfl (by kernel_rfl) (by kernel_rfl) (by kernel_rfl) (fun _ _ _ h => h) (Or.inl ⟨?_, ?_⟩) (by assumption) ?_; rotate_left; rfl; focus (intro w hSw; (try dsimp only at hSw); go_simp; all_goals (with_reducible rfl)))
        (try simp only [List.getElem_toArray, List.getElem_cons_zero, List.getElem_cons_succ, Act.put, List.setIfInBounds_toArray, List.set_cons_zero, List.set_cons_succ])
        first | (refine wpAnyH_take (i := 2) (v := _) rfl (by kernel_rfl) (by kernel_rfl) (by kernel_rfl) (fun _ _ _ h => h) (Or.inr ⟨?_, rfl⟩) (by assumption) ?_; rfl) | (refine wpAnyH_take (i := 2) (v := ?_) rfl (by kernel_rfl) (by kernel_rfl) (by kernel_rfl) (fun _ _ _ h => h) (Or.inl ⟨?_, ?_⟩) (by assumption) ?_; rotate_left; rfl; focus (intro w hSw; (try dsimp only at hSw); go_simp; all_goals (with_reducible rfl)))
        (try simp only [List.getElem_toArray, List.getElem_cons_zero, List.getElem_cons_succ, Act.put, List.setIfInBounds_toArray, List.set_cons_zero, List.set_cons_succ])
        first | (refine wpAnyH_take (i := 3) (v := _) rfl (by kernel_rfl) (by kernel_rfl) (by kernel_rfl) (fun _ _ _ h => h) (Or.inr ⟨?_, rfl⟩) (by assumption) ?_; rfl) | (refine wpAnyH_take (i := 3) (v := ?_) rfl (by kernel_rfl) (by kernel_rfl) (by kernel_rfl) (fun _ _ _ h => h) (Or.inl ⟨?_, ?_⟩) (by assumption) ?_; rotate_left; rfl; focus (intro w hSw; (try dsimp only at hSw); go_simp; all_goals (with_reducible rfl)))
        (try simp only [List.getElem_toArray, List.getElem_cons_zero, List.getElem_cons_succ, Act.put, List.setIfInBounds_toArray, List.set_cons_zero, List.set_cons_succ])
        first | (refine wpAnyH_take (i := 4) (v := _) rfl (by kernel_rfl) (by kernel_rfl) (by kernel_rfl) (fun _ _ _ h => h) (Or.inr ⟨?_, rfl⟩) (by assumption) ?_; rfl) | (refine wpAnyH_take (i := 4) (v := ?_) rfl (by kernel_rfl) (by kernel_rfl) (by kernel_rfl) (fun _ _ _ h => h) (Or.inl ⟨?_, ?_⟩) (by assumption) ?_; rotate_left; rfl; focus (intro w hSw; (try dsimp only at hSw); go_simp; all_goals (with_reducible rfl)))
        (try simp only [List.getElem_toArray, List.getElem_cons_zero, List.getElem_cons_succ, Act.put, List.setIfInBounds_toArray, List.set_cons_zero, List.set_cons_succ])
        first | (refine wpAnyH_take (i := 5) (v := _) rfl (by kernel_rfl) (by kernel_rfl) (by kernel_rfl) (fun _ _ _ h => h) (Or.inr ⟨?_, rfl⟩) (by assumption) ?_; rfl) | (refine wpAnyH_take (i := 5) (v := ?_) rfl (by kernel_rfl) (by kernel_rfl) (by kernel_rfl) (fun _ _ _ h => h) (Or.inl ⟨?_, ?_⟩) (by assumption) ?_; rotate_left; rfl; focus (intro w hSw; (try dsimp only at hSw); go_simp; all_goals (with_reducible rfl)))
        (try simp only [List.getElem_toArray, List.getElem_cons_zero, List.getElem_cons_succ, Act.put, List.setIfInBounds_toArray, List.set_cons_zero, List.set_cons_succ])
        first | (refine wpAnyH_take (i := 6) (v := _) rfl (by kernel_rfl) (by kernel_rfl) (by kernel_rfl) (fun _ _ _ h => h) (Or.inr ⟨?_, rfl⟩) (by assumption) ?_; rfl) | (refine wpAnyH_take (i := 6) (v := ?_) rfl (by kernel_rfl) (by kernel_rfl) (by kernel_rfl) (fun _ _ _ h => h) (Or.inl ⟨?_, ?_⟩) (by assumption) ?_; rotate_left; rfl; focus (intro w hSw; (try dsimp only at hSw); go_simp; all_goals (with_reducible rfl)))
        (try simp only [List.getElem_toArray, List.getElem_cons_zero, List.getElem_cons_succ, Act.put, List.setIfInBounds_toArray, List.set_cons_zero, List.set_cons_succ])
        first | (refine wpAnyH_take (i := 7) (v := _) rfl (by kernel_rfl) (by kernel_rfl) (by kernel_rfl) (fun _ _ _ h => h) (Or.inr ⟨?_, rfl⟩) (by assumption) ?_; rfl) | (refine wpAnyH_take (i := 7) (v := ?_) rfl (by kernel_rfl) (by kernel_rfl) (by kernel_rfl) (fun _ _ _ h => h) (Or.inl ⟨?_, ?_⟩) (by assumption) ?_; rotate_left; rfl; focus (intro w hSw; (try dsimp only at hSw); go_simp; all_goals (with_reducible rfl)))
        (try simp only [List.getElem_toArray, List.getElem_cons_zero, List.getElem_cons_succ, Act.put, List.setIfInBounds_toArray, List.set_cons_zero, List.set_cons_succ])
        first | (refine wpAnyH_take (i := 8) (v := _) rfl (by kernel_rfl) (by kernel_rfl) (by kernel_rfl) (fun _ _ _ h => h) (Or.inr ⟨?_, rfl⟩) (by assumption) ?_; rfl) | (refine wpAnyH_take (i := 8) (v := ?_) rfl (by kernel_rfl) (by kernel_rfl) (by kernel_rfl) (fun _ _ _ h => h) (Or.inl ⟨?_, ?_⟩) (by assumption) ?_; rotate_left; rfl; focus (intro w hSw; (try dsimp only at hSw); go_simp; all_goals (with_reducible rfl)))
        (try simp only [List.getElem_toArray, List.getElem_cons_zero, List.getElem_cons_succ, Act.put, List.setIfInBounds_toArray, List.set_cons_zero, List.set_cons_succ])
        refine wpAnyH_done (by kernel_rfl) ?_ _
        clear hHeld
        have HB4 := Lib.hid (below_drewN HB3.out 1)
        have HB5 := Lib.hid (below_drewN HBq.out 1)
      · have HN : Hid (∀ i q, i < j + 1 → ps[i]? = some q → q ≠ p) := by
          show ∀ i q, i < j + 1 → _
          intro i r hi hr
          rcases Nat.lt_or_ge i j with h | h
          · exact hno.out i r h hr
          · rw [show i = j by omega, HQ.out] at hr
            injection hr with e
            rw [← e]
            exact of_decide_eq_false HBQ.out
        go_wp2_with fail
        exact ⟨⟨j + 1, by omega, by go_num, HN, HB5⟩, by simp [intOf]; omega⟩
      · have hin : (ps.take k).contains p = true := by
          rw [List.contains_iff_mem, List.mem_iff_getElem?]
          exact ⟨j, by rw [List.getElem?_take, if_pos hjk, HQ.out, of_decide_eq_true HBQ.out]⟩
        have hv : Hid (redB ps = false) := by show _ = _; rw [HV.out, ← hp.out, hst.out, HL.out, hin]; rfl
        clear hin
        go_wp2_with fail
        go_ret
        exact ⟨by rw [hv.out]; rfl, HB4.out⟩
end Go.Proofs.YtekbdfnbnpmclaaGreatDoor

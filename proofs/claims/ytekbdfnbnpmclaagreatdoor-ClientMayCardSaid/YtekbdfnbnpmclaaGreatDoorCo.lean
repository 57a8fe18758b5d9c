/- countersignref17.May. No condition of its own. -/
import Derived.Test.YtekbdfnbnpmclaaGreatDoorCm
import Derived.Test.YtekbdfnbnpmclaaGreatDoorCf
set_option linter.unusedVariables false
set_option linter.unusedSimpArgs false
set_option maxRecDepth 20000
namespace Go.Proofs.YtekbdfnbnpmclaaGreatDoor
open Go.RowKit Pc
theorem ClsAt.front {w : World} {A : Option Addr} {c : Nat} {cs : List Cl} (h : ClsAt w A c cs) (k : Nat) (hk : k ≤ cs.length) : ClsAt w A c (cs.take k) := by
  have hl : (cs.take k).length = k := by rw [List.length_take]; omega
  refine ⟨by rw [hl]; have := h.1; omega, ?_, fun x hx => h.2.2 x (List.mem_of_mem_take hx)⟩
  have := h.2.1.front hk
  rw [hl, cCells_take]
  exact this
theorem find_any (q : List UInt8) (cs : List Cl) : ∃ z : Int, findV q cs = .tuple #[.int .i64 z, .bool (cs.any (isId q))] := by
  have hf : findI q cs = cs.findIdx? (isId q) := rfl
  unfold findV
  cases h : findI q cs with
  | none =>
    rw [hf, List.findIdx?_eq_none_iff] at h
    have : cs.any (isId q) = false := by
      rw [List.any_eq_false]
      intro x hx
      simp [h x hx]
    exact ⟨0, by rw [this]⟩
  | some k =>
    rw [hf, List.findIdx?_eq_some_iff_getElem] at h
    obtain ⟨hlt, hp, _⟩ := h
    have : cs.any (isId q) = true := List.any_eq_true.2 ⟨_, List.getElem_mem hlt, hp⟩
    exact ⟨(k : Int) + 1, by rw [this]⟩
set_option maxHeartbeats 16000000 in
theorem rmay_client (cs : List Cl) (A : Option Addr) (c : Nat) (w : World) (hr : ClsAt w A c cs) (hs : ClsShort cs) :
    Calls Tryz.prog 8 #[.slice A cs.length c] w fun e w' => e = .returned (.bool (clMayB cs)) ∧ Below w.heap.size w w' := by
  obtain ⟨hl, hsh⟩ := hs
  have HS := Lib.hid hsh
  have HR := Lib.hid hr
  have HV : Hid (clMayB cs = (decide (cs.length ≤ 8) && maysB [] cs)) := rfl
  have hcl := hr.1
  clear hr hsh
  by_cases h8 : 8 < cs.length
  · have hd8 : decide ((8 : Int) < (cs.length : Int)) = true := by simp; omega
    have hv : Hid (clMayB cs = false) := by show _ = _; rw [HV.out, show decide (cs.length ≤ 8) = false by simp; omega, Bool.false_and]
    go_enter Tryz.func8, Tryz.ntmps8
    go_wp2_with fail
    go_ret
    exact ⟨by rw [hv.out]; rfl, Below.refl _ _⟩
  have hd8 : decide ((8 : Int) < (cs.length : Int)) = false := by simp; omega
  have HW : Hid (clMayB cs = maysB [] cs) := by show _ = _; rw [HV.out, show decide (cs.length ≤ 8) = true by simp; omega, Bool.true_and]
  go_enter Tryz.func8, Tryz.ntmps8
  go_wp2_with fail
  go_loopw [3] (fun iv wr => ∃ k : Nat, k ≤ cs.length ∧ iv = .int .i64 k ∧ Hid (maysB (cs.take k) (cs.drop k) = maysB [] cs) ∧ Hid (Below w.heap.size w wr)) (fun iv _ => cs.length - (intOf iv).toNat)
  case atStart => exact ⟨0, by omega, rfl, rfl, Below.refl _ _⟩
  case round =>
    obtain ⟨k, hk, rfl, hp, HB⟩ := hrel
    by_cases hlt : k < cs.length
    case neg =>
      obtain rfl : k = cs.length := by omega
      have hv : Hid (clMayB cs = true) := by show _ = _; rw [HW.out, ← hp.out, maysB_end]
      go_wp2_with fail
      go_ret
      exact ⟨by rw [hv.out]; rfl, HB.out⟩
    obtain ⟨f, hfk⟩ : ∃ f, cs[k]? = some f := ⟨_, List.getElem?_eq_getElem hlt⟩
    have hmem := List.mem_of_getElem? hfk
    have hR := HR.out.below HB.out
    obtain ⟨ad, rfl⟩ : ∃ ad, A = some ad := by obtain ⟨ad, h, _⟩ := hR.2.1.2 (by omega); exact ⟨ad, h⟩
    obtain ⟨hx0, hx1, hx2, hx3⟩ := cl_four hR.2.1 hfk
    obtain ⟨hs1, hs2, hs3⟩ := HS.out f hmem
    have hst := Lib.hid (maysB_at cs k f hfk)
    have HF := Lib.hid hfk
    have ho : oneB f = (S16.wordB f.id && (decide (0 ≤ f.sec) && (decide (f.sec ≤ 1073741824) && (redB f.red && decide (S16.scopeE (splitC 32 f.sc) = 0))))) := rfl
    have cs1 := Lib.hid (fun W => S16.rparse_walk ⟨f.sc.toArray⟩ f.sc (by simp) W (by rw [size_mks]; omega))
    have cw := Lib.hid (fun W => S16.rword_walk ⟨f.id.toArray⟩ f.id (by simp) W (by rw [size_mks]; omega))
    have cr := Lib.hid (fun W h => rredirects_walk f.red f.ra f.rc W h hs1)
    obtain ⟨zf, ezf⟩ := find_any f.id (cs.take k)
    have cf := Lib.hid (fun W (h : ClsAt W (some ad) c cs) => rfind_walk f.id (cs.take k) (some ad) c W (h.front k (by omega)) (by rw [List.length_take]; omega))
    rw [ezf, show (cs.take k).length = k by rw [List.length_take]; omega] at cf
    generalize (cs.take k).any (isId f.id) = any at cf hst
    generalize S16.wordB f.id = x1 at cw ho
    generalize redB f.red = x4 at cr ho
    have h5a : (((S16.scopeE (splitC 32 f.sc) : Nat) : Int) != 0) = !decide (S16.scopeE (splitC 32 f.sc) = 0) := by rw [Bool.eq_iff_iff]; simp
    generalize hse : S16.scopeE (splitC 32 f.sc) = se at h5a ho
    have HSE := Lib.hid hse
    have HO := Lib.hid ho
    clear hfk ezf hs2 hs3 ho hse hR
    go_wp2_with fail
    refine (cs1.out _).mono ?_
    intro e w1 hpr
    obtain ⟨v, rfl, hbn⟩ := parseR_both hpr
    rw [HSE.out]
    have HB2 := Lib.hid (below_next HB.out hbn)
    have HR2 := Lib.hid (HR.out.below HB2.out)
    obtain ⟨hx0, hx1, hx2, hx3⟩ := cl_four HR2.out.2.1 HF.out
    have cf1 := Lib.hid (cf.out w1.drew (ClsAt.drewN HR2.out 1))
    have hkc : k ≤ c := by omega
    clear hpr hbn cf
    go_wp2_with fail
    refine wp_region_held_drew (S := fun W => W.cell? (ad.add (k * 4)) = some (.string ⟨f.id.toArray⟩)) (by kernel_rfl) hx0 (fun hHeld => ?_)
    first | (refine wpAnyH_take (i := 0) (v := _) rfl (by kernel_rfl) (by kernel_rfl) (by kernel_rfl) (fun _ _ _ h => h) (Or.inr ⟨?_, rfl⟩) (by assumption) ?_; rfl) | (refine wpAnyH_take (i := 0) (v := ?_) rfl (by kernel_rfl) (by kernel_rfl) (by kernel_rfl) (fun _ _ _ h => h) (Or.inl ⟨?_, ?_⟩) (by assumption) ?_; rotate_left; rfl; focus (intro w hSw; (try dsimp only at hSw); go_simp; all_goals (with_reducible rfl)))
    (try simp only [List.getElem_toArray, List.getElem_cons_zero, List.getElem_cons_succ, Act.put, List.setIfInBounds_toArray, List.set_cons_zero, List.set_cons_succ])
    first | (refine wpAnyH_take (i := 1) (v := _) rfl (by kernel_rfl) (by kernel_rfl) (by kernel_rfl) (fun _ _ _ h => h) (Or.inr ⟨?_, rfl⟩) (by assumption) ?_; rfl) | (refine wpAnyH_take (i := 1) (v := ?_) rfl (by kernel_rfl) (by kernel_rfl) (by kernel_rfl) (fun _ _ _ h => h) (Or.inl ⟨?_, ?_⟩) (by assumption) ?_; rotate_left; rfl; focus (intro w hSw; (try dsimp only at hSw); go_simp; all_goals (with_reducible rfl)))
    (try simp only [List.getElem_toArray, List.getElem_cons_zero, List.getElem_cons_succ, Act.put, List.setIfInBounds_toArray, List.set_cons_zero, List.set_cons_succ])
    first | (refine wpAnyH_take (i := 2) (v := _) rfl (by kernel_rfl) (by kernel_rfl) (by kernel_rfl) (fun _ _ _ h => h) (Or.inr ⟨?_, rfl⟩) (by assumption) ?_; rfl) | (refine wpAnyH_take (i := 2) (v := ?_) rfl (by kernel_rfl) (by kernel_rfl) (by kernel_rfl) (fun _ _ _ h => h) (Or.inl ⟨?_, ?_⟩) (by assumption) ?_; rotate_left; rfl; focus (intro w hSw; (try dsimp only at hSw); go_simp; all_goals (with_reducible rfl)))
    (try simp only [List.getElem_toArray, List.getElem_cons_zero, List.getElem_cons_succ, Act.put, List.setIfInBounds_toArray, List.set_cons_zero, List.set_cons_succ])
    first | (refine wpAnyH_take (i := 3) (v := _) rfl (by kernel_rfl) (by kernel_rfl) (by kernel_rfl) (fun _ _ _ h => h) (Or.inr ⟨?_, rfl⟩) (by assumption) ?_; rfl) | (refine wpAnyH_take (i := 3) (v := ?_) rfl (by kernel_rfl) (by kernel_rfl) (by kernel_rfl) (fun _ _ _ h => h) (Or.inl ⟨?_, ?_⟩) (by assumption) ?_; rotate_left; rfl; focus (intro w hSw; (try dsimp only at hSw); go_simp; all_goals (with_reducible rfl)))
    (try simp only [List.getElem_toArray, List.getElem_cons_zero, List.getElem_cons_succ, Act.put, List.setIfInBounds_toArray, List.set_cons_zero, List.set_cons_succ])
    first | (refine wpAnyH_take (i := 4) (v := _) rfl (by kernel_rfl) (by kernel_rfl) (by kernel_rfl) (fun _ _ _ h => h) (Or.inr ⟨?_, rfl⟩) (by assumption) ?_; rfl) | (refine wpAnyH_take (i := 4) (v := ?_) rfl (by kernel_rfl) (by kernel_rfl) (by kernel_rfl) (fun _ _ _ h => h) (Or.inl ⟨?_, ?_⟩) (by assumption) ?_; rotate_left; rfl; focus (intro w hSw; (try dsimp only at hSw); go_simp; all_goals (with_reducible rfl)))
    (try simp only [List.getElem_toArray, List.getElem_cons_zero, List.getElem_cons_succ, Act.put, List.setIfInBounds_toArray, List.set_cons_zero, List.set_cons_succ])
    first | (refine wpAnyH_take (i := 5) (v := _) rfl (by kernel_rfl) (by kernel_rfl) (by kernel_rfl) (fun _ _ _ h => h) (Or.inr ⟨?_, rfl⟩) (by assumption) ?_; rfl) | (refine wpAnyH_take (i := 5) (v := ?_) rfl (by kernel_rfl) (by kernel_rfl) (by kernel_rfl) (fun _ _ _ h => h) (Or.inl ⟨?_, ?_⟩) (by assumption) ?_; rotate_left; rfl; focus (intro w hSw; (try dsimp only at hSw); go_simp; all_goals (with_reducible rfl)))
    (try simp only [List.getElem_toArray, List.getElem_cons_zero, List.getElem_cons_succ, Act.put, List.setIfInBounds_toArray, List.set_cons_zero, List.set_cons_succ])
    first | (refine wpAnyH_take (i := 6) (v := _) rfl (by kernel_rfl) (by kernel_rfl) (by kernel_rfl) (fun _ _ _ h => h) (Or.inr ⟨?_, rfl⟩) (by assumption) ?_; rfl) | (refine wpAnyH_take (i := 6) (v := ?_) rfl (by kernel_rfl) (by kernel_rfl) (by kernel_rfl) (fun _ _ _ h => h) (Or.inl ⟨?_, ?_⟩) (by assumption) ?_; rotate_left; rfl; focus (intro w hSw; (try dsimp only at hSw); go_simp; all_goals (with_reducible rfl)))
    (try simp only [List.getElem_toArray, List.getElem_cons_zero, List.getElem_cons_succ, Act.put, List.setIfInBounds_toArray, List.set_cons_zero, List.set_cons_succ])
    first | (refine wpAnyH_take (i := 7) (v := _) rfl (by kernel_rfl) (by kernel_rfl) (by kernel_rfl) (fun _ _ _ h => h) (Or.inr ⟨?_, rfl⟩) (by assumption) ?_; rfl) | (refine wpAnyH_take (i := 7) (v := ?_) rfl (by kernel_rfl) (by kernel_rfl) (by kernel_rfl) (fun _ _ _ h => h) (Or.inl ⟨?_, ?_⟩) (by assumption) ?_; rotate_left; rfl; focus (intro w hSw; (try dsimp only at hSw); go_simp; all_goals (with_reducible rfl)))
    (try simp only [List.getElem_toArray, List.getElem_cons_zero, List.getElem_cons_succ, Act.put, List.setIfInBounds_toArray, List.set_cons_zero, List.set_cons_succ])
    refine wpAnyH_ready (rs := [8]) (by kernel_rfl) (by simp) ?_
    refine AllReadyH.cons rfl (fun K hK => ?_) AllReadyH.nil
    go_simp
    go_at_call 17
    with_reducible refine cf1.out.mono ?_
    rintro _ w2 ⟨rfl, rfl⟩
    refine hK.out _ _ hx0 (fun hHeld => ?_)
    clear hK K cf1
    (try simp only [List.getElem_toArray, List.getElem_cons_zero, List.getElem_cons_succ, Act.put, List.setIfInBounds_toArray, List.set_cons_zero, List.set_cons_succ])
    first | (refine wpAnyH_take (i := 9) (v := _) rfl (by kernel_rfl) (by kernel_rfl) (by kernel_rfl) (fun _ _ _ h => h) (Or.inr ⟨?_, rfl⟩) (by assumption) ?_; rfl) | (refine wpAnyH_take (i := 9) (v := ?_) rfl (by kernel_rfl) (by kernel_rfl) (by kernel_rfl) (fun _ _ _ h => h) (Or.inl ⟨?_, ?_⟩) (by assumption) ?_; rotate_left; rfl; focus (intro w hSw; (try dsimp only at hSw); go_simp; all_goals (with_reducible rfl)))
    (try simp only [List.getElem_toArray, List.getElem_cons_zero, List.getElem_cons_succ, Act.put, List.setIfInBounds_toArray, List.set_cons_zero, List.set_cons_succ])
    first | (refine wpAnyH_take (i := 10) (v := _) rfl (by kernel_rfl) (by kernel_rfl) (by kernel_rfl) (fun _ _ _ h => h) (Or.inr ⟨?_, rfl⟩) (by assumption) ?_; rfl) | (refine wpAnyH_take (i := 10) (v := ?_) rfl (by kernel_rfl) (by kernel_rfl) (by kernel_rfl) (fun _ _ _ h => h) (Or.inl ⟨?_, ?_⟩) (by assumption) ?_; rotate_left; rfl; focus (intro w hSw; (try dsimp only at hSw); go_simp; all_goals (with_reducible rfl)))
    (try simp only [List.getElem_toArray, List.getElem_cons_zero, List.getElem_cons_succ, Act.put, List.setIfInBounds_toArray, List.set_cons_zero, List.set_cons_succ])
    first | (refine wpAnyH_take (i := 11) (v := _) rfl (by kernel_rfl) (by kernel_rfl) (by kernel_rfl) (fun _ _ _ h => h) (Or.inr ⟨?_, rfl⟩) (by assumption) ?_; rfl) | (refine wpAnyH_take (i := 11) (v := ?_) rfl (by kernel_rfl) (by kernel_rfl) (by kernel_rfl) (fun _ _ _ h => h) (Or.inl ⟨?_, ?_⟩) (by assumption) ?_; rotate_left; rfl; focus (intro w hSw; (try dsimp only at hSw); go_simp; all_goals (with_reducible rfl)))
    (try simp only [List.getElem_toArray, List.getElem_cons_zero, List.getElem_cons_succ, Act.put, List.setIfInBounds_toArray, List.set_cons_zero, List.set_cons_succ])
    first | (refine wpAnyH_take (i := 12) (v := _) rfl (by kernel_rfl) (by kernel_rfl) (by kernel_rfl) (fun _ _ _ h => h) (Or.inr ⟨?_, rfl⟩) (by assumption) ?_; rfl) | (refine wpAnyH_take (i := 12) (v := ?_) rfl (by kernel_rfl) (by kernel_rfl) (by kernel_rfl) (fun _ _ _ h => h) (Or.inl ⟨?_, ?_⟩) (by assumption) ?_; rotate_left; rfl; focus (intro w hSw; (try dsimp only at hSw); go_simp; all_goals (with_reducible rfl)))
    (try simp only [List.getElem_toArray, List.getElem_cons_zero, List.getElem_cons_succ, Act.put, List.setIfInBounds_toArray, List.set_cons_zero, List.set_cons_succ])
    first | (refine wpAnyH_take (i := 13) (v := _) rfl (by kernel_rfl) (by kernel_rfl) (by kernel_rfl) (fun _ _ _ h => h) (Or.inr ⟨?_, rfl⟩) (by assumption) ?_; rfl) | (refine wpAnyH_take (i := 13) (v := ?_) rfl (by kernel_rfl) (by kernel_rfl) (by kernel_rfl) (fun _ _ _ h => h) (Or.inl ⟨?_, ?_⟩) (by assumption) ?_; rotate_left; rfl; focus (intro w hSw; (try dsimp only at hSw); go_simp; all_goals (with_reducible rfl)))
    (try simp only [List.getElem_toArray, List.getElem_cons_zero, List.getElem_cons_succ, Act.put, List.setIfInBounds_toArray, List.set_cons_zero, List.set_cons_succ])
    refine wpAnyH_done (by kernel_rfl) ?_ _
    clear hHeld
    have HB3 := Lib.hid (below_drewN HB2.out 1)
    have hR3 : ClsAt w1.drew (some ad) c cs := ClsAt.drewN HR2.out 1
    have HR3 := Lib.hid hR3
    change Hid (Below w.heap.size w w1.drew) at HB3
    clear hR3 HR2 HB2 hx0 hx1 hx2 hx3 HB
    generalize w1.drew = w3 at HB3 HR3 ⊢
    obtain ⟨hx0, hx1, hx2, hx3⟩ := cl_four HR3.out.2.1 HF.out
    have cr3 := Lib.hid (cr.out w3 (HR3.out.2.2 f hmem))
    have h5 : Hid (oneB f = (x1 && (decide (0 ≤ f.sec) && (decide (f.sec ≤ 1073741824) && (x4 && decide (se = 0)))))) := HO.out
    generalize decide (se = 0) = x5 at h5 h5a
    have H5a := Lib.hid h5a
    clear cr HO HSE h5a
    cases x1
    case false =>
      have hv : Hid (clMayB cs = false) := by show _ = _; rw [HW.out, ← hp.out, hst.out, h5.out]; cases any <;> rfl
      go_wp2_with fail
      refine (cw.out _).mono ?_
      rintro _ w4 ⟨rfl, rfl⟩
      go_wp2_with fail
      go_ret
      exact ⟨by rw [hv.out]; rfl, HB3.out⟩
    cases any
    case true =>
      have hv : Hid (clMayB cs = false) := by show _ = _; rw [HW.out, ← hp.out, hst.out]; rfl
      go_wp2_with fail
      refine (cw.out _).mono ?_
      rintro _ w4 ⟨rfl, rfl⟩
      go_wp2_with fail
      go_ret
      exact ⟨by rw [hv.out]; rfl, HB3.out⟩
    by_cases hz : f.sec < 0
    · have e1 : decide (f.sec < (0 : Int)) = true := by simp; omega
      have hv : Hid (clMayB cs = false) := by show _ = _; rw [HW.out, ← hp.out, hst.out, h5.out, show decide ((0 : Int) ≤ f.sec) = false by simp; omega]; rfl
      clear hz
      go_wp2_with fail
      refine (cw.out _).mono ?_
      rintro _ w4 ⟨rfl, rfl⟩
      go_wp2_with fail
      go_ret
      exact ⟨by rw [hv.out]; rfl, HB3.out⟩
    have e1 : decide (f.sec < (0 : Int)) = false := by simp; omega
    have e1b : decide ((0 : Int) ≤ f.sec) = true := by simp; omega
    by_cases hy : 1073741824 < f.sec
    · have e2 : decide ((1073741824 : Int) < f.sec) = true := by simp; omega
      have hv : Hid (clMayB cs = false) := by show _ = _; rw [HW.out, ← hp.out, hst.out, h5.out, show decide (f.sec ≤ (1073741824 : Int)) = false by simp; omega, e1b]; rfl
      clear hy hz e1b
      go_wp2_with fail
      refine (cw.out _).mono ?_
      rintro _ w4 ⟨rfl, rfl⟩
      go_wp2_with fail
      go_ret
      exact ⟨by rw [hv.out]; rfl, HB3.out⟩
    have e2 : decide ((1073741824 : Int) < f.sec) = false := by simp; omega
    have e2b : decide (f.sec ≤ (1073741824 : Int)) = true := by simp; omega
    rw [e1b, e2b] at h5
    clear hy hz e1b e2b
    cases x4
    case false =>
      have hv : Hid (clMayB cs = false) := by show _ = _; rw [HW.out, ← hp.out, hst.out, h5.out]; rfl
      go_wp2_with fail
      refine (cw.out _).mono ?_
      rintro _ w4 ⟨rfl, rfl⟩
      go_wp2_with fail
      refine cr3.out.mono ?_
      rintro _ w5 ⟨rfl, hbn⟩
      have HB5 := Lib.hid (below_next HB3.out hbn)
      clear hbn cr3
      go_wp2_with fail
      go_ret
      exact ⟨by rw [hv.out]; rfl, HB5.out⟩
    cases x5
    case false =>
      have hv : Hid (clMayB cs = false) := by show _ = _; rw [HW.out, ← hp.out, hst.out, h5.out]; rfl
      have h5b : ((se : Int) != 0) = true := H5a.out
      have h5c : ((se : Int) == 0) = false := by rw [bne_iff_ne] at h5b; rw [beq_eq_false_iff_ne]; exact h5b
      go_wp2_with fail
      refine (cw.out _).mono ?_
      rintro _ w4 ⟨rfl, rfl⟩
      go_wp2_with fail
      refine cr3.out.mono ?_
      rintro _ w5 ⟨rfl, hbn⟩
      have HB5 := Lib.hid (below_next HB3.out hbn)
      clear hbn cr3
      go_wp2_with fail
      go_ret
      exact ⟨by rw [hv.out]; rfl, HB5.out⟩
    have hv : Hid (maysB (cs.take (k + 1)) (cs.drop (k + 1)) = maysB [] cs) := by show _ = _; rw [← hp.out, hst.out, h5.out]; rfl
    have h5b : ((se : Int) != 0) = false := H5a.out
    have h5c : (se : Int) = 0 := by simpa using h5b
    go_wp2_with fail
    refine (cw.out _).mono ?_
    rintro _ w4 ⟨rfl, rfl⟩
    go_wp2_with fail
    refine cr3.out.mono ?_
    rintro _ w5 ⟨rfl, hbn⟩
    have HB5 := Lib.hid (below_next HB3.out hbn)
    clear hbn cr3
    go_wp2_with fail
    exact ⟨⟨k + 1, by omega, by go_num, hv, HB5⟩, by simp [intOf]; omega⟩
end Go.Proofs.YtekbdfnbnpmclaaGreatDoor

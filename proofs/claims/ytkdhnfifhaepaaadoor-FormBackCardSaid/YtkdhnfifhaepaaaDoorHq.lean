/- FormBack: what is printed of fields with unlike names is parsed; each is found by its name. Condition: the table of digits is laid. -/
import Derived.Test.YtkdhnfifhaepaaaDoorHo
import Derived.Test.YtkdhnfifhaepaaaDoorHs
import Derived.Deep.AppendLies
set_option linter.unusedVariables false
set_option linter.unusedSimpArgs false
set_option maxRecDepth 20000
namespace Go.Proofs.YtkdhnfifhaepaaaDoor
open Go.RowKit Pc
theorem fCells_set : ∀ (fs : List Fl) (i : Nat) (f : Fl) (y : List UInt8), fs[i]? = some f → (fCells fs).set (i * 2 + 1) (strV y) = fCells (fs.set i ⟨f.n, y⟩)
  | [], i, f, y, h => by simp at h
  | x :: fs, 0, f, y, h => by
    simp at h
    subst h
    rfl
  | x :: fs, i + 1, f, y, h => by
    have ih := fCells_set fs i f y (by simpa using h)
    have e1 : fCells (x :: fs) = strV x.n :: strV x.v :: fCells fs := rfl
    have e2 : fCells ((x :: fs).set (i + 1) ⟨f.n, y⟩) = strV x.n :: strV x.v :: fCells (fs.set i ⟨f.n, y⟩) := rfl
    rw [e1, e2, ← ih, show (i + 1) * 2 + 1 = (i * 2 + 1) + 1 + 1 by omega, List.set_cons_succ, List.set_cons_succ]
theorem hasF_names (q : List UInt8) (fs : List Fl) : hasF q fs = (fs.map Fl.n).any fun x => decide (x = q) := by
  rw [hasF, List.any_map]; rfl
theorem unlikeP_names {fs gs : List Fl} (h : fs.map Fl.n = gs.map Fl.n) (hu : UnlikeP fs) : UnlikeP gs := by
  intro i g hg
  have h1 : (fs.map Fl.n)[i]? = some g.n := by rw [h, List.getElem?_map, hg]; rfl
  rw [List.getElem?_map] at h1
  cases hf : fs[i]? with
  | none => rw [hf] at h1; cases h1
  | some f =>
    rw [hf] at h1
    injection h1 with h1
    obtain ⟨h2, h3⟩ := hu i f hf
    rw [hasF_names, List.map_take, h, ← List.map_take, ← hasF_names, h1] at h3
    rw [h1] at h2
    exact ⟨h2, h3⟩
theorem names_set (fs : List Fl) (i : Nat) (f : Fl) (y : List UInt8) (h : fs[i]? = some f) : fs.map Fl.n = (fs.set i ⟨f.n, y⟩).map Fl.n := by
  apply List.ext_getElem?
  intro j
  rw [List.getElem?_map, List.getElem?_map, List.getElem?_set]
  by_cases hj : i = j
  · subst hj
    have hl := (List.getElem?_eq_some_iff.1 h).1
    rw [if_pos rfl, if_pos hl, h]
    rfl
  · rw [if_neg hj]
theorem sumF_le {fs : List Fl} {m : Nat} (h : ∀ f ∈ fs, f.n.length + f.v.length ≤ m) : sumF fs ≤ m * fs.length := by
  induction fs with
  | nil => simp [sumF]
  | cons f fs ih =>
    have h1 := h f List.mem_cons_self
    have h2 := ih (fun g hg => h g (List.mem_cons_of_mem _ hg))
    rw [sumF_cons, List.length_cons, Nat.mul_succ]
    omega
/-- fields of the law, each not long -/
def SmallF (fs : List Fl) : Prop := ∀ f ∈ fs, f.n.length ≤ 5 ∧ f.v.length ≤ 100
theorem own_empty2 (w : World) (e : TypeId) : (w.alloc (.cells #[] e)).ownsRow w.heap.size e 2 (.slice (some ⟨w.heap.size, 0, none⟩) 0 0) 0 [] :=
  World.ownsRow_made w #[] 0 (Nat.le_refl _) (by decide) rfl
set_option maxHeartbeats 16000000 in
set_option maxRecDepth 100000 in
theorem formBack_law (zs : List Int) (A : Option Addr) (c : Nat) (ss : List ByteArray) (D : Option Addr) (m d : Nat) (w : World) (h : IntsIn w A c zs) (hm : ss.length = m) (hmd : m ≤ d) (hs : Reads w w.heap.size 1 D m (ss.map Value.string)) (hd : DigOk w) :
    Calls Tryd.prog 4 #[.slice A zs.length c, .slice D m d] w fun e w' => e = .returned (.bool true) ∧ Below w.heap.size w w' := by
  obtain ⟨i0, hi, hz0, hz1, hz2⟩ := infoS4 info_fl
  have HD := Lib.hid hd
  have H := Lib.hid h
  have HS := Lib.hid hs
  clear hd h hs
  go_enter Tryd.func4, Tryd.ntmps4
  go_wp2_with fail
  refine (known_walk w HD.out).mono ?_
  rintro _ w1 ⟨rfl, hb1⟩
  have hT := Lib.hid (H.out.below hb1)
  go_wp2_with fail
  refine (fields_walk zs A c 9 (by decide) w1 hT.out).mono ?_
  rintro _ w2 ⟨v, fs0, rfl, hown, hU, hl9, hsm, hbn⟩
  have HB := Lib.hid (below_next hb1 hbn)
  have hsz1 := hb1.size
  have HU : Hid (UnlikeP fs0) := hU
  have HM : Hid (SmallF fs0) := fun f hf => by have := hsm f hf; omega
  obtain ⟨A2, c2, rfl, _⟩ := FsAt.own hown (by omega)
  obtain ⟨N, hN⟩ : ∃ N, fs0.length = N := ⟨_, rfl⟩
  rw [hN] at hown hl9
  clear hb1 hbn hU hsm hT H
  rw [hN]
  go_wp2_with fail
  go_loopw [6] (fun iv wr => ∃ (i : Nat) (fs : List Fl), i ≤ N ∧ iv = .int .i64 i ∧ wr.ownsRow w1.heap.size 26 2 (.slice A2 N c2) N (fCells fs) ∧ Hid (fs.length = N) ∧ Hid (UnlikeP fs) ∧ Hid (SmallF fs) ∧ Hid (Below w.heap.size w wr)) (fun iv _ => N - (intOf iv).toNat)
  case atStart => exact ⟨0, fs0, by omega, rfl, hown, hN, HU, HM, HB⟩
  case round =>
    clear HU HM HB hown hN
    obtain ⟨i, fs, hi9, rfl, hown, hN, HU, HM, HB⟩ := hrel
    by_cases hlt : i < N ∧ i < m
    · obtain ⟨hlt, hlm⟩ := hlt
      obtain ⟨ad, u, rfl, had, hu, hcu⟩ := HS.out.at_ hlm
      obtain ⟨y, hy⟩ : ∃ y, ss[i]? = some y := ⟨_, List.getElem?_eq_getElem (by omega)⟩
      obtain rfl : u = .string y := by
        rw [List.getElem?_map, hy] at hu
        injection hu with hu
        exact hu.symm
      have hcy : wr.cell? (ad.add i) = some (.string y) := (HB.out.cell (by rw [block_of_add]; exact had)).trans hcu
      obtain ⟨g, cap, he, hg1, hg2⟩ := hown.form (by omega)
      injection he with he1 _ _
      subst he1
      obtain ⟨f, hf⟩ : ∃ f, fs[i]? = some f := ⟨_, List.getElem?_eq_getElem (by have := hN.out; omega)⟩
      have hcell : wr.cell? ⟨g, i * 2 + 1, none⟩ = some (.string ⟨f.v.toArray⟩) := by
        rw [hown.cellAt (i * 2 + 1) (by omega), show i * 2 + 1 = 2 * i + 1 by omega, fCells_at fs i f hf 1 (by decide)]
        rfl
      have hfz := hown.frozenAt (i * 2 + 1)
      clear hu hcu hy
      by_cases hy1 : y.size ≤ 100
      · have hyd : decide ((y.size : Int) ≤ 100) = true := by simp; omega
        obtain ⟨yl, rfl⟩ := str_of y
        rw [size_mks] at hy1
        obtain ⟨hst, hgr⟩ := hown.stored (i * 2 + 1) (strV yl)
        rw [fCells_set fs i f yl hf] at hst
        have HN : Hid ((fs.set i ⟨f.n, yl⟩).length = N) := by show _ = _; rw [List.length_set]; exact hN.out
        have HU2 : Hid (UnlikeP (fs.set i ⟨f.n, yl⟩)) := unlikeP_names (names_set fs i f yl hf) HU.out
        have hfm := HM.out f (List.mem_of_getElem? hf)
        have HM2 : Hid (SmallF (fs.set i ⟨f.n, yl⟩)) := by
          intro q hq
          obtain ⟨j, hj⟩ := List.mem_iff_getElem?.1 hq
          rw [List.getElem?_set] at hj
          split at hj
          · split at hj
            · injection hj with hj
              subst hj
              have := HM.out f (List.mem_of_getElem? hf)
              exact ⟨this.1, hy1⟩
            · cases hj
          · exact HM.out q (List.mem_of_getElem? hj)
        have HB2 := Lib.hid (HB.out.grown hgr HB.out.size (fun r e => by injection e with e; omega))
        have HST := Lib.hid hst
        clear hst hgr hf hfm
        go_wp2_with fail
        exact ⟨⟨i + 1, _, by omega, by go_num, HST.out, HN, HU2, HM2, HB2⟩, by simp [intOf]; omega⟩
      · have hyd : decide ((y.size : Int) ≤ 100) = false := by simp; omega
        clear hf
        go_wp2_with fail
        exact ⟨⟨i + 1, fs, by omega, by go_num, hown, hN, HU, HM, HB⟩, by simp [intOf]; omega⟩
    · have hcase : ¬ i < N ∨ i < N ∧ ¬ i < m := by omega
      have hN2 := hN.out
      subst hN2
      have hsum : sumF fs ≤ 105 * fs.length := sumF_le (fun f hf => by have := HM.out f hf; omega)
      have hfs0 : FsAt wr A2 c2 fs := by
        obtain ⟨A3, c3, e3, h3⟩ := FsAt.own hown (by omega)
        injection e3 with eA _ ec
        subst eA ec
        exact h3
      have HF := Lib.hid hfs0
      have cpr := Lib.hid (print_walk fs A2 c2 wr hfs0 (HD.out.below HB.out) (by omega))
      have hplen : (⟨(printL fs).toArray⟩ : ByteArray).size ≤ 10000 := by rw [size_mks]; have := printL_len fs; omega
      have E1 := Lib.hid (formE_print HU.out (by omega : fs.length ≤ 24))
      have cpa := Lib.hid (fun W h => parse_walk ⟨(printL fs).toArray⟩ (printL fs) (by simp) W h (by omega))
      clear hfs0 hown hlt
      rcases hcase with hlt1 | ⟨hlt1, hlt2⟩
      all_goals
        go_wp2_with fail
        refine cpr.out.mono ?_
        rintro _ w3 ⟨rfl, hbn⟩
        have HB3 := Lib.hid (below_next HB.out hbn)
        have HF3 := Lib.hid (HF.out.below hbn)
        clear hbn cpr
        go_wp2_with fail
        refine (cpa.out w3 (HD.out.below HB3.out)).mono ?_
        rintro _ w4 ⟨v4, rfl, hown4, hbn⟩
        have HB4 := Lib.hid (below_next HB3.out hbn)
        have HF4 := Lib.hid (HF3.out.below hbn)
        rw [E1.out] at hown4 ⊢
        obtain ⟨A4, c4, rfl, hx4⟩ := FsAt.own hown4 (show fs.length ≤ 1000000 by omega)
        have HX4 := Lib.hid hx4
        have cs := Lib.hid (same_walk fs fs A4 A2 c4 c2 w4 hx4 HF4.out)
        rw [decide_eq_true rfl] at cs
        clear hbn hown4 hx4 HB3 HF3 HB HF cpa
        go_wp2_with fail
        refine cs.out.mono ?_
        rintro _ w5 ⟨rfl, n5, rfl⟩
        clear cs
        go_wp2_with fail
        go_loopw [9] (fun iv wr => ∃ j : Nat, j ≤ fs.length ∧ iv = .int .i64 j ∧ Hid (FsAt wr A4 c4 fs) ∧ Hid (FsAt wr A2 c2 fs) ∧ Hid (Below w.heap.size w wr)) (fun iv _ => fs.length - (intOf iv).toNat)
        case atStart => exact ⟨0, by omega, rfl, HX4.out.drewN n5, HF4.out.drewN n5, below_drewN HB4.out n5⟩
        case round =>
          clear HX4 HF4 HB4
          obtain ⟨j, hj, rfl, HX, HF, HB⟩ := hrel
          by_cases hltj : j < fs.length
          · obtain ⟨ad, rfl⟩ : ∃ ad, A2 = some ad := by obtain ⟨ad, h, _⟩ := HF.out.2.2.2 (by omega); exact ⟨ad, h⟩
            obtain ⟨f, hfk⟩ : ∃ f, fs[j]? = some f := ⟨fs[j], List.getElem?_eq_getElem hltj⟩
            obtain ⟨hc0, hc1⟩ := fl_two HF.out.2.2 hfk
            have hgu := get_unlike HU.out j f hfk
            have cg := Lib.hid (get_walk fs A4 c4 f.n ⟨f.n.toArray⟩ (by simp) wr HX.out)
            rw [hgu, show getV (some f.v) = .tuple #[.string ⟨f.v.toArray⟩, .bool true] from rfl] at cg
            have HFK := Lib.hid hfk
            clear hgu hfk
            go_wp2_with fail
            refine cg.out.mono ?_
            rintro _ w6 ⟨rfl, hbn⟩
            have HX6 := Lib.hid (HX.out.below hbn)
            have HF6 := Lib.hid (HF.out.below hbn)
            have HB6 := Lib.hid (below_next HB.out hbn)
            obtain ⟨hc2, hc3⟩ := fl_two HF6.out.2.2 HFK.out
            clear hbn hc0 hc1 cg HX HF HB
            go_wp2_with fail
            exact ⟨⟨j + 1, by omega, by go_num, HX6, HF6, HB6⟩, by simp [intOf]; omega⟩
          · obtain rfl : j = fs.length := by omega
            have hr := HF.out.2.2
            have hrA := Lib.hid (hr.alloc (Nat.le_refl _) (.cells #[] 26))
            have HBA := Lib.hid (HB.out.alloc HB.out.size (.cells #[] 26))
            have HOE := Lib.hid (own_empty2 wr 26)
            obtain ⟨gs, hgs⟩ : ∃ gs, fs ++ fs = gs := ⟨_, rfl⟩
            have hgl : gs.length ≤ 18 := by rw [← hgs, List.length_append]; omega
            have hgsum : sumF gs ≤ 210 * 9 := by rw [← hgs, sumF_append]; omega
            have hgc : ∀ v8 w8, World.ownsRow w8 wr.heap.size 26 2 v8 (fs.length + fs.length) (fCells fs ++ fCells fs) → ∃ A8 c8, v8 = .slice A8 gs.length c8 ∧ FsAt w8 A8 c8 gs := fun v8 w8 h8 => by
              refine FsAt.own (base := wr.heap.size) (T := 26) ?_ (by omega)
              rw [← hgs, fCells_append, List.length_append]
              exact h8
            have HE : Hid (fs = [] ∨ (formE (printL gs)).1 = 6) := by
              show _ ∨ _
              rw [← hgs]
              by_cases h0 : fs = []
              · exact .inl h0
              · exact .inr (formE_twice HU.out (by omega) h0)
            have hg0 : Hid (fs = [] → formE (printL gs) = (0, [])) := fun h0 => by rw [← hgs, h0]; rfl
            have hgplen : (⟨(printL gs).toArray⟩ : ByteArray).size ≤ 10000 := by rw [size_mks]; have := printL_len gs; omega
            clear HX hr hgs
            go_wp2_with (first
              | (at_builtin; refine wpList_append_any (wr.alloc (.cells #[] 26)) rfl (.tmp 84) (.tmp 85) 23 rfl wr.heap.size 26 i0 (.agg (Fl.mk [] []).arr) 2 32 Tryd.underlying23 hi hz0 hz1 hz2 rfl (by decide) (.slice (some ⟨wr.heap.size, 0, none⟩) 0 0) 0 [] rfl HOE.out wr.heap.size A2 fs.length c2 (fCells fs) rfl hrA.out (fCells_ones fs) (by unfold maxLen; omega) (by omega) (by simp) ?_; intro v7 w7 hown7 hg7 hat7)
              | (at_builtin; refine wpList_append_any w7 rfl (.tmp 86) (.tmp 87) 23 rfl wr.heap.size 26 i0 (.agg (Fl.mk [] []).arr) 2 32 Tryd.underlying23 hi hz0 hz1 hz2 rfl (by decide) v7 fs.length (fCells fs) rfl (by simpa using hown7) wr.heap.size A2 fs.length c2 (fCells fs) rfl (hrA.out.grown hg7 (by simp) (fun q e => by have e2 : some wr.heap.size = some q := e; injection e2 with e2; omega)) (fCells_ones fs) (by unfold maxLen; omega) (by omega) (by have := hg7.size; simp at this; omega) ?_; intro v8 w8 hown8 hg8 hat8; obtain ⟨A8, c8, rfl, hf8⟩ := hgc v8 w8 hown8))
            have hb7 := HBA.out.grown hg7 HBA.out.size (fun q e => by have e2 : some wr.heap.size = some q := e; injection e2 with e2; have := HB.out.size; omega)
            have HB8 := Lib.hid (hb7.grown hg8 hb7.size (fun q e => by
              have := hown7.lt q e
              have := HB.out.size
              omega))
            have cp8 := Lib.hid (print_walk gs A8 c8 w8 hf8 (HD.out.below HB8.out) (by omega))
            clear hown7 hown8 hg7 hg8 hat7 hat8 hb7 hrA HBA HOE hgc hf8
            refine cp8.out.mono ?_
            rintro _ w9 ⟨rfl, hbn⟩
            have HB9 := Lib.hid (below_next HB8.out hbn)
            clear hbn cp8
            go_wp2_with fail
            refine (parse_walk ⟨(printL gs).toArray⟩ (printL gs) (by simp) w9 (HD.out.below HB9.out) (by omega)).mono ?_
            rintro _ wa ⟨va, rfl, _, hbn⟩
            have HBa := Lib.hid (below_next HB9.out hbn)
            clear hbn
            rcases HE.out with h0 | h6
            · rw [hg0.out h0]
              have hz : ((fs.length : Int) == 0) = true := by rw [h0]; rfl
              clear h0
              go_wp2_with fail
              go_ret
              exact ⟨rfl, HBa.out⟩
            · rw [h6]
              by_cases h0 : fs.length = 0
              · have hz : ((fs.length : Int) == 0) = true := by rw [h0]; rfl
                clear h0
                go_wp2_with fail
                go_ret
                exact ⟨rfl, HBa.out⟩
              · have hz : ((fs.length : Int) == 0) = false := by rw [beq_eq_false_iff_ne]; omega
                clear h0
                go_wp2_with fail
                go_ret
                exact ⟨rfl, HBa.out⟩
end Go.Proofs.YtkdhnfifhaepaaaDoor

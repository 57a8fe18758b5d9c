/- ScopeOrder. No condition of its own. -/
import Derived.Test.YtaaajmfbblbgiaaDoorSi
set_option linter.unusedVariables false
set_option linter.unusedSimpArgs false
set_option maxRecDepth 20000
namespace Go.Proofs.YtaaajmfbblbgiaaDoor
open Go.RowKit
set_option maxHeartbeats 16000000 in
set_option maxRecDepth 100000 in
theorem scopeOrder_law (zs : List Int) (A : Option Addr) (c : Nat) (w : World) (h : IntsIn w A c zs) :
    Calls Tryd.prog 4 #[.slice A zs.length c] w fun e w' => e = .returned (.bool true) ∧ Below w.heap.size w w' := by
  have H := Lib.hid h
  clear h
  go_enter Tryd.func4, Tryd.ntmps4
  go_wp2_with fail
  refine (known_walk w).mono ?_
  rintro _ w1 ⟨rfl, hb1⟩
  have hT := Lib.hid (tape_new (H.out.below hb1))
  have hls := hb1.size
  have HB1 := Lib.hid (hb1.alloc hls (.cells #[.slice A zs.length c, .int .i64 0] 26))
  clear hb1 H
  go_wp2_with fail
  refine (scope_walk zs w1.heap.size 0 _ hT.out).mono ?_
  rintro _ w2 ⟨a, ka, hsa, rfl, ht2, hg2⟩
  have HB2 := Lib.hid (HB1.out.grown hg2 HB1.out.size (fun k e => by cases e; exact hls))
  have HT2 := Lib.hid ht2
  clear ht2 hg2 hT HB1
  go_wp2_with fail
  refine (scope_walk zs w1.heap.size ka _ HT2.out).mono ?_
  rintro _ w3 ⟨b, kb, hsb, rfl, ht3, hg3⟩
  have HB3 := Lib.hid (HB2.out.grown hg3 HB2.out.size (fun k e => by cases e; exact hls))
  have HT3 := Lib.hid ht3
  clear ht3 hg3 HT2 HB2
  go_wp2_with fail
  refine (scope_walk zs w1.heap.size kb _ HT3.out).mono ?_
  rintro _ w4 ⟨d, kd, hsd, rfl, ht4, hg4⟩
  have hb := HB3.out.grown hg4 HB3.out.size (fun k e => by cases e; exact hls)
  clear ht4 hg4 HT3 HB3
  obtain ⟨la, ela⟩ : ∃ la, a.data.toList = la := ⟨_, rfl⟩
  obtain ⟨lb, elb⟩ : ∃ lb, b.data.toList = lb := ⟨_, rfl⟩
  obtain ⟨ld, eld⟩ : ∃ ld, d.data.toList = ld := ⟨_, rfl⟩
  have cpa := Lib.hid (fun w => parse_walk a la ela w (by omega))
  have cpb := Lib.hid (fun w => parse_walk b lb elb w (by omega))
  have caa := Lib.hid (fun w => within_walk a la ela (by omega) a la ela (by omega) w)
  have cab := Lib.hid (fun w => within_walk a la ela (by omega) b lb elb (by omega) w)
  have cbd := Lib.hid (fun w => within_walk b lb elb (by omega) d ld eld (by omega) w)
  have cad := Lib.hid (fun w => within_walk a la ela (by omega) d ld eld (by omega) w)
  have cha := Lib.hid (fun (x : ByteArray) q (hx : x.data.toList = q) (hs : x.size ≤ 34) w => has_walk a la ela (by omega) x q hx (by omega) w)
  have chb := Lib.hid (fun (x : ByteArray) q (hx : x.data.toList = q) (hs : x.size ≤ 34) w => has_walk b lb elb (by omega) x q hx (by omega) w)
  have hmem := Lib.hid (fun p hp => (show List.length p ≤ 34 from by have := splitC_mem 32 la p hp; have : la.length = a.size := by rw [← ela, Lib.size_eq]
                                                                     omega))
  obtain ⟨ps, hps⟩ : ∃ ps, splitC 32 la = ps := ⟨_, rfl⟩
  obtain ⟨qs, hqs⟩ : ∃ qs, splitC 32 lb = qs := ⟨_, rfl⟩
  obtain ⟨rs, hrs⟩ : ∃ rs, splitC 32 ld = rs := ⟨_, rfl⟩
  rw [hps] at cpa caa cab cad cha hmem
  rw [hqs] at cpb cab cbd chb
  rw [hrs] at cbd cad
  rw [within_self] at caa
  clear hps hqs hrs ela elb eld
  go_wp2_with fail
  refine (cpa.out _).mono ?_
  rintro _ w5 ha
  by_cases h0 : scopeE ps = 0
  · obtain ⟨g, cg, rfl, hb5, hcg1, hcg2, hr5⟩ := ha.ok h0
    have hlen := ok_len h0
    replace hb := below_next hb hb5
    have H0 := Lib.hid h0
    have hok : okB ps = true := decide_eq_true h0
    rw [hok] at caa
    clear ha hb5 hok h0
    have HR5 := Lib.hid hr5
    clear hr5
    have hwd := Lib.hid (goE_zero ps [] (ok_go H0.out)).2.1
    obtain ⟨ab, hab⟩ : ∃ x, withinB ps qs = x := ⟨_, rfl⟩
    cases ab

    · rw [hab] at cab
      clear hab
      go_wp2_with fail
      refine (cpb.out _).mono ?_
      rintro _ w6 ⟨hb6, hres⟩
      have HR := Lib.hid (HR5.out.below hb6 HR5.out.1)
      have HB := Lib.hid (below_next hb hb6)
      clear HR5 hb hb6
      obtain ⟨v6, c6, rfl⟩ : ∃ (v : Value) (c : Int), _ = Ending.returned (.tuple #[v, .int .i64 c]) := by
        rcases hres with ⟨_, g6, c6, e, _⟩ | ⟨_, e⟩
        · exact ⟨_, _, e⟩
        · exact ⟨_, _, e⟩
      clear hres
      go_wp2_with fail
      refine (caa.out _).mono ?_
      rintro _ w7 ⟨rfl, hbn⟩
      replace HR := Lib.hid (HR.out.below hbn HR.out.1)
      replace HB := Lib.hid (below_next HB.out hbn)
      clear hbn
      go_wp2_with fail
      refine (cab.out _).mono ?_
      rintro _ w7 ⟨rfl, hbn⟩
      replace HR := Lib.hid (HR.out.below hbn HR.out.1)
      replace HB := Lib.hid (below_next HB.out hbn)
      clear hbn
      go_wp2_with fail
      refine (cab.out _).mono ?_
      rintro _ w7 ⟨rfl, hbn⟩
      replace HR := Lib.hid (HR.out.below hbn HR.out.1)
      replace HB := Lib.hid (below_next HB.out hbn)
      clear hbn
      go_wp2_with fail
      go_loopw [11] (fun iv wr => ∃ k : Nat, k ≤ ps.length ∧ iv = .int .i64 k ∧ Hid (RowS wr g ps) ∧ Hid (Below w.heap.size w wr)) (fun iv _ => ps.length - (intOf iv).toNat)
      case atStart => exact ⟨0, by omega, rfl, HR, HB⟩
      case round =>
        clear HR HB
        obtain ⟨k, hk, rfl, HR, HB⟩ := hrel
        by_cases hlt : k < ps.length
        · obtain ⟨p, hpk⟩ : ∃ p, ps[k]? = some p := ⟨_, List.getElem?_eq_getElem (by omega)⟩
          have hin := List.mem_of_getElem? hpk
          have hpl := hmem.out p hin
          have hc := HR.out.2 k p hpk
          have hnx := Lib.hid hpk
          have cha1 := Lib.hid (cha.out ⟨p.toArray⟩ p (by simp) (by rw [size_mks]; omega))
          have cw := Lib.hid (fun w => rword_walk ⟨p.toArray⟩ p (by simp) w (by rw [size_mks]; omega))
          rw [has_of H0.out hin] at cha1
          rw [hwd.out p hin] at cw
          clear hpk hin hpl
          go_wp2_with fail
          refine (cha1.out wr).mono ?_
          rintro _ w7 ⟨rfl, hbn⟩
          replace HR := Lib.hid (HR.out.below hbn HR.out.1)
          replace HB := Lib.hid (below_next HB.out hbn)
          clear hbn
          replace hc := HR.out.2 k p hnx.out

          go_wp2_with fail
          refine (cab.out _).mono ?_
          rintro _ w7 ⟨rfl, hbn⟩
          replace HR := Lib.hid (HR.out.below hbn HR.out.1)
          replace HB := Lib.hid (below_next HB.out hbn)
          clear hbn
          replace hc := HR.out.2 k p hnx.out

          go_wp2_with fail
          refine (cw.out _).mono ?_
          rintro _ w1 ⟨rfl, rfl⟩
          go_wp2_with fail
          first | exact ⟨⟨k + 1, by omega, by go_num, HR, HB⟩, by simp [intOf]; omega⟩ | (go_frame; exact ⟨⟨k + 1, by omega, by go_num, HR, HB⟩, by simp [intOf]; omega⟩) | (go_wp2_with fail; exact ⟨⟨k + 1, by omega, by go_num, HR, HB⟩, by simp [intOf]; omega⟩)
        · go_wp2_with fail
          go_ret
          exact ⟨rfl, HB.out⟩

    · rw [hab] at cab
      have HQ := Lib.hid (within_ok hab).2.1
      have hll := within_len hab
      have hll2 : decide ((qs.length : Int) < (ps.length : Int)) = false := by simp; omega
      have hll3 : decide (qs.length < ps.length) = false := by simp; omega
      have hlq := ok_len HQ.out
      have hsub : Hid (∀ p ∈ ps, hasB qs p = true) := fun p hp => has_of HQ.out ((within_ok hab).2.2 p hp)
      obtain ⟨bd, hbd⟩ : ∃ x, withinB qs rs = x := ⟨_, rfl⟩
      cases bd

      · rw [hbd] at cbd
        clear hbd hab
        go_wp2_with fail
        refine (cpb.out _).mono ?_
        rintro _ w6 h6
        obtain ⟨g6, c6, rfl, hb6, _, _, _⟩ := h6.ok HQ.out
        have HR := Lib.hid (HR5.out.below hb6 HR5.out.1)
        have HB := Lib.hid (below_next hb hb6)
        clear HR5 hb hb6 h6
        go_wp2_with fail
        refine (caa.out _).mono ?_
        rintro _ w7 ⟨rfl, hbn⟩
        replace HR := Lib.hid (HR.out.below hbn HR.out.1)
        replace HB := Lib.hid (below_next HB.out hbn)
        clear hbn
        go_wp2_with fail
        refine (cab.out _).mono ?_
        rintro _ w7 ⟨rfl, hbn⟩
        replace HR := Lib.hid (HR.out.below hbn HR.out.1)
        replace HB := Lib.hid (below_next HB.out hbn)
        clear hbn
        go_wp2_with fail
        refine (cbd.out _).mono ?_
        rintro _ w7 ⟨rfl, hbn⟩
        replace HR := Lib.hid (HR.out.below hbn HR.out.1)
        replace HB := Lib.hid (below_next HB.out hbn)
        clear hbn
        go_wp2_with fail
        refine (cab.out _).mono ?_
        rintro _ w7 ⟨rfl, hbn⟩
        replace HR := Lib.hid (HR.out.below hbn HR.out.1)
        replace HB := Lib.hid (below_next HB.out hbn)
        clear hbn
        go_wp2_with fail
        go_loopw [11] (fun iv wr => ∃ k : Nat, k ≤ ps.length ∧ iv = .int .i64 k ∧ Hid (RowS wr g ps) ∧ Hid (Below w.heap.size w wr)) (fun iv _ => ps.length - (intOf iv).toNat)
        case atStart => exact ⟨0, by omega, rfl, HR, HB⟩
        case round =>
          clear HR HB
          obtain ⟨k, hk, rfl, HR, HB⟩ := hrel
          by_cases hlt : k < ps.length
          · obtain ⟨p, hpk⟩ : ∃ p, ps[k]? = some p := ⟨_, List.getElem?_eq_getElem (by omega)⟩
            have hin := List.mem_of_getElem? hpk
            have hpl := hmem.out p hin
            have hc := HR.out.2 k p hpk
            have hnx := Lib.hid hpk
            have cha1 := Lib.hid (cha.out ⟨p.toArray⟩ p (by simp) (by rw [size_mks]; omega))
            have cw := Lib.hid (fun w => rword_walk ⟨p.toArray⟩ p (by simp) w (by rw [size_mks]; omega))
            rw [has_of H0.out hin] at cha1
            rw [hwd.out p hin] at cw
            have chb1 := Lib.hid (chb.out ⟨p.toArray⟩ p (by simp) (by rw [size_mks]; omega))
            rw [hsub.out p hin] at chb1
            clear hpk hin hpl
            go_wp2_with fail
            refine (cha1.out wr).mono ?_
            rintro _ w7 ⟨rfl, hbn⟩
            replace HR := Lib.hid (HR.out.below hbn HR.out.1)
            replace HB := Lib.hid (below_next HB.out hbn)
            clear hbn
            replace hc := HR.out.2 k p hnx.out

            go_wp2_with fail
            refine (cab.out _).mono ?_
            rintro _ w7 ⟨rfl, hbn⟩
            replace HR := Lib.hid (HR.out.below hbn HR.out.1)
            replace HB := Lib.hid (below_next HB.out hbn)
            clear hbn
            replace hc := HR.out.2 k p hnx.out

            go_wp2_with fail
            refine (chb1.out _).mono ?_
            rintro _ w7 ⟨rfl, hbn⟩
            replace HR := Lib.hid (HR.out.below hbn HR.out.1)
            replace HB := Lib.hid (below_next HB.out hbn)
            clear hbn
            replace hc := HR.out.2 k p hnx.out

            go_wp2_with fail
            refine (cw.out _).mono ?_
            rintro _ w1 ⟨rfl, rfl⟩
            go_wp2_with fail
            first | exact ⟨⟨k + 1, by omega, by go_num, HR, HB⟩, by simp [intOf]; omega⟩ | (go_frame; exact ⟨⟨k + 1, by omega, by go_num, HR, HB⟩, by simp [intOf]; omega⟩) | (go_wp2_with fail; exact ⟨⟨k + 1, by omega, by go_num, HR, HB⟩, by simp [intOf]; omega⟩)
          · go_wp2_with fail
            go_ret
            exact ⟨rfl, HB.out⟩

      · rw [hbd] at cbd
        rw [within_trans hab hbd] at cad
        clear hbd hab
        go_wp2_with fail
        refine (cpb.out _).mono ?_
        rintro _ w6 h6
        obtain ⟨g6, c6, rfl, hb6, _, _, _⟩ := h6.ok HQ.out
        have HR := Lib.hid (HR5.out.below hb6 HR5.out.1)
        have HB := Lib.hid (below_next hb hb6)
        clear HR5 hb hb6 h6
        go_wp2_with fail
        refine (caa.out _).mono ?_
        rintro _ w7 ⟨rfl, hbn⟩
        replace HR := Lib.hid (HR.out.below hbn HR.out.1)
        replace HB := Lib.hid (below_next HB.out hbn)
        clear hbn
        go_wp2_with fail
        refine (cab.out _).mono ?_
        rintro _ w7 ⟨rfl, hbn⟩
        replace HR := Lib.hid (HR.out.below hbn HR.out.1)
        replace HB := Lib.hid (below_next HB.out hbn)
        clear hbn
        go_wp2_with fail
        refine (cbd.out _).mono ?_
        rintro _ w7 ⟨rfl, hbn⟩
        replace HR := Lib.hid (HR.out.below hbn HR.out.1)
        replace HB := Lib.hid (below_next HB.out hbn)
        clear hbn
        go_wp2_with fail
        refine (cad.out _).mono ?_
        rintro _ w7 ⟨rfl, hbn⟩
        replace HR := Lib.hid (HR.out.below hbn HR.out.1)
        replace HB := Lib.hid (below_next HB.out hbn)
        clear hbn
        go_wp2_with fail
        refine (cab.out _).mono ?_
        rintro _ w7 ⟨rfl, hbn⟩
        replace HR := Lib.hid (HR.out.below hbn HR.out.1)
        replace HB := Lib.hid (below_next HB.out hbn)
        clear hbn
        go_wp2_with fail
        go_loopw [11] (fun iv wr => ∃ k : Nat, k ≤ ps.length ∧ iv = .int .i64 k ∧ Hid (RowS wr g ps) ∧ Hid (Below w.heap.size w wr)) (fun iv _ => ps.length - (intOf iv).toNat)
        case atStart => exact ⟨0, by omega, rfl, HR, HB⟩
        case round =>
          clear HR HB
          obtain ⟨k, hk, rfl, HR, HB⟩ := hrel
          by_cases hlt : k < ps.length
          · obtain ⟨p, hpk⟩ : ∃ p, ps[k]? = some p := ⟨_, List.getElem?_eq_getElem (by omega)⟩
            have hin := List.mem_of_getElem? hpk
            have hpl := hmem.out p hin
            have hc := HR.out.2 k p hpk
            have hnx := Lib.hid hpk
            have cha1 := Lib.hid (cha.out ⟨p.toArray⟩ p (by simp) (by rw [size_mks]; omega))
            have cw := Lib.hid (fun w => rword_walk ⟨p.toArray⟩ p (by simp) w (by rw [size_mks]; omega))
            rw [has_of H0.out hin] at cha1
            rw [hwd.out p hin] at cw
            have chb1 := Lib.hid (chb.out ⟨p.toArray⟩ p (by simp) (by rw [size_mks]; omega))
            rw [hsub.out p hin] at chb1
            clear hpk hin hpl
            go_wp2_with fail
            refine (cha1.out wr).mono ?_
            rintro _ w7 ⟨rfl, hbn⟩
            replace HR := Lib.hid (HR.out.below hbn HR.out.1)
            replace HB := Lib.hid (below_next HB.out hbn)
            clear hbn
            replace hc := HR.out.2 k p hnx.out

            go_wp2_with fail
            refine (cab.out _).mono ?_
            rintro _ w7 ⟨rfl, hbn⟩
            replace HR := Lib.hid (HR.out.below hbn HR.out.1)
            replace HB := Lib.hid (below_next HB.out hbn)
            clear hbn
            replace hc := HR.out.2 k p hnx.out

            go_wp2_with fail
            refine (chb1.out _).mono ?_
            rintro _ w7 ⟨rfl, hbn⟩
            replace HR := Lib.hid (HR.out.below hbn HR.out.1)
            replace HB := Lib.hid (below_next HB.out hbn)
            clear hbn
            replace hc := HR.out.2 k p hnx.out

            go_wp2_with fail
            refine (cw.out _).mono ?_
            rintro _ w1 ⟨rfl, rfl⟩
            go_wp2_with fail
            first | exact ⟨⟨k + 1, by omega, by go_num, HR, HB⟩, by simp [intOf]; omega⟩ | (go_frame; exact ⟨⟨k + 1, by omega, by go_num, HR, HB⟩, by simp [intOf]; omega⟩) | (go_wp2_with fail; exact ⟨⟨k + 1, by omega, by go_num, HR, HB⟩, by simp [intOf]; omega⟩)
          · go_wp2_with fail
            go_ret
            exact ⟨rfl, HB.out⟩
  · obtain ⟨rfl, hb5⟩ := ha.err _ rfl h0
    replace hb := below_next hb hb5
    have hok : okB ps = false := decide_eq_false h0
    have hab : withinB ps qs = false := within_no (Or.inl h0)
    have hk0 : (((scopeE ps : Nat) : Int) == 0) = false := by simpa using h0
    rw [hok] at caa
    rw [hab] at cab
    clear ha hb5 hok hab h0
    go_wp2_with fail
    refine (cpb.out _).mono ?_
    rintro _ w6 ⟨hb6, hres⟩
    replace hb := below_next hb hb6
    obtain ⟨v6, c6, rfl⟩ : ∃ (v : Value) (c : Int), _ = Ending.returned (.tuple #[v, .int .i64 c]) := by
      rcases hres with ⟨_, g6, c6, e, _⟩ | ⟨_, e⟩
      · exact ⟨_, _, e⟩
      · exact ⟨_, _, e⟩
    clear hres hb6
    go_wp2_with fail
    refine (caa.out _).mono ?_
    rintro _ w1 ⟨rfl, hbn⟩
    replace hb := below_next hb hbn
    clear hbn
    go_wp2_with fail
    refine (cab.out _).mono ?_
    rintro _ w1 ⟨rfl, hbn⟩
    replace hb := below_next hb hbn
    clear hbn
    go_wp2_with fail
    refine (cab.out _).mono ?_
    rintro _ w1 ⟨rfl, hbn⟩
    replace hb := below_next hb hbn
    clear hbn
    go_wp2_with fail
    go_loopw [11] (fun iv wr => iv = .int .i64 0 ∧ Hid (Below w.heap.size w wr)) (fun iv _ => 0)
    case atStart => exact ⟨rfl, hb⟩
    case round =>
      clear hb
      obtain ⟨rfl, HB⟩ := hrel
      go_wp2_with fail
      go_ret
      exact ⟨rfl, HB.out⟩
end Go.Proofs.YtaaajmfbblbgiaaDoor

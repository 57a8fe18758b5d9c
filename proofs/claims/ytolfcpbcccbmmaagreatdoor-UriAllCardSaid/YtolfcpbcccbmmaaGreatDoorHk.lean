/- countersignref10.Parse, walked to formE. No condition of its own. -/
import Derived.Test.YtolfcpbcccbmmaaGreatDoorHj
set_option linter.unusedVariables false
set_option linter.unusedSimpArgs false
set_option maxRecDepth 20000
namespace Go.Proofs.YtolfcpbcccbmmaaGreatDoor
open Go.RowKit Pc
set_option maxHeartbeats 16000000 in
theorem rparse_walk (s : ByteArray) (l : List UInt8) (hs : s.data.toList = l) (w : World) (hm : s.size ≤ 1000000) :
    Calls Tryz.prog 29 #[.string s] w (FormR l w) := by
  obtain ⟨i0, hi, hz0, hz1, hz2⟩ := infoS4 info_fl
  by_cases h0 : l = []
  · have hv : Hid (formE l = (0, [])) := by show _ = _; rw [h0]; rfl
    have he : s = ⟨#[]⟩ := by apply str_eq; rw [hs, h0]
    subst he
    clear h0 hs
    go_enter Tryz.func29, Tryz.ntmps29
    go_wp2_with fail
    go_ret2
    exact FormR.err 0 hv.out (Below.refl _ _)
  have hsz : l.length = s.size := by rw [← hs, Lib.size_eq]
  have he1 : s.toList.isEmpty = false := by
    rw [ByteArray.toList_eq, hs]
    cases l with
    | nil => exact absurd rfl h0
    | cons _ _ => rfl
  have he2 : ¬ s.toList = [] := by
    rw [ByteArray.toList_eq, hs]
    exact h0
  have cs := Lib.hid (fun W => parts_walk s l hs 38 W hm)
  have hmem := Lib.hid (splitC_mem 38 l)
  have hlen : (splitC 38 l).length ≤ s.size + 1 := by
    have := splitC_len 38 l
    have : l.count 38 ≤ l.length := List.count_le_length
    omega
  have hne : 0 < (splitC 38 l).length := by have := splitC_len 38 l; omega
  have hF : Hid (formE l = if (splitC 38 l).length ≤ 24 then goF [] (splitC 38 l) else (7, [])) := by show _ = _; rw [formE, if_neg h0]
  obtain ⟨ps, hps⟩ : ∃ ps, splitC 38 l = ps := ⟨_, rfl⟩
  rw [hps] at cs hmem hlen hF hne
  clear hps h0
  go_enter Tryz.func29, Tryz.ntmps29
  go_wp2_with fail
  refine (cs.out _).mono ?_
  rintro _ w1 ⟨vp, rfl, hownp, hbel⟩
  rcases hownp.2 with ⟨_, hn0⟩ | ⟨gp, cp, cur, rfl, hgl, hcur, hnc, hcm, _, _⟩
  · omega
  have hglt : gp < w1.heap.size := by
    rcases Nat.lt_or_ge gp w1.heap.size with h | h
    · exact h
    · rw [Array.getElem?_eq_none h] at hcur; cases hcur
  have HR := Lib.hid (show RowS w1 gp ps from ⟨hglt, fun j p hp => by
    have := hownp.cells (g := gp) rfl j (strV p) (by simp [strVs, hp])
    have hadd : (⟨gp, 0, none⟩ : Addr).add j = ⟨gp, j, none⟩ := by unfold Addr.add; split <;> simp_all
    rw [hadd] at this
    exact this⟩)
  have HB1 := Lib.hid hbel
  have hwl := hbel.size
  clear hownp hcur hbel cs hne hcm
  by_cases h24 : 24 < ps.length
  · have hv : Hid (formE l = (7, [])) := by show _ = _; rw [hF.out, if_neg (by omega)]
    have h24d : decide ((24 : Int) < (ps.length : Int)) = true := by simp; omega
    clear hF h24
    go_wp2_with fail
    go_ret2
    exact FormR.err 7 hv.out HB1.out
  · have hv : Hid (formE l = goF [] ps) := by show _ = _; rw [hF.out, if_pos (by omega)]
    have h24d : decide ((24 : Int) < (ps.length : Int)) = false := by simp; omega
    have h24e : ps.length ≤ 24 := by omega
    clear hF h24
    go_wp2_with fail
    go_loopw [5, 6] (fun ov iv wr => ∃ (k : Nat) (acc : List Fl), k ≤ ps.length ∧ acc.length ≤ k ∧ iv = .int .i64 k ∧ wr.ownsRow w1.heap.size 57 2 ov acc.length (fCells acc) ∧ Hid (goF acc (ps.drop k) = formE l) ∧ Hid (Below w1.heap.size w1 wr) ∧ Hid (Below w.heap.size w wr)) (fun _ iv _ => ps.length - (intOf iv).toNat)
    case atStart => exact ⟨0, [], by omega, by simp, rfl, World.ownsRow_nil _ _ _ _, hv.out.symm, Below.refl _ _, HB1⟩
    case round =>
      clear HB1
      obtain ⟨k, acc, hk, hak, rfl, hown, hgo, HG, HB⟩ := hrel
      have HRr := Lib.hid (HR.out.below HG.out hglt)
      obtain ⟨A, c, rfl, hfs⟩ := FsAt.own hown (by omega)
      have hi2 : (k : Int) ≤ (cp : Int) := by omega
      by_cases hlt : k < ps.length
      · obtain ⟨p, hpk⟩ : ∃ p, ps[k]? = some p := ⟨_, List.getElem?_eq_getElem (by omega)⟩
        have hc := HRr.out.2 k p hpk
        have hpl := hmem.out p (List.mem_of_getElem? hpk)
        have hst := Lib.hid (goF_at acc ps k p hpk)
        have cc := Lib.hid (fun W => rcut_walk ⟨p.toArray⟩ p (by simp) 61 W (by rw [size_mks]; omega))
        have HO := Lib.hid hown
        have HF := Lib.hid hfs
        have hsw := HB.out.size
        have hsg := HG.out.size
        clear hpk hown hfs
        cases hp : cutP 61 p with
        | none =>
          have hfo : fieldO p = none := by unfold fieldO; rw [hp]
          have hv3 : Hid (formE l = (3, [])) := by show _ = _; rw [← hgo.out, hst.out, hfo]
          rw [hp, show cutV p none = .tuple #[.string ⟨p.toArray⟩, .string ⟨#[]⟩, .bool false] from rfl] at cc
          obtain ⟨x1, k1, e1⟩ := decV_any (decL true p)
          obtain ⟨x2, k2, e2⟩ := decV_any (decL true [])
          have d1 := Lib.hid (fun W => rdec_walk ⟨p.toArray⟩ p (by simp) true W (by rw [size_mks]; omega))
          have d2 := Lib.hid (fun W => rdec_walk ⟨#[]⟩ [] rfl true W (by decide))
          rw [e1] at d1
          rw [e2] at d2
          clear e1 e2 hp hfo hst
          go_wp2_with fail
          refine (cc.out _).mono ?_
          rintro _ w2 ⟨rfl, q, rfl⟩
          go_wp2_with fail
          refine (d1.out _).mono ?_
          rintro _ w3 ⟨rfl, hbn⟩
          have HB3 := Lib.hid (below_next (below_drewN HB.out q) hbn)
          have HG3 := Lib.hid (below_next (below_drewN HG.out q) hbn)
          have HO3 : Hid (w3.ownsRow w1.heap.size 57 2 (.slice A acc.length c) acc.length (fCells acc)) := ownsRow_below (w := wr.drewN q) HO.out hbn
          clear hbn
          go_wp2_with fail
          refine (d2.out _).mono ?_
          rintro _ w4 ⟨rfl, hbn⟩
          have HB4 := Lib.hid (below_next HB3.out hbn)
          have HG4 := Lib.hid (below_next HG3.out hbn)
          have HO4 := Lib.hid (ownsRow_below HO3.out hbn)
          clear hbn HB3 HG3 HO3
          go_wp2_with fail
          go_ret2
          exact FormR.err 3 hv3.out HB4.out
        | some ab =>
          obtain ⟨a, b⟩ := ab
          obtain ⟨hl1, hl2⟩ := cutP_len hp
          simp only at hl1 hl2
          rw [hp, show cutV p (some (a, b)) = .tuple #[.string ⟨a.toArray⟩, .string ⟨b.toArray⟩, .bool true] from rfl] at cc
          have d1 := Lib.hid (fun W => rdec_walk ⟨a.toArray⟩ a (by simp) true W (by rw [size_mks]; omega))
          have d2 := Lib.hid (fun W => rdec_walk ⟨b.toArray⟩ b (by simp) true W (by rw [size_mks]; omega))
          clear hl1 hl2 hpl
          cases ha : decL true a with
          | none =>
            have hfo : fieldO p = none := by unfold fieldO; rw [hp]; simp only; rw [ha]
            have hv3 : Hid (formE l = (3, [])) := by show _ = _; rw [← hgo.out, hst.out, hfo]
            obtain ⟨x2, k2, e2⟩ := decV_any (decL true b)
            rw [ha, decV_none] at d1
            rw [e2] at d2
            clear e2 hp hfo hst ha
            go_wp2_with fail
            refine (cc.out _).mono ?_
            rintro _ w2 ⟨rfl, q, rfl⟩
            go_wp2_with fail
            refine (d1.out _).mono ?_
            rintro _ w3 ⟨rfl, hbn⟩
            have HB3 := Lib.hid (below_next (below_drewN HB.out q) hbn)
            have HG3 := Lib.hid (below_next (below_drewN HG.out q) hbn)
            have HO3 : Hid (w3.ownsRow w1.heap.size 57 2 (.slice A acc.length c) acc.length (fCells acc)) := ownsRow_below (w := wr.drewN q) HO.out hbn
            clear hbn
            go_wp2_with fail
            refine (d2.out _).mono ?_
            rintro _ w4 ⟨rfl, hbn⟩
            have HB4 := Lib.hid (below_next HB3.out hbn)
            have HG4 := Lib.hid (below_next HG3.out hbn)
            have HO4 := Lib.hid (ownsRow_below HO3.out hbn)
            clear hbn HB3 HG3 HO3
            go_wp2_with fail
            go_ret2
            exact FormR.err 3 hv3.out HB4.out
          | some n =>
            rw [ha, decV_some] at d1
            cases hb : decL true b with
            | none =>
              have hfo : fieldO p = none := by unfold fieldO; rw [hp]; simp only; rw [ha, hb]
              have hv3 : Hid (formE l = (3, [])) := by show _ = _; rw [← hgo.out, hst.out, hfo]
              rw [hb, decV_none] at d2
              clear hp hfo hst ha hb
              go_wp2_with fail
              refine (cc.out _).mono ?_
              rintro _ w2 ⟨rfl, q, rfl⟩
              go_wp2_with fail
              refine (d1.out _).mono ?_
              rintro _ w3 ⟨rfl, hbn⟩
              have HB3 := Lib.hid (below_next (below_drewN HB.out q) hbn)
              have HG3 := Lib.hid (below_next (below_drewN HG.out q) hbn)
              have HO3 : Hid (w3.ownsRow w1.heap.size 57 2 (.slice A acc.length c) acc.length (fCells acc)) := ownsRow_below (w := wr.drewN q) HO.out hbn
              clear hbn
              go_wp2_with fail
              refine (d2.out _).mono ?_
              rintro _ w4 ⟨rfl, hbn⟩
              have HB4 := Lib.hid (below_next HB3.out hbn)
              have HG4 := Lib.hid (below_next HG3.out hbn)
              have HO4 := Lib.hid (ownsRow_below HO3.out hbn)
              clear hbn HB3 HG3 HO3
              go_wp2_with fail
              go_ret2
              exact FormR.err 3 hv3.out HB4.out
            | some v =>
              rw [hb, decV_some] at d2
              by_cases hn : n = []
              · have hfo : fieldO p = none := by unfold fieldO; rw [hp]; simp only; rw [ha, hb]; exact if_pos hn
                have hv3 : Hid (formE l = (3, [])) := by show _ = _; rw [← hgo.out, hst.out, hfo]
                subst hn
                clear hp hfo hst ha hb
                go_wp2_with fail
                refine (cc.out _).mono ?_
                rintro _ w2 ⟨rfl, q, rfl⟩
                go_wp2_with fail
                refine (d1.out _).mono ?_
                rintro _ w3 ⟨rfl, hbn⟩
                have HB3 := Lib.hid (below_next (below_drewN HB.out q) hbn)
                have HG3 := Lib.hid (below_next (below_drewN HG.out q) hbn)
                have HO3 : Hid (w3.ownsRow w1.heap.size 57 2 (.slice A acc.length c) acc.length (fCells acc)) := ownsRow_below (w := wr.drewN q) HO.out hbn
                clear hbn
                go_wp2_with fail
                refine (d2.out _).mono ?_
                rintro _ w4 ⟨rfl, hbn⟩
                have HB4 := Lib.hid (below_next HB3.out hbn)
                have HG4 := Lib.hid (below_next HG3.out hbn)
                have HO4 := Lib.hid (ownsRow_below HO3.out hbn)
                clear hbn HB3 HG3 HO3
                go_wp2_with fail
                go_ret2
                exact FormR.err 3 hv3.out HB4.out
              · have hfo : fieldO p = some ⟨n, v⟩ := by unfold fieldO; rw [hp]; simp only; rw [ha, hb]; exact if_neg hn
                have hn1 : n.isEmpty = false := by cases n with | nil => exact absurd rfl hn | cons _ _ => rfl
                rw [hfo] at hst
                clear hp hfo ha hb
                go_wp2_with fail
                refine (cc.out _).mono ?_
                rintro _ w2 ⟨rfl, q, rfl⟩
                go_wp2_with fail
                refine (d1.out _).mono ?_
                rintro _ w3 ⟨rfl, hbn⟩
                have HB3 := Lib.hid (below_next (below_drewN HB.out q) hbn)
                have HG3 := Lib.hid (below_next (below_drewN HG.out q) hbn)
                have HO3 : Hid (w3.ownsRow w1.heap.size 57 2 (.slice A acc.length c) acc.length (fCells acc)) := ownsRow_below (w := wr.drewN q) HO.out hbn
                clear hbn
                go_wp2_with fail
                refine (d2.out _).mono ?_
                rintro _ w4 ⟨rfl, hbn⟩
                have HB4 := Lib.hid (below_next HB3.out hbn)
                have HG4 := Lib.hid (below_next HG3.out hbn)
                have HO4 := Lib.hid (ownsRow_below HO3.out hbn)
                clear hbn HB3 HG3 HO3
                obtain ⟨A2, c2, e2, hfs2⟩ := FsAt.own HO4.out (by omega)
                injection e2 with eA _ ec
                subst eA ec
                have ct := Lib.hid (rhas_walk acc A c n ⟨n.toArray⟩ (by simp) w4 hfs2)
                clear hfs2
                cases hh : hasF n acc with
                | true =>
                  have hv6 : Hid (formE l = (6, [])) := by show _ = _; rw [← hgo.out, hst.out]; show (if hasF n acc = true then ((6, []) : Nat × List Fl) else goF (acc ++ [⟨n, v⟩]) (ps.drop (k + 1))) = _; rw [hh]; rfl
                  rw [hh] at ct
                  clear hh hst
                  go_wp2_with fail
                  refine ct.out.mono ?_
                  rintro _ w5 ⟨rfl, rfl⟩
                  go_wp2_with fail
                  go_ret2
                  exact FormR.err 6 hv6.out HB4.out
                | false =>
                  have HNX : Hid (goF (acc ++ [⟨n, v⟩]) (ps.drop (k + 1)) = formE l) := by show _ = _; rw [← hgo.out, hst.out]; show _ = (if hasF n acc = true then ((6, []) : Nat × List Fl) else goF (acc ++ [⟨n, v⟩]) (ps.drop (k + 1))); rw [hh]; rfl
                  rw [hh] at ct
                  have hal : acc.length ≤ 24 := by omega
                  have hrd := reads_new w4 57 (Fl.mk n v).cells
                  have hw14 : w1.heap.size ≤ w4.heap.size := HG4.out.size
                  clear hh hst
                  go_wp2_with fail
                  refine ct.out.mono ?_
                  rintro _ w5 ⟨rfl, rfl⟩
                  go_wp2_with (at_builtin; refine wpList_append_any (w4.alloc (.cells (Fl.mk n v).arr 57)) rfl (.tmp 65) (.tmp 69) 26 rfl w1.heap.size 57 i0 (.agg (Fl.mk [] []).arr) 2 32 Tryz.underlying26 hi hz0 hz1 hz2 rfl (by decide) (.slice A acc.length c) acc.length (fCells acc) rfl (HO4.out.alloc _) (w4.heap.size + 1) _ 1 1 (Fl.mk n v).cells rfl hrd (fun u hu => fCells_ones [⟨n, v⟩] u (by simpa [fCells] using hu)) (by unfold maxLen; omega) (by omega) (by simp; omega) ?_; intro v' w6 hown6 hg6 hat6)
                  have hown7 := fl_next (l' := acc ++ [⟨n, v⟩]) hown6 rfl rfl
                  have hlt6 : ∀ g', (Value.slice A acc.length c).ownBlock = some g' → w1.heap.size ≤ g' := fun g' h => (HO4.out.lt g' h).1
                  have HG6 := Lib.hid ((HG4.out.alloc hw14 (.cells (Fl.mk n v).arr 57)).grown hg6 (by simp; omega) hlt6)
                  have HB6 := Lib.hid ((HB4.out.alloc HB4.out.size (.cells (Fl.mk n v).arr 57)).grown hg6 (by have := HB4.out.size; simp; omega) (fun g' h => by have := hlt6 g' h; omega))
                  exact ⟨⟨k + 1, acc ++ [⟨n, v⟩], by omega, by simp; omega, by go_num, hown7, HNX, HG6, HB6⟩, by simp [intOf]; omega⟩
      · obtain rfl : k = ps.length := by omega
        have hv0 : Hid (formE l = (0, acc)) := by show _ = _; rw [← hgo.out]; exact goF_end acc ps
        have HO := Lib.hid hown
        clear hown hfs
        go_wp2_with fail
        go_ret2
        refine ⟨.slice A acc.length c, by rw [hv0.out]; rfl, ?_, HB.out⟩
        rw [hv0.out]
        exact World.ownsRow.mono HO.out hwl
end Go.Proofs.YtolfcpbcccbmmaaGreatDoor

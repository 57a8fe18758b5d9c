/- scope.Parse and countersignref16.Parse, walked to ParseR. No condition of its own. -/
import Derived.Test.YtaaajmfbblbgiaaDoorSc
set_option linter.unusedVariables false
set_option linter.unusedSimpArgs false
set_option maxRecDepth 20000
namespace Go.Proofs.YtaaajmfbblbgiaaDoor
open Go.RowKit
set_option maxHeartbeats 4000000 in
theorem parse_walk (s : ByteArray) (l : List UInt8) (hs : s.data.toList = l) (w : World) (hm : s.size ≤ 1000000) :
    Calls Tryd.prog 8 #[.string s] w (ParseR (splitC 32 l) w) := by
  have cs := Lib.hid (split_walk s l hs 32 w hm)
  have hsz : l.length = s.size := by rw [← hs, Lib.size_eq]
  have hmem := Lib.hid (splitC_mem 32 l)
  have hlen : (splitC 32 l).length ≤ s.size + 1 := by
    have := splitC_len 32 l
    have : l.count 32 ≤ l.length := List.count_le_length
    omega
  obtain ⟨ps, hps⟩ : ∃ ps, splitC 32 l = ps := ⟨_, rfl⟩
  rw [hps] at cs hmem hlen ⊢
  clear hps
  go_enter Tryd.func8, Tryd.ntmps8
  go_wp2_with fail
  refine cs.out.mono ?_
  rintro _ w1 ⟨g, rfl, hg, hblk, hbel⟩
  have hr := RowS.of_blk hblk
  have HB := Lib.hid hbel
  have hsz1 := hbel.size
  clear hblk hbel
  have hR := Lib.hid hr
  clear hr
  by_cases h8 : ps.length ≤ 8
  · have hE : Hid (scopeE ps = goE [] ps) := if_pos h8
    go_wp2_with fail
    go_loopw [14] (fun iv wr => ∃ k : Nat, k ≤ ps.length ∧ iv = .int .i64 k ∧ Hid (goE (ps.take k) (ps.drop k) = scopeE ps) ∧ w1 = wr) (fun iv _ => ps.length - (intOf iv).toNat)
    case atStart => exact ⟨0, by omega, rfl, hE.out.symm, rfl⟩
    case round =>
      obtain ⟨k, hk, rfl, hp, rfl⟩ := hrel
      by_cases hlt : k < ps.length
      · obtain ⟨p, hpk⟩ : ∃ p, ps[k]? = some p := ⟨_, List.getElem?_eq_getElem (by omega)⟩
        have hc := hR.out.2 k p hpk
        have hpl := hmem.out p (List.mem_of_getElem? hpk)
        have hst := Lib.hid (goE_at ps k p hpk)
        have cw := Lib.hid (word_walk ⟨p.toArray⟩ p (by simp) w1 (by rw [size_mks]; omega))
        have cc := Lib.hid (contains_walk g k ps.length ps p ⟨p.toArray⟩ (by simp) w1 hR.out (by omega) (by omega))
        clear hpk hpl
        cases hw : wordB p
        · rw [hw] at cw
          have hv : Hid (scopeE ps = 3) := by show _ = _; rw [← hp.out, hst.out, hw]; rfl
          go_wp2_with fail
          refine (cw.out).mono ?_
          rintro _ w1 ⟨rfl, rfl⟩
          go_wp2_with fail
          go_ret2
          exact ⟨HB.out, Or.inr ⟨by rw [hv.out]; decide, by rw [hv.out]; rfl⟩⟩
        · rw [hw] at cw
          cases hin : (ps.take k).contains p
          · rw [hin] at cc
            have hv : Hid (goE (ps.take (k + 1)) (ps.drop (k + 1)) = scopeE ps) := by show _ = _; rw [← hp.out, hst.out, hw, hin]; rfl
            go_wp2_with fail
            refine (cw.out).mono ?_
            rintro _ w1 ⟨rfl, rfl⟩
            go_wp2_with fail
            refine (cc.out).mono ?_
            rintro _ w1 ⟨rfl, rfl⟩
            go_wp2_with fail
            exact ⟨⟨k + 1, by omega, by go_num, hv, trivial⟩, by simp [intOf]; omega⟩
          · rw [hin] at cc
            have hv : Hid (scopeE ps = 6) := by show _ = _; rw [← hp.out, hst.out, hw, hin]; rfl
            go_wp2_with fail
            refine (cw.out).mono ?_
            rintro _ w1 ⟨rfl, rfl⟩
            go_wp2_with fail
            refine (cc.out).mono ?_
            rintro _ w1 ⟨rfl, rfl⟩
            go_wp2_with fail
            go_ret2
            exact ⟨HB.out, Or.inr ⟨by rw [hv.out]; decide, by rw [hv.out]; rfl⟩⟩
      · obtain rfl : k = ps.length := by omega
        have hv : Hid (scopeE ps = 0) := by show _ = _; rw [← hp.out]; exact goE_end ps
        have cl := Lib.hid (clip_walk g ps.length ps.length w1 (Nat.le_refl _) (by omega))
        go_wp2_with fail
        refine (cl.out).mono ?_
        rintro _ w1 ⟨rfl, rfl⟩
        go_wp2_with fail
        go_ret2
        exact ⟨HB.out, Or.inl ⟨hv.out, g, _, rfl, hg, Nat.le_refl _, by omega, hR.out⟩⟩
  · have hv : Hid (scopeE ps = 7) := if_neg h8
    go_wp2_with fail
    go_ret2
    exact ⟨HB.out, Or.inr ⟨by rw [hv.out]; decide, by rw [hv.out]; rfl⟩⟩
set_option maxHeartbeats 4000000 in
theorem rparse_walk (s : ByteArray) (l : List UInt8) (hs : s.data.toList = l) (w : World) (hm : s.size ≤ 1000000) :
    Calls Tryd.prog 9 #[.string s] w (ParseR (splitC 32 l) w) := by
  have cs := Lib.hid (parts_walk s l hs 32 w hm)
  have hsz : l.length = s.size := by rw [← hs, Lib.size_eq]
  have hmem := Lib.hid (splitC_mem 32 l)
  have hlen : (splitC 32 l).length ≤ s.size + 1 := by
    have := splitC_len 32 l
    have : l.count 32 ≤ l.length := List.count_le_length
    omega
  have hne : 0 < (splitC 32 l).length := by have := splitC_len 32 l; omega
  obtain ⟨ps, hps⟩ : ∃ ps, splitC 32 l = ps := ⟨_, rfl⟩
  rw [hps] at cs hmem hlen hne ⊢
  clear hps
  go_enter Tryd.func9, Tryd.ntmps9
  go_wp2_with fail
  refine cs.out.mono ?_
  rintro _ w1 ⟨v, rfl, hown, hbel⟩
  rcases hown.2 with ⟨_, h0⟩ | ⟨g, c, cur, rfl, hgl, hcur, hnc, hcm, _, _⟩
  · omega
  have hglt : g < w1.heap.size := by
    rcases Nat.lt_or_ge g w1.heap.size with h | h
    · exact h
    · rw [Array.getElem?_eq_none h] at hcur; cases hcur
  have hR := Lib.hid (show RowS w1 g ps from ⟨hglt, fun j p hp => by
    have := hown.cells (g := g) rfl j (strV p) (by simp [strVs, hp])
    have hadd : (⟨g, 0, none⟩ : Addr).add j = ⟨g, j, none⟩ := by unfold Addr.add; split <;> simp_all
    rw [hadd] at this
    exact this⟩)
  have HB := Lib.hid hbel
  have hsz1 := hbel.size
  have hcm2 : c ≤ 9223372036854775807 := by unfold maxLen at hcm; omega
  clear hown hcur hbel hcm
  by_cases h8 : ps.length ≤ 8
  · have hE : Hid (scopeE ps = goE [] ps) := if_pos h8
    go_wp2_with fail
    go_loopw [5] (fun iv wr => ∃ k : Nat, k ≤ ps.length ∧ iv = .int .i64 k ∧ Hid (goE (ps.take k) (ps.drop k) = scopeE ps) ∧ Hid (RowS wr g ps) ∧ Hid (Below w.heap.size w wr)) (fun iv _ => ps.length - (intOf iv).toNat)
    case atStart => exact ⟨0, by omega, rfl, hE.out.symm, hR, HB⟩
    case round =>
      clear hR HB
      obtain ⟨k, hk, rfl, hp, hR, HB⟩ := hrel
      by_cases hlt : k < ps.length
      · obtain ⟨p, hpk⟩ : ∃ p, ps[k]? = some p := ⟨_, List.getElem?_eq_getElem (by omega)⟩
        have hc := hR.out.2 k p hpk
        have hpl := hmem.out p (List.mem_of_getElem? hpk)
        have hst := Lib.hid (goE_at ps k p hpk)
        have cw := Lib.hid (rword_walk ⟨p.toArray⟩ p (by simp) wr (by rw [size_mks]; omega))
        have cc := Lib.hid (fun q => in_walk g k c ps p ⟨p.toArray⟩ (by simp) (wr.drewN q) hR.out (by omega) (by omega))
        clear hpk hpl
        cases hw : wordB p
        · rw [hw] at cw
          have hv : Hid (scopeE ps = 3) := by show _ = _; rw [← hp.out, hst.out, hw]; rfl
          go_wp2_with fail
          refine (cw.out).mono ?_
          rintro _ w1 ⟨rfl, rfl⟩
          go_wp2_with fail
          go_ret2
          exact ⟨HB.out, Or.inr ⟨by rw [hv.out]; decide, by rw [hv.out]; rfl⟩⟩
        · rw [hw] at cw
          go_wp2_with fail
          refine (cw.out).mono ?_
          rintro _ w1 ⟨rfl, rfl⟩
          go_wp2_with fail
          have hi1 : (k : Int) < (ps.length : Int) := by omega
          have hi2 : (k : Int) ≤ (c : Int) := by omega
          cases hin : (ps.take k).contains p
          · rw [hin] at cc
            have hv : Hid (goE (ps.take (k + 1)) (ps.drop (k + 1)) = scopeE ps) := by show _ = _; rw [← hp.out, hst.out, hw, hin]; rfl
            go_quiet ((go_at_call 24; refine (cc.out _).mono ?_; rintro e w9 ⟨rfl, rfl⟩; exact ⟨rfl, _, rfl⟩))
            go_wp2_with fail
            exact ⟨⟨k + 1, by omega, by go_num, hv, hR, below_drewN HB.out _⟩, by simp [intOf]; omega⟩
          · rw [hin] at cc
            have hv : Hid (scopeE ps = 6) := by show _ = _; rw [← hp.out, hst.out, hw, hin]; rfl
            go_quiet ((go_at_call 24; refine (cc.out _).mono ?_; rintro e w9 ⟨rfl, rfl⟩; exact ⟨rfl, _, rfl⟩))
            go_wp2_with fail
            go_ret2
            exact ⟨below_drewN HB.out _, Or.inr ⟨by rw [hv.out]; decide, by rw [hv.out]; rfl⟩⟩
      · obtain rfl : k = ps.length := by omega
        have hv : Hid (scopeE ps = 0) := by show _ = _; rw [← hp.out]; exact goE_end ps
        go_wp2_with fail
        go_ret2
        exact ⟨HB.out, Or.inl ⟨hv.out, g, _, rfl, hgl, hnc, hcm2, hR.out⟩⟩
  · have hv : Hid (scopeE ps = 7) := if_neg h8
    go_wp2_with fail
    go_ret2
    exact ⟨HB.out, Or.inr ⟨by rw [hv.out]; decide, by rw [hv.out]; rfl⟩⟩
end Go.Proofs.YtaaajmfbblbgiaaDoor

/- countersignref16.Has, Within, and countersignlaw16.same. No condition of its own. -/
import Derived.Test.YtaaajmfbblbgiaaDoorSd
set_option linter.unusedVariables false
set_option linter.unusedSimpArgs false
set_option maxRecDepth 20000
namespace Go.Proofs.YtaaajmfbblbgiaaDoor
open Go.RowKit
theorem below_next {w0 w1 w2 : World} (h : Below w0.heap.size w0 w1) (k : Below w1.heap.size w1 w2) : Below w0.heap.size w0 w2 := h.trans (k.mono h.size)
def okB (ps : List (List UInt8)) : Bool := decide (scopeE ps = 0)
def hasB (ps : List (List UInt8)) (q : List UInt8) : Bool := okB ps && ps.contains q
def withinB (ps qs : List (List UInt8)) : Bool := okB ps && (okB qs && ps.all fun p => qs.contains p)
theorem ok_len {ps : List (List UInt8)} (h : scopeE ps = 0) : ps.length ≤ 8 := by
  unfold scopeE at h
  split at h
  · assumption
  · simp at h
set_option maxHeartbeats 4000000 in
theorem rhas_walk (s : ByteArray) (l : List UInt8) (hs : s.data.toList = l) (hm : s.size ≤ 1000000) (x : ByteArray) (q : List UInt8) (hx : x.data.toList = q) (w : World) :
    Calls Tryd.prog 12 #[.string s, .string x] w fun e w' => e = .returned (.bool (hasB (splitC 32 l) q)) ∧ Below w.heap.size w w' := by
  have cp := Lib.hid (rparse_walk s l hs w hm)
  obtain ⟨ps, hps⟩ : ∃ ps, splitC 32 l = ps := ⟨_, rfl⟩
  rw [hps] at cp ⊢
  clear hps
  go_enter Tryd.func12, Tryd.ntmps12
  go_wp2_with fail
  refine cp.out.mono ?_
  rintro _ w1 ⟨hb, ⟨h0, g, c, rfl, hg, hc1, hc2, hr⟩ | ⟨h0, rfl⟩⟩
  · have HB := Lib.hid hb
    have hl := ok_len h0
    have cc0 := Lib.hid (in_walk g ps.length c ps q x hx w1 hr (Nat.le_refl _) (by omega))
    have hv : hasB ps q = ps.contains q := by rw [hasB, okB, decide_eq_true h0, Bool.true_and]
    rw [List.take_length] at cc0
    obtain ⟨bb, hbb⟩ : ∃ bb, ps.contains q = bb := ⟨_, rfl⟩
    rw [hbb] at cc0 hv
    have HV := Lib.hid hv
    clear hb hr h0 hbb hv
    go_wp2_with fail
    refine (cc0.out).mono ?_
    rintro _ w1 ⟨rfl, rfl⟩
    go_wp2_with fail
    go_ret
    exact ⟨by rw [HV.out]; rfl, HB.out⟩
  · have HB := Lib.hid hb
    have hne : Hid (hasB ps q = false) := by show _ = _; rw [hasB, okB, decide_eq_false h0, Bool.false_and]
    have hk : (((scopeE ps : Nat) : Int) == 0) = false := by simpa using h0
    clear hb h0
    go_wp2_with fail
    go_ret
    exact ⟨by rw [hne.out]; rfl, HB.out⟩
theorem within_no {ps qs : List (List UInt8)} (h : scopeE ps ≠ 0 ∨ scopeE qs ≠ 0) : withinB ps qs = false := by
  unfold withinB okB
  rcases h with h | h <;> simp [h]
theorem within_not {ps qs : List (List UInt8)} {p : List UInt8} (hp : p ∈ ps) (h : hasB qs p = false) : withinB ps qs = false := by
  rw [Bool.eq_false_iff]
  intro hw
  unfold withinB hasB at *
  simp only [Bool.and_eq_true, List.all_eq_true, Bool.and_eq_false_iff] at h hw
  obtain ⟨_, h2, h3⟩ := hw
  have := h3 p hp
  rcases h with h | h
  · rw [h] at h2; cases h2
  · rw [h] at this; cases this
theorem within_yes {ps qs : List (List UInt8)} (h1 : scopeE ps = 0) (h2 : scopeE qs = 0) (h : ∀ j p, j < ps.length → ps[j]? = some p → hasB qs p = true) : withinB ps qs = true := by
  unfold withinB okB
  rw [decide_eq_true h1, decide_eq_true h2, Bool.true_and, Bool.true_and, List.all_eq_true]
  intro p hp
  obtain ⟨j, hj⟩ := List.mem_iff_getElem?.1 hp
  have := h j p (List.getElem?_eq_some_iff.1 hj).1 hj
  unfold hasB at this
  simp only [Bool.and_eq_true] at this
  exact this.2
set_option maxHeartbeats 8000000 in
theorem rwithin_walk (s : ByteArray) (l : List UInt8) (hs : s.data.toList = l) (hm : s.size ≤ 1000000) (t : ByteArray) (m : List UInt8) (ht : t.data.toList = m) (hm2 : t.size ≤ 1000000) (w : World) :
    Calls Tryd.prog 14 #[.string s, .string t] w fun e w' => e = .returned (.bool (withinB (splitC 32 l) (splitC 32 m))) ∧ Below w.heap.size w w' := by
  have cp := Lib.hid (rparse_walk s l hs w hm)
  have cp2 := Lib.hid (fun w => rparse_walk t m ht w hm2)
  have ch := Lib.hid (fun x q hx w => rhas_walk t m ht hm2 x q hx w)
  obtain ⟨ps, hps⟩ : ∃ ps, splitC 32 l = ps := ⟨_, rfl⟩
  obtain ⟨qs, hqs⟩ : ∃ qs, splitC 32 m = qs := ⟨_, rfl⟩
  rw [hps] at cp ⊢
  rw [hqs] at cp2 ch ⊢
  clear hps hqs
  go_enter Tryd.func14, Tryd.ntmps14
  go_wp2_with fail
  refine cp.out.mono ?_
  rintro _ w1 ⟨hb, ⟨h0, g, c, rfl, hg, hc1, hc2, hr⟩ | ⟨h0, rfl⟩⟩
  · have HB := Lib.hid hb
    have HR := Lib.hid hr
    have hl := ok_len h0
    have H0 := Lib.hid h0
    have hsz := hb.size
    clear hb hr h0
    go_wp2_with fail
    refine (cp2.out w1).mono ?_
    rintro _ w2 ⟨hb, ⟨h0, g2, c2, rfl, hg2, _, _, _⟩ | ⟨h0, rfl⟩⟩
    · have HB2 := Lib.hid (below_next HB.out hb)
      have HR2 := Lib.hid (HR.out.below hb HR.out.1)
      have H2 := Lib.hid h0
      clear hb h0 HB HR
      go_wp2_with fail
      go_loopw [9] (fun iv wr => ∃ k : Nat, k ≤ ps.length ∧ iv = .int .i64 k ∧ Hid (∀ j p, j < k → ps[j]? = some p → hasB qs p = true) ∧ Hid (RowS wr g ps) ∧ Hid (Below w.heap.size w wr)) (fun iv _ => ps.length - (intOf iv).toNat)
      case atStart => exact ⟨0, by omega, rfl, fun j p hj => by omega, HR2, HB2⟩
      case round =>
        clear HR2 HB2
        obtain ⟨k, hk, rfl, hp, hR, HB⟩ := hrel
        by_cases hlt : k < ps.length
        · obtain ⟨p, hpk⟩ : ∃ p, ps[k]? = some p := ⟨_, List.getElem?_eq_getElem (by omega)⟩
          have hc := hR.out.2 k p hpk
          have hmem := Lib.hid (List.mem_of_getElem? hpk)
          have ch1 := Lib.hid (ch.out ⟨p.toArray⟩ p (by simp) wr)
          have HPK := Lib.hid hpk
          clear hpk
          cases hh : hasB qs p
          · rw [hh] at ch1
            have hv := Lib.hid (within_not hmem.out hh)
            go_wp2_with fail
            refine ch1.out.mono ?_
            rintro _ w3 ⟨rfl, hb3⟩
            have HB3 := Lib.hid (below_next HB.out hb3)
            clear hb3
            go_wp2_with fail
            go_ret
            exact ⟨by rw [hv.out]; rfl, HB3.out⟩
          · rw [hh] at ch1
            have HN : Hid (∀ j p, j < k + 1 → ps[j]? = some p → hasB qs p = true) := fun j p' hj hp' => by
              rcases Nat.lt_succ_iff_lt_or_eq.1 hj with h | rfl
              · exact hp.out j p' h hp'
              · rw [HPK.out] at hp'; injection hp' with hp'; subst hp'; exact hh
            clear hh
            go_wp2_with fail
            refine ch1.out.mono ?_
            rintro _ w3 ⟨rfl, hb3⟩
            have HB3 := Lib.hid (below_next HB.out hb3)
            have HR3 := Lib.hid (hR.out.below hb3 hR.out.1)
            clear hb3
            go_wp2_with fail
            exact ⟨⟨k + 1, by omega, by go_num, HN, HR3, HB3⟩, by simp [intOf]; omega⟩
        · have hv := Lib.hid (within_yes H0.out H2.out (fun j p hj hp' => hp.out j p (by omega) hp'))
          go_wp2_with fail
          go_ret
          exact ⟨by rw [hv.out]; rfl, HB.out⟩
    · have HB2 := Lib.hid (below_next HB.out hb)
      have hv := Lib.hid (within_no (ps := ps) (Or.inr h0))
      have hk : (((scopeE qs : Nat) : Int) == 0) = false := by simpa using h0
      clear hb h0 HB
      go_wp2_with fail
      go_ret
      exact ⟨by rw [hv.out]; rfl, HB2.out⟩
  · have HB := Lib.hid hb
    have hv := Lib.hid (within_no (qs := qs) (Or.inl h0))
    have hk2 : (((scopeE ps : Nat) : Int) != 0) = true := by simpa using h0
    have hk : (((scopeE ps : Nat) : Int) == 0) = false := by simpa using h0
    clear hb h0
    go_wp2_with fail
    refine (cp2.out w1).mono ?_
    rintro _ w2 ⟨hb, h⟩
    have HB2 := Lib.hid (below_next HB.out hb)
    clear hb HB
    rcases h with ⟨hx0, g2, c2, rfl, _, _, _, _⟩ | ⟨hx0, rfl⟩ <;> clear hx0
    · go_wp2_with fail
      go_ret
      exact ⟨by rw [hv.out]; rfl, HB2.out⟩
    · go_wp2_with fail
      go_ret
      exact ⟨by rw [hv.out]; rfl, HB2.out⟩
end Go.Proofs.YtaaajmfbblbgiaaDoor

/- countersignref11.Host, Path; countersignref10.Unlike of any fields. No condition of its own. -/
import Derived.Test.YtolfcpbcccbmmaaGreatDoorUe
set_option linter.unusedVariables false
set_option linter.unusedSimpArgs false
set_option maxRecDepth 20000
namespace Go.Proofs.YtolfcpbcccbmmaaGreatDoor
open Go.RowKit Pc
theorem all_upto {l : List UInt8} {p : Nat → Bool} {k b : Nat} (h : ∀ j, j < k → p (l.getD j 0).toNat = true) (hb : (l.getD k 0).toNat = b) (hp : p b = true) : ∀ j, j < k + 1 → p (l.getD j 0).toNat = true := by
  intro j hj
  rcases Nat.lt_or_ge j k with h1 | h1
  · exact h j h1
  · rw [show j = k by omega, hb]; exact hp
set_option maxHeartbeats 8000000 in
theorem rhost_walk (s : ByteArray) (l : List UInt8) (hs : s.data.toList = l) (w : World) (hm : s.size ≤ 1000000) :
    Calls Tryz.prog 24 #[.string s] w fun e w' => e = .returned (.bool (hostB l)) ∧ w = w' := by
  have hsz : l.length = s.size := by rw [← hs, Lib.size_eq]
  go_enter Tryz.func24, Tryz.ntmps24
  go_wp2_with fail
  go_loopw [3] (fun nv wr => ∃ k : Nat, k ≤ s.size ∧ nv = .int .i64 k ∧ Hid (∀ j, j < k → inHostB (l.getD j 0).toNat = true) ∧ w = wr) (fun nv _ => s.size - (intOf nv).toNat)
  case atStart => exact ⟨0, by omega, rfl, fun j hj => by omega, rfl⟩
  case round =>
    obtain ⟨k, hk, rfl, hp, rfl⟩ := hrel
    by_cases hlt : k < s.size
    · obtain ⟨b, eb, hb, hb2⟩ : ∃ b : Nat, (s[k]'hlt).toNat = b ∧ Hid ((l.getD k 0).toNat = b) ∧ b < 256 := ⟨_, str_at hs hlt, rfl, (l.getD k 0).toNat_lt⟩
      have cd := Lib.hid (rdigit_walk b)
      have hD : Hid (inHostB b = (smallB b || digitB b || decide (b = 45) || decide (b = 46))) := rfl
      have hS : Hid (smallB b = (decide (97 ≤ b) && decide (b ≤ 122))) := rfl
      by_cases h12 : 97 ≤ b ∧ b ≤ 122
      · obtain ⟨h1, h2⟩ := h12
        have HN : Hid (∀ j, j < k + 1 → inHostB (l.getD j 0).toNat = true) := all_upto hp.out hb.out (by rw [hD.out, hS.out, decide_eq_true h1, decide_eq_true h2]; simp)
        go_wp2_with fail
        exact ⟨⟨k + 1, by omega, by go_num, HN, trivial⟩, by simp [intOf]; omega⟩
      · have hsm : Hid (smallB b = false) := by
          show _ = _
          rw [hS.out]
          by_cases q : 97 ≤ b
          · rw [decide_eq_false (show ¬ b ≤ 122 from fun e => h12 ⟨q, e⟩)]; simp
          · rw [decide_eq_false q]; rfl
        have b4 : ((b : Int) == 45) = decide (b = 45) := beq_lit b 45
        have b5 : ((b : Int) == 46) = decide (b = 46) := beq_lit b 46
        have n4 : ((b : Int) != 45) = !((b : Int) == 45) := rfl
        have n5 : ((b : Int) != 46) = !((b : Int) == 46) := rfl
        rw [b4] at n4
        rw [b5] at n5
        have h1x : ¬ 97 ≤ b ∨ 97 ≤ b ∧ ¬ b ≤ 122 := by omega
        clear h12
        cases hd : digitB b <;> rw [hd] at cd hD
        · cases h4 : decide (b = 45) <;> cases h5 : decide (b = 46) <;> rw [h4] at b4 hD n4 <;> rw [h5] at b5 hD n5 <;> simp only [Bool.not_true, Bool.not_false] at n4 n5 <;> clear h4 h5
          · have hv : Hid (hostB l = false) := by
              show _ = _
              rw [hostB, all_no (k := k) (by omega) (by rw [hb.out, hD.out, hsm.out]; rfl)]
              simp
            have n6 : (((b : Int) != 45) && ((b : Int) != 46)) = true := by rw [n4, n5]; rfl
            have n7 : ¬ (b : Int) = 45 := by intro e; rw [e] at b4; cases b4
            have n8 : ¬ (b : Int) = 46 := by intro e; rw [e] at b5; cases b5
            rcases h1x with h1 | ⟨h1, h2⟩
            · have d0 : decide ((97 : Int) ≤ (b : Int)) = false := by simp; omega
              go_wp2_with fail
              refine (cd.out _).mono ?_
              rintro _ w1 ⟨rfl, rfl⟩
              go_wp2_with fail
              go_ret
              exact ⟨by rw [hv.out]; rfl, rfl⟩
            · have d0 : decide ((97 : Int) ≤ (b : Int)) = true := by simp; omega
              have d1 : decide ((b : Int) ≤ 122) = false := by simp; omega
              go_wp2_with fail
              refine (cd.out _).mono ?_
              rintro _ w1 ⟨rfl, rfl⟩
              go_wp2_with fail
              go_ret
              exact ⟨by rw [hv.out]; rfl, rfl⟩
          all_goals
            have HN : Hid (∀ j, j < k + 1 → inHostB (l.getD j 0).toNat = true) := all_upto hp.out hb.out (by rw [hD.out]; simp)
            rcases h1x with h1 | ⟨h1, h2⟩
            · have d0 : decide ((97 : Int) ≤ (b : Int)) = false := by simp; omega
              go_wp2_with fail
              refine (cd.out _).mono ?_
              rintro _ w1 ⟨rfl, rfl⟩
              go_wp2_with fail
              exact ⟨⟨k + 1, by omega, by go_num, HN, trivial⟩, by simp [intOf]; omega⟩
            · have d0 : decide ((97 : Int) ≤ (b : Int)) = true := by simp; omega
              have d1 : decide ((b : Int) ≤ 122) = false := by simp; omega
              go_wp2_with fail
              refine (cd.out _).mono ?_
              rintro _ w1 ⟨rfl, rfl⟩
              go_wp2_with fail
              exact ⟨⟨k + 1, by omega, by go_num, HN, trivial⟩, by simp [intOf]; omega⟩
        · have HN : Hid (∀ j, j < k + 1 → inHostB (l.getD j 0).toNat = true) := all_upto hp.out hb.out (by rw [hD.out]; simp)
          rcases h1x with h1 | ⟨h1, h2⟩
          · have d0 : decide ((97 : Int) ≤ (b : Int)) = false := by simp; omega
            go_wp2_with fail
            refine (cd.out _).mono ?_
            rintro _ w1 ⟨rfl, rfl⟩
            go_wp2_with fail
            exact ⟨⟨k + 1, by omega, by go_num, HN, trivial⟩, by simp [intOf]; omega⟩
          · have d0 : decide ((97 : Int) ≤ (b : Int)) = true := by simp; omega
            have d1 : decide ((b : Int) ≤ 122) = false := by simp; omega
            go_wp2_with fail
            refine (cd.out _).mono ?_
            rintro _ w1 ⟨rfl, rfl⟩
            go_wp2_with fail
            exact ⟨⟨k + 1, by omega, by go_num, HN, trivial⟩, by simp [intOf]; omega⟩
    · obtain rfl : k = s.size := by omega
      have ha : Hid ((l.all fun b => inHostB b.toNat) = true) := all_yes (fun j hj => hp.out j (by omega))
      have hv : Hid (hostB l = (decide (1 ≤ s.size) && decide (s.size ≤ 64))) := by show _ = _; rw [hostB, ha.out, hsz]; simp
      by_cases h1 : 1 ≤ s.size
      · by_cases h2 : s.size ≤ 64
        · have hd1 : decide ((1 : Int) ≤ (s.size : Int)) = true := by simp; omega
          have hd2 : decide ((s.size : Int) ≤ 64) = true := by simp; omega
          rw [decide_eq_true h1, decide_eq_true h2] at hv
          go_wp2_with fail
          go_ret
          exact ⟨by rw [hv.out]; rfl, rfl⟩
        · have hd1 : decide ((1 : Int) ≤ (s.size : Int)) = true := by simp; omega
          have hd2 : decide ((s.size : Int) ≤ 64) = false := by simp; omega
          rw [decide_eq_true h1, decide_eq_false h2] at hv
          go_wp2_with fail
          go_ret
          exact ⟨by rw [hv.out]; rfl, rfl⟩
      · have hd1 : decide ((1 : Int) ≤ (s.size : Int)) = false := by simp; omega
        rw [decide_eq_false h1] at hv
        go_wp2_with fail
        go_ret
        exact ⟨by rw [hv.out]; rfl, rfl⟩
set_option maxHeartbeats 8000000 in
theorem rpath_walk (s : ByteArray) (l : List UInt8) (hs : s.data.toList = l) (w : World) (hm : s.size ≤ 1000000) :
    Calls Tryz.prog 28 #[.string s] w fun e w' => e = .returned (.bool (pathB l)) ∧ w = w' := by
  have hsz : l.length = s.size := by rw [← hs, Lib.size_eq]
  go_enter Tryz.func28, Tryz.ntmps28
  go_wp2_with fail
  go_loopw [3] (fun nv wr => ∃ k : Nat, k ≤ s.size ∧ nv = .int .i64 k ∧ Hid (∀ j, j < k → inPathB (l.getD j 0).toNat = true) ∧ w = wr) (fun nv _ => s.size - (intOf nv).toNat)
  case atStart => exact ⟨0, by omega, rfl, fun j hj => by omega, rfl⟩
  case round =>
    obtain ⟨k, hk, rfl, hp, rfl⟩ := hrel
    by_cases hlt : k < s.size
    · obtain ⟨b, eb, hb, hb2⟩ : ∃ b : Nat, (s[k]'hlt).toNat = b ∧ Hid ((l.getD k 0).toNat = b) ∧ b < 256 := ⟨_, str_at hs hlt, rfl, (l.getD k 0).toNat_lt⟩
      have cd := Lib.hid (rplain_walk b)
      rw [rplain_eq ⟨b, hb2⟩] at cd
      have hD : Hid (inPathB b = (plainB b || decide (b = 47))) := rfl
      have b4 : ((b : Int) == 47) = decide (b = 47) := beq_lit b 47
      cases hd : plainB b <;> rw [hd] at cd hD
      · cases h4 : decide (b = 47) <;> rw [h4] at b4 hD <;> clear h4
        · have hv : Hid (pathB l = false) := by
            show _ = _
            rw [pathB, all_no (k := k) (by omega) (by rw [hb.out, hD.out]; rfl)]
            simp
          go_wp2_with fail
          refine (cd.out _).mono ?_
          rintro _ w1 ⟨rfl, rfl⟩
          go_wp2_with fail
          go_ret
          exact ⟨by rw [hv.out]; rfl, rfl⟩
        · have HN : Hid (∀ j, j < k + 1 → inPathB (l.getD j 0).toNat = true) := all_upto hp.out hb.out (by rw [hD.out]; simp)
          go_wp2_with fail
          refine (cd.out _).mono ?_
          rintro _ w1 ⟨rfl, rfl⟩
          go_wp2_with fail
          exact ⟨⟨k + 1, by omega, by go_num, HN, trivial⟩, by simp [intOf]; omega⟩
      · have HN : Hid (∀ j, j < k + 1 → inPathB (l.getD j 0).toNat = true) := all_upto hp.out hb.out (by rw [hD.out]; simp)
        go_wp2_with fail
        refine (cd.out _).mono ?_
        rintro _ w1 ⟨rfl, rfl⟩
        go_wp2_with fail
        exact ⟨⟨k + 1, by omega, by go_num, HN, trivial⟩, by simp [intOf]; omega⟩
    · obtain rfl : k = s.size := by omega
      have ha : Hid ((l.all fun b => inPathB b.toNat) = true) := all_yes (fun j hj => hp.out j (by omega))
      have hv : Hid (pathB l = (l.head? == some 47)) := by show _ = _; rw [pathB, ha.out]; simp
      by_cases h1 : 1 ≤ s.size
      · have hlt0 : 0 < s.size := h1
        have hd1 : decide ((1 : Int) ≤ (s.size : Int)) = true := by simp; omega
        obtain ⟨b, eb, hb, hb2⟩ : ∃ b : Nat, (s[0]'hlt0).toNat = b ∧ Hid ((l.getD 0 0).toNat = b) ∧ b < 256 := ⟨_, str_at hs hlt0, rfl, (l.getD 0 0).toNat_lt⟩
        have hh : Hid ((l.head? == some 47) = decide (b = 47)) := by
          show _ = _
          cases hl : l with
          | nil => rw [hl] at hsz; simp at hsz; omega
          | cons x r =>
            have hbx : x.toNat = b := by rw [← hb.out, hl]; rfl
            rw [← hbx, Bool.eq_iff_iff]
            simp
            constructor
            · intro e; rw [e]; rfl
            · intro e; exact UInt8.toNat_inj.1 e
        have b4 : ((b : Int) == 47) = decide (b = 47) := beq_lit b 47
        cases h4 : decide (b = 47) <;> rw [h4] at b4 hh <;> clear h4
        all_goals
          go_wp2_with fail
          go_ret
          exact ⟨by rw [hv.out, hh.out]; rfl, rfl⟩
      · have hd1 : decide ((1 : Int) ≤ (s.size : Int)) = false := by simp; omega
        have hh : Hid ((l.head? == some 47) = false) := by
          show _ = _
          cases l with
          | nil => rfl
          | cons _ _ => simp at hsz; omega
        go_wp2_with fail
        go_ret
        exact ⟨by rw [hv.out, hh.out]; rfl, rfl⟩
set_option maxHeartbeats 4000000 in
theorem unlikeQ_walk (fs : List Fl) (A : Option Addr) (c : Nat) (w : World) (hr : FsAt w A c fs) :
    Calls Tryz.prog 57 #[.slice A fs.length c] w fun e w' => e = .returned (.bool (unlikeQ fs)) ∧ Below w.heap.size w w' := by
  have HR := Lib.hid hr
  obtain ⟨hc, hm, _⟩ := hr
  go_enter Tryz.func57, Tryz.ntmps57
  go_wp2_with fail
  go_loopw [3] (fun nv wr => ∃ k : Nat, k ≤ fs.length ∧ nv = .int .i64 k ∧ Hid (UnlikeP (fs.take k)) ∧ Hid (FsAt wr A c fs) ∧ Hid (Below w.heap.size w wr)) (fun nv _ => fs.length - (intOf nv).toNat)
  case atStart => exact ⟨0, by omega, rfl, unlikeP_nil, HR, Below.refl _ _⟩
  case round =>
    clear HR
    obtain ⟨k, hk, rfl, hU, HR, HB⟩ := hrel
    by_cases hlt : k < fs.length
    · obtain ⟨ad, rfl⟩ : ∃ ad, A = some ad := by obtain ⟨ad, h, _⟩ := HR.out.2.2.2 (by omega); exact ⟨ad, h⟩
      obtain ⟨f, hfk⟩ : ∃ f, fs[k]? = some f := ⟨fs[k], List.getElem?_eq_getElem hlt⟩
      obtain ⟨hc0, hc1⟩ := fl_two HR.out.2.2 hfk
      have hki : (k : Int) < (fs.length : Int) := by omega
      have hkc : (k : Int) ≤ (c : Int) := by omega
      have ct := Lib.hid (fun q => rhas_walk (fs.take k) (some ad) c f.n ⟨f.n.toArray⟩ (by simp) (wr.drewN q) ((HR.out.take hk).drewN q))
      rw [show (fs.take k).length = k by rw [List.length_take]; omega] at ct
      by_cases hn : f.n = []
      · have hv : Hid (unlikeQ fs = false) := by
          show _ = _
          rw [Bool.eq_false_iff]
          intro hq
          exact ((unlikeQ_iff fs).1 hq k f hfk).1 hn
        have hn1 : f.n.isEmpty = true := by rw [hn]; rfl
        clear hfk hn
        go_wp2_with fail
        go_quiet ((go_at_call 53; refine (ct.out _).mono ?_; rintro e w9 ⟨rfl, rfl⟩; exact ⟨rfl, _, rfl⟩))
        go_wp2_with fail
        go_ret
        exact ⟨by rw [hv.out]; rfl, below_drewN HB.out _⟩
      · have hn1 : f.n.isEmpty = false := by cases hq : f.n with | nil => exact absurd hq hn | cons _ _ => rfl
        cases hh : hasF f.n (fs.take k) with
        | true =>
          have hv : Hid (unlikeQ fs = false) := by
            show _ = _
            rw [Bool.eq_false_iff]
            intro hq
            have := ((unlikeQ_iff fs).1 hq k f hfk).2
            rw [hh] at this
            cases this
          rw [hh] at ct
          clear hfk hn hh
          go_wp2_with fail
          go_quiet ((go_at_call 53; refine (ct.out _).mono ?_; rintro e w9 ⟨rfl, rfl⟩; exact ⟨rfl, _, rfl⟩))
          go_wp2_with fail
          go_ret
          exact ⟨by rw [hv.out]; rfl, below_drewN HB.out _⟩
        | false =>
          have HU : Hid (UnlikeP (fs.take (k + 1))) := by
            show UnlikeP _
            rw [List.take_add_one, hfk]
            exact unlikeP_snoc hU.out hn hh
          rw [hh] at ct
          clear hfk hn hh
          go_wp2_with fail
          go_quiet ((go_at_call 53; refine (ct.out _).mono ?_; rintro e w9 ⟨rfl, rfl⟩; exact ⟨rfl, _, rfl⟩))
          go_wp2_with fail
          exact ⟨⟨k + 1, by omega, by go_num, HU, HR, below_drewN HB.out _⟩, by simp [intOf]; omega⟩
    · obtain rfl : k = fs.length := by omega
      rw [List.take_length] at hU
      have hv : Hid (unlikeQ fs = true) := (unlikeQ_iff fs).2 hU.out
      go_wp2_with fail
      go_ret
      exact ⟨by rw [hv.out]; rfl, HB.out⟩
end Go.Proofs.YtolfcpbcccbmmaaGreatDoor

/- json's parser: the next word; what ends a list. Conditions: a text of at most 1000000 bytes; the laid variables of strconv. -/
import Derived.Test.YtieppmppdmcleaaGreatDoorJ0
set_option linter.unusedVariables false
set_option linter.unusedSimpArgs false
set_option maxRecDepth 20000
namespace Go.Proofs.YtieppmppdmcleaaGreatDoor
open Go.RowKit Go.Maps
theorem mark_idx (c : Nat) (hc : c < 256) : ∃ z : Int, Hid (Lib.indexByte (ByteArray.mk #[91, 93, 123, 125, 44, 58]).data.toList ((c : Int).toNat.toUInt8) = z) ∧ Hid (decide (0 ≤ z) = isMark (UInt8.ofNat c)) := by
  have : ∀ c : Fin 256, decide (0 ≤ Lib.indexByte [91, 93, 123, 125, 44, 58] (c.val.toUInt8)) = isMark (UInt8.ofNat c.val) := by decide +kernel
  exact ⟨_, rfl, this ⟨c, hc⟩⟩
theorem wordR_nil {l : List UInt8} (h : skipB l = []) : wordR l = (.none, []) := by unfold wordR; rw [h]
theorem wordR_cons {l r : List UInt8} {c : UInt8} (h : skipB l = c :: r) : wordR l = if isMark c then (.mark c, r) else if c = 34 then textW r else if c = 45 || isDig c then numW c r else nameR (c :: r) := by
  unfold wordR textW numW
  rw [h]
  simp only
  split
  · rfl
  · split
    · cases textR r with
      | none => rfl
      | some p => rfl
    · split
      · cases numR c r with
        | none => rfl
        | some p => rfl
      · rfl
theorem WordR.after {g : Nat} {s : ByteArray} {wd : Wd × List UInt8} {w w1 w' : World} {e : Ending} (hg : w.grownBy w1 (some g)) (h : WordR g s wd w1 e w') : WordR g s wd w e w' := by
  obtain ⟨q, h1, h2, h3, h4⟩ := h
  exact ⟨q, h1, h2, h3, grown_then hg h4 (fun q e => by injection e with e; exact .inl e.symm)⟩
set_option maxHeartbeats 16000000 in
theorem jnext_walk (g : Nat) (s : ByteArray) (p : Nat) (B : Nat) (hB : B ≤ g) (w : World) (hL : LaidB w B) (h : PAt w g s p) :
    Calls Tryz.prog 75 #[.pointer (some ⟨g, 0, none⟩)] w (WordR g s (wordR (s.data.toList.drop p)) w) := by
  have hgl := h.lt
  have cb := Lib.hid (blanks_walk g s p w h)
  have HL := Lib.hid hL
  have hsm := h.2.2
  clear h hL
  go_enter Tryz.func75, Tryz.ntmps75
  go_wp2_with fail
  refine cb.out.mono ?_
  rintro _ w1 ⟨q, rfl, hP, hs, hg⟩
  have HP := Lib.hid hP
  have HG := Lib.hid hg
  have HS := Lib.hid hs
  have HL1 := Lib.hid (HL.out.grown hg (fun q e => by injection e with e; omega))
  obtain ⟨c0, c1, f1⟩ := hP.facts
  have hq := hP.2.1
  clear hP hg hs cb HL
  by_cases hlt : q < s.size
  case neg =>
    have hv : Hid (wordR (s.data.toList.drop p) = (.none, [])) := wordR_nil (by rw [← HS.out, drop_end hlt])
    have d1 : decide ((s.size : Int) ≤ (q : Int)) = true := by simp; omega
    have d2 : decide (s.size ≤ q) = true := by simp; omega
    clear hlt
    go_wp2_with fail
    go_quiet (fail)
    go_wp2_with fail
    go_ret
    exact wordR_none hv.out rfl (HP.out.dn nq) (grown_dn HG.out nq)
  have d1 : decide ((s.size : Int) ≤ (q : Int)) = false := by simp; omega
  have d2 : decide (s.size ≤ q) = false := by simp; omega
  obtain ⟨b, eb, hb2⟩ : ∃ b : Nat, (s[q]'hlt).toNat = b ∧ b < 256 := ⟨_, rfl, (s[q]'hlt).toNat_lt⟩
  have hd := drop_cons hlt eb
  have i1 := fun W => run_index_at (P := Tryz.prog) 9 Tryz.underlying9 s q b hlt eb W
  have hv0 := wordR_cons (HS.out.symm.trans hd)
  have HD := Lib.hid hd
  obtain ⟨z, hz1, hz2⟩ := mark_idx b hb2
  have ci := fun W => Tryz.strings_IndexByte ⟨#[91, 93, 123, 125, 44, 58]⟩ (b : Int) W
  rw [hz1.out] at ci
  have CI := Lib.hid ci
  have hq1 : Hid ((q : Int) + 1 = ((q + 1 : Nat) : Int)) := by show _ = _; omega
  have HPUT : Hid (∀ n, PAt ((w1.drewN n).setCell ⟨g, 1, none⟩ (.int .i64 ((q : Int) + 1))) g s (q + 1) ∧ w.grownBy ((w1.drewN n).setCell ⟨g, 1, none⟩ (.int .i64 ((q : Int) + 1))) (some g)) := fun n => by
    rw [hq1.out]
    have := (HP.out.dn n).put (q + 1) (by omega)
    exact ⟨this.1, grown_then (grown_dn HG.out n) this.2 (fun q e => by injection e with e; exact .inl e.symm)⟩
  clear hd ci
  cases hm : isMark (UInt8.ofNat b)
  case true =>
    have hz : decide (0 ≤ z) = true := hz2.out.trans hm
    have hv : Hid (wordR (s.data.toList.drop p) = (.mark (UInt8.ofNat b), s.data.toList.drop (q + 1))) := by show _ = _; rw [hv0, hm]; rfl
    have hbm : Hid ((UInt8.ofNat b).toNat = b) := by show _ = _; simp; omega
    clear hm hv0
    go_wp2_with fail
    go_quiet (fail)
    revert nq; intro m1
    go_wp2_with fail
    go_quiet (fail)
    go_wp2_with fail
    refine (CI.out _).mono ?_
    rintro _ w2 ⟨rfl, rfl⟩
    go_wp2_with fail
    go_ret
    have hpp := HPUT.out (m1 + nq)
    exact ⟨q + 1, by rw [hv.out, wordV, hbm.out]; rfl, hpp.1, fun _ => by rw [hv.out], hpp.2⟩
  have hz : decide (0 ≤ z) = false := hz2.out.trans hm
  rw [hm] at hv0
  by_cases h34 : b = 34
  · subst h34
    have hv : Hid (wordR (s.data.toList.drop p) = textW (s.data.toList.drop (q + 1))) := by show _ = _; rw [hv0]; rfl
    clear hm hv0
    go_wp2_with fail
    go_quiet (fail)
    revert nq; intro m1
    go_wp2_with fail
    go_quiet (fail)
    go_wp2_with fail
    refine (CI.out _).mono ?_
    rintro _ w2 ⟨rfl, rfl⟩
    have hpp := HPUT.out (m1 + nq)
    have ct := Lib.hid (text_walk0 g s (q + 1) _ hpp.1)
    have HPP := Lib.hid hpp.2
    clear hpp
    go_wp2_with fail
    refine ct.out.mono ?_
    rintro _ w3 hw
    have hw2 := WordR.after HPP.out hw
    rw [← hv.out] at hw2
    obtain ⟨q3, rfl, e2, e3, e4⟩ := hw2
    have R := Lib.hid (And.intro e2 (And.intro e3 e4))
    clear hw e2 e3 e4
    go_wp2_with fail
    go_ret
    exact ⟨q3, rfl, R.out.1, R.out.2.1, R.out.2.2⟩
  have e34 : ((b : Int) == 34) = false := by simp; omega
  have hn34 : ¬ UInt8.ofNat b = 34 := by simp [← UInt8.toNat_inj]; omega
  rw [if_neg (by simp), if_neg hn34] at hv0
  have hcase : (b = 45 ∨ (b ≠ 45 ∧ 48 ≤ b ∧ b ≤ 57)) ∨ (b ≠ 45 ∧ b < 48) ∨ (b ≠ 45 ∧ 57 < b) := by omega
  rcases hcase with hnum | hname
  · have hyes : (UInt8.ofNat b = 45 || isDig (UInt8.ofNat b)) = true := by
      rcases hnum with rfl | ⟨_, h1, h2⟩
      · rfl
      · have : isDig (UInt8.ofNat b) = true := by
          simp only [isDig, Bool.and_eq_true, decide_eq_true_eq, UInt8.le_iff_toNat_le]
          simp; omega
        rw [this, Bool.or_true]
    have hv : Hid (wordR (s.data.toList.drop p) = numW (UInt8.ofNat b) (s.data.toList.drop (q + 1))) := by show _ = _; rw [hv0, if_pos hyes]
    have hdd : ((b : Int) == 45) = true ∨ (((b : Int) == 45) = false ∧ decide ((48 : Int) ≤ (b : Int)) = true ∧ decide ((b : Int) ≤ 57) = true ∧ decide (48 ≤ b) = true ∧ decide (b ≤ 57) = true) := by
      rcases hnum with rfl | ⟨h0, h1, h2⟩
      · left; rfl
      · right; refine ⟨?_, ?_, ?_, ?_, ?_⟩ <;> simp <;> omega
    clear hnum hyes hv0 hm
    rcases hdd with d3 | ⟨d3, d4, d5, d6, d7⟩
    all_goals
      go_wp2_with fail
      go_quiet (fail)
      revert nq; intro m1
      go_wp2_with fail
      go_quiet (fail)
      go_wp2_with fail
      refine (CI.out _).mono ?_
      rintro _ w2 ⟨rfl, rfl⟩
      have cn := Lib.hid (number_walk0 g s q hlt b eb B hB (w1.drewN (m1 + nq)) HL1.out HP.out)
      go_wp2_with fail
      refine cn.out.mono ?_
      rintro _ w3 hw
      have hw2 := WordR.after (grown_dn HG.out (m1 + nq)) hw
      rw [← hv.out] at hw2
      obtain ⟨q3, rfl, e2, e3, e4⟩ := hw2
      have R := Lib.hid (And.intro e2 (And.intro e3 e4))
      clear hw e2 e3 e4
      go_wp2_with fail
      go_ret
      exact ⟨q3, rfl, R.out.1, R.out.2.1, R.out.2.2⟩
  · have hno : (UInt8.ofNat b = 45 || isDig (UInt8.ofNat b)) = false := by
      rw [Bool.or_eq_false_iff]
      constructor
      · simp [← UInt8.toNat_inj]; omega
      · rw [Bool.eq_false_iff]
        simp only [isDig, ne_eq, Bool.and_eq_true, decide_eq_true_eq, UInt8.le_iff_toNat_le]
        simp; omega
    have hv : Hid (wordR (s.data.toList.drop p) = nameR (s.data.toList.drop q)) := by show _ = _; rw [hv0, if_neg (by rw [hno]; simp), HD.out]
    have e45 : ((b : Int) == 45) = false := by simp; omega
    have hdd : (decide ((48 : Int) ≤ (b : Int)) = false ∧ decide (48 ≤ b) = false) ∨ (decide ((48 : Int) ≤ (b : Int)) = true ∧ decide (48 ≤ b) = true ∧ decide ((b : Int) ≤ 57) = false ∧ decide (b ≤ 57) = false) := by
      rcases hname with ⟨_, h⟩ | ⟨_, h⟩
      · left; constructor <;> simp <;> omega
      · right; refine ⟨?_, ?_, ?_, ?_⟩ <;> simp <;> omega
    clear hname hno hv0 hm
    rcases hdd with ⟨d3, d4⟩ | ⟨d3, d4, d5, d6⟩
    all_goals
      go_wp2_with fail
      go_quiet (fail)
      revert nq; intro m1
      go_wp2_with fail
      go_quiet (fail)
      go_wp2_with fail
      refine (CI.out _).mono ?_
      rintro _ w2 ⟨rfl, rfl⟩
      have cn := Lib.hid (named_walk0 g s q (w1.drewN (m1 + nq)) HP.out)
      go_wp2_with fail
      refine cn.out.mono ?_
      rintro _ w3 hw
      have hw2 := WordR.after (grown_dn HG.out (m1 + nq)) hw
      rw [← hv.out] at hw2
      obtain ⟨q3, rfl, e2, e3, e4⟩ := hw2
      have R := Lib.hid (And.intro e2 (And.intro e3 e4))
      clear hw e2 e3 e4
      go_wp2_with fail
      go_ret
      exact ⟨q3, rfl, R.out.1, R.out.2.1, R.out.2.2⟩
def endsB (w : Wd) (c : UInt8) : Bool × Bool := match w with
  | .mark m => (decide (m = c), decide (m = c) || decide (m = 44))
  | _ => (decide (0 = c), false)
theorem as_mm (v : Value) (W : World) : (Instr.typeAssert (.iface 136 v) 107 136 true).run Tryz.prog W = .ok (.tuple #[v, .bool true]) W := by kernel_rfl
theorem as_pm (v : Value) (W : World) : (Instr.typeAssert (.iface 152 v) 107 136 true).run Tryz.prog W = .ok (.tuple #[.int .u8 0, .bool false]) W := by kernel_rfl
theorem as_nm (v : Value) (W : World) : (Instr.typeAssert (.iface 157 v) 107 136 true).run Tryz.prog W = .ok (.tuple #[.int .u8 0, .bool false]) W := by kernel_rfl
theorem as_vm (v : Value) (W : World) : (Instr.typeAssert (.iface 160 v) 107 136 true).run Tryz.prog W = .ok (.tuple #[.int .u8 0, .bool false]) W := by kernel_rfl
theorem as_0m (W : World) : (Instr.typeAssert .nilIface 107 136 true).run Tryz.prog W = .ok (.tuple #[.int .u8 0, .bool false]) W := by kernel_rfl
theorem as_pp (v : Value) (W : World) : (Instr.typeAssert (.iface 152 v) 107 152 true).run Tryz.prog W = .ok (.tuple #[v, .bool true]) W := by kernel_rfl
theorem as_mp (v : Value) (W : World) : (Instr.typeAssert (.iface 136 v) 107 152 true).run Tryz.prog W = .ok (.tuple #[.string ⟨#[]⟩, .bool false]) W := by kernel_rfl
theorem as_np (v : Value) (W : World) : (Instr.typeAssert (.iface 157 v) 107 152 true).run Tryz.prog W = .ok (.tuple #[.string ⟨#[]⟩, .bool false]) W := by kernel_rfl
theorem as_vp (v : Value) (W : World) : (Instr.typeAssert (.iface 160 v) 107 152 true).run Tryz.prog W = .ok (.tuple #[.string ⟨#[]⟩, .bool false]) W := by kernel_rfl
theorem as_0p (W : World) : (Instr.typeAssert .nilIface 107 152 true).run Tryz.prog W = .ok (.tuple #[.string ⟨#[]⟩, .bool false]) W := by kernel_rfl
theorem u8_beq (a b : UInt8) : ((a.toNat : Int) == (b.toNat : Int)) = decide (a = b) := by
  rw [Bool.eq_iff_iff]
  simp [← UInt8.toNat_inj]
  try omega
set_option maxHeartbeats 4000000 in
theorem ends_walk (wd : Wd) (c : UInt8) (w : World) :
    Calls Tryz.prog 131 #[wordV wd, .int .u8 (c.toNat : Int)] w fun e w' => e = .returned (.tuple #[.bool (endsB wd c).1, .bool (endsB wd c).2]) ∧ w = w' := by
  have h0 : ((0 : Int) == (c.toNat : Int)) = decide (0 = c) := u8_beq 0 c
  cases hd0 : decide (0 = c)
  all_goals
    rw [hd0] at h0
    cases wd with
    | mark m =>
      have h1 := u8_beq m c
      have h2 := u8_beq m 44
      have h3 : (((m.toNat : Int)) == 44) = decide (m = 44) := h2
      cases hd1 : decide (m = c)
      all_goals
        cases hd2 : decide (m = 44)
        all_goals
          have hv : Hid (endsB (.mark m) c = (decide (m = c), decide (m = c) || decide (m = 44))) := rfl
          rw [hd1, hd2] at hv
          rw [hd1] at h1
          rw [hd2] at h3
          simp only [wordV]
          clear h2 hd0 hd1 hd2
          generalize hm : (m.toNat : Int) = mi at *
          generalize hc : (c.toNat : Int) = ci at *
          clear hm hc
          have has := as_mm
          go_enter Tryz.func131, Tryz.ntmps131
          go_wp2_with fail
          go_ret2
          exact ⟨by rw [hv.out]; rfl, rfl⟩
    | none =>
      have hv : Hid (endsB .none c = (decide (0 = c), false)) := rfl
      rw [hd0] at hv
      simp only [wordV]
      clear hd0
      generalize hc : (c.toNat : Int) = ci at *
      clear hc
      have has := as_0m
      go_enter Tryz.func131, Tryz.ntmps131
      go_wp2_with fail
      go_ret2
      exact ⟨by rw [hv.out]; rfl, rfl⟩
    | phrase t =>
      have hv : Hid (endsB (.phrase t) c = (decide (0 = c), false)) := rfl
      rw [hd0] at hv
      simp only [wordV, strV]
      clear hd0
      generalize hc : (c.toNat : Int) = ci at *
      generalize (⟨t.toArray⟩ : ByteArray) = tz at *
      clear hc
      have has := as_pm
      go_enter Tryz.func131, Tryz.ntmps131
      go_wp2_with fail
      go_ret2
      exact ⟨by rw [hv.out]; rfl, rfl⟩
    | number n =>
      have hv : Hid (endsB (.number n) c = (decide (0 = c), false)) := rfl
      rw [hd0] at hv
      simp only [wordV]
      clear hd0
      generalize hc : (c.toNat : Int) = ci at *
      clear hc
      have has := as_nm
      go_enter Tryz.func131, Tryz.ntmps131
      go_wp2_with fail
      go_ret2
      exact ⟨by rw [hv.out]; rfl, rfl⟩
    | value k b =>
      have hv : Hid (endsB (.value k b) c = (decide (0 = c), false)) := rfl
      rw [hd0] at hv
      simp only [wordV, cells6, strV]
      clear hd0
      generalize hc : (c.toNat : Int) = ci at *
      clear hc
      have has := as_vm
      go_enter Tryz.func131, Tryz.ntmps131
      go_wp2_with fail
      go_ret2
      exact ⟨by rw [hv.out]; rfl, rfl⟩
end Go.Proofs.YtieppmppdmcleaaGreatDoor

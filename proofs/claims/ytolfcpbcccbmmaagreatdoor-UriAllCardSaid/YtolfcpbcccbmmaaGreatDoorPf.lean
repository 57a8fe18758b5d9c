import Derived.Test.YtolfcpbcccbmmaaGreatDoorPe
set_option linter.unusedVariables false
set_option linter.unusedSimpArgs false
set_option maxRecDepth 20000
namespace Go.Proofs.YtolfcpbcccbmmaaGreatDoor
open Go.RowKit Pc
def oneV (r : Option (UInt8 × Nat)) : Value := match r with
  | some (c, n) => .tuple #[.int .u8 (c.toNat : Int), .int .i64 (n : Int)]
  | none => .tuple #[.int .u8 0, .int .i64 0]
theorem bare_any (v : Nat) (form : Bool) (hv : v < 256) : ∃ (r : Nat) (o : Bool), ∀ w, Calls Tryz.prog 86 #[.int .u8 (v : Int), .bool form] w fun e w' => e = .returned (.tuple #[.int .i32 (r : Int), .bool o]) ∧ w = w' :=
  ⟨_, _, fun w => bare_walk v form w hv⟩
set_option maxHeartbeats 400000 in
theorem one_plus (t : ByteArray) (w : World) (h0 : 0 < t.size) (ec : (t[0]'h0).toNat = 43) :
    Calls Tryz.prog 84 #[.string t, .bool true] w fun e w' => e = .returned (.tuple #[.int .u8 32, .int .i64 1]) ∧ w = w' := by
  go_enter Tryz.func84, Tryz.ntmps84
  go_wp2_with fail
  go_ret2
  exact ⟨rfl, rfl⟩
set_option maxHeartbeats 400000 in
theorem one_sign (t : ByteArray) (c : Nat) (form : Bool) (w : World) (h0 : 0 < t.size) (ec : (t[0]'h0).toNat = c) (hc : c < 256) (h37 : ((c : Int) == 37) = false) (hcase : form = false ∨ form = true ∧ ((c : Int) == 43) = false) :
    Calls Tryz.prog 84 #[.string t, .bool form] w fun e w' => e = .returned (if plainB c then .tuple #[.int .u8 (c : Int), .int .i64 1] else .tuple #[.int .u8 0, .int .i64 0]) ∧ w = w' := by
  have cb := Lib.hid (fun w => bare_walk c false w hc)
  rw [show bareB c false = plainB c from rfl] at cb
  have h37n : ((c : Int) != 37) = true := by simpa using h37
  cases hp : plainB c <;> rw [hp] at cb <;> clear hp
  all_goals
    rcases hcase with rfl | ⟨rfl, hq⟩
    all_goals
      go_enter Tryz.func84, Tryz.ntmps84
      go_wp2_with fail
      refine (cb.out _).mono ?_
      rintro _ w1 ⟨rfl, rfl⟩
      go_wp2_with fail
      go_ret2
      exact ⟨rfl, rfl⟩
set_option maxHeartbeats 400000 in
theorem one_no (t : ByteArray) (form : Bool) (w : World) (h0 : 0 < t.size) (ec : (t[0]'h0).toNat = 37) (cb : Hid (Calls Tryz.prog 96 #[.string (t.extract 1 t.size)] w (NoByte w))) :
    Calls Tryz.prog 84 #[.string t, .bool form] w fun e w' => e = .returned (.tuple #[.int .u8 0, .int .i64 0]) ∧ ∃ n, w' = w.drewN n := by
  have h1 : (1 : Int) ≤ t.size := by omega
  cases form
  all_goals
    go_enter Tryz.func84, Tryz.ntmps84
    go_wp2_with fail
    refine cb.out.mono ?_
    rintro _ w1 ⟨v, hv, rfl, n, rfl⟩
    obtain ⟨rr, oo, cbare⟩ := bare_any v _ hv
    have CR := Lib.hid cbare
    clear cbare
    go_wp2_with fail
    refine (CR.out _).mono ?_
    rintro _ w2 ⟨rfl, rfl⟩
    go_wp2_with fail
    go_ret2
    exact ⟨rfl, _, rfl⟩
set_option maxHeartbeats 400000 in
theorem one_yes (t : ByteArray) (form : Bool) (v : Nat) (w : World) (h0 : 0 < t.size) (ec : (t[0]'h0).toNat = 37) (hv : v < 256) (cb : Hid (Calls Tryz.prog 96 #[.string (t.extract 1 t.size)] w fun e w' => e = .returned (.tuple #[.int .u8 (v : Int), .bool true]) ∧ ∃ n, w' = w.drewN n)) :
    Calls Tryz.prog 84 #[.string t, .bool form] w fun e w' => e = .returned (if bareB v form then .tuple #[.int .u8 0, .int .i64 0] else .tuple #[.int .u8 (v : Int), .int .i64 3]) ∧ ∃ n, w' = w.drewN n := by
  have h1 : (1 : Int) ≤ t.size := by omega
  have cr := Lib.hid (fun w => bare_walk v form w hv)
  obtain ⟨rr, hrr⟩ : ∃ rr, bareR v form = rr := ⟨_, rfl⟩
  rw [hrr] at cr
  clear hrr
  cases ho : bareB v form <;> rw [ho] at cr <;> clear ho <;> cases form
  all_goals
    go_enter Tryz.func84, Tryz.ntmps84
    go_wp2_with fail
    refine cb.out.mono ?_
    rintro _ w1 ⟨rfl, n, rfl⟩
    go_wp2_with fail
    refine (cr.out _).mono ?_
    rintro _ w2 ⟨rfl, rfl⟩
    go_wp2_with fail
    go_ret2
    exact ⟨rfl, _, rfl⟩
theorem one_walk (t : ByteArray) (x : UInt8) (r : List UInt8) (hs : t.data.toList = x :: r) (form : Bool) (w : World) (hd : DigOk w) (hm : t.size ≤ 1000000) :
    Calls Tryz.prog 84 #[.string t, .bool form] w fun e w' => e = .returned (oneV (one form (x :: r))) ∧ ∃ n, w' = w.drewN n := by
  have hsz : t.size = r.length + 1 := by rw [Lib.size_eq, hs]; rfl
  have h0 : 0 < t.size := by omega
  have ec : (t[0]'h0).toNat = x.toNat := by rw [str_at hs h0]; rfl
  rw [one_cons]
  by_cases h43 : (form && x.toNat == 43) = true
  · rw [if_pos h43]
    simp only [Bool.and_eq_true, beq_iff_eq] at h43
    obtain ⟨rfl, hx⟩ := h43
    exact (one_plus t w h0 (ec.trans hx)).mono fun e w' ⟨he, hw⟩ => ⟨he, 0, hw.symm⟩
  · rw [if_neg h43]
    by_cases h37 : x.toNat = 37
    · have hx2 : (t.extract 1 t.size).data.toList = r := by rw [Lib.extract_to_end, hs]; rfl
      have hs2 : (t.extract 1 t.size).size = r.length := by rw [Lib.size_eq, hx2]
      rw [if_neg (by omega)]
      match r, hx2, hs2 with
      | [], hx2, hs2 => exact one_no t form w h0 (ec.trans h37) (byByte_short _ w (by rw [hs2]; simp))
      | [_], hx2, hs2 => exact one_no t form w h0 (ec.trans h37) (byByte_short _ w (by rw [hs2]; simp))
      | a :: b :: r2, hx2, hs2 =>
        have hl : 2 ≤ (t.extract 1 t.size).size := by rw [hs2]; simp
        have ha : ((t.extract 1 t.size)[0]'(by omega)).toNat = a.toNat := by rw [str_at hx2 (by omega)]; rfl
        have hb : ((t.extract 1 t.size)[1]'(by omega)).toNat = b.toNat := by rw [str_at hx2 (by omega)]; rfl
        have hm2 : (t.extract 1 t.size).size ≤ 1000000 := by simp; omega
        simp only
        cases da : dg a.toNat with
        | none =>
          rw [two, da]
          exact one_no t form w h0 (ec.trans h37) (byByte_no _ _ _ w hd hl ha hb a.toNat_lt b.toNat_lt hm2 (.inl da))
        | some p =>
          cases db : dg b.toNat with
          | none =>
            rw [two, da, db]
            exact one_no t form w h0 (ec.trans h37) (byByte_no _ _ _ w hd hl ha hb a.toNat_lt b.toNat_lt hm2 (.inr db))
          | some q =>
            rw [two, da, db]
            have hp := (dg_hx da).1
            have hq := (dg_hx db).1
            refine (one_yes t form (p * 16 + q) w h0 (ec.trans h37) (by omega) (byByte_yes _ _ _ p q w hd hl ha hb a.toNat_lt b.toNat_lt hm2 da db)).mono fun e w' ⟨he, hw⟩ => ⟨?_, hw⟩
            rw [he]
            simp only
            have hbe : bareB (p * 16 + q) form = (plainB (p * 16 + q) || form && p * 16 + q == 32) := by rw [bareB, Bool.or_comm]
            by_cases hbb : (plainB (p * 16 + q) || form && p * 16 + q == 32) = true
            · rw [if_pos hbb, if_pos (hbe.trans hbb)]; rfl
            · rw [if_neg hbb, if_neg (fun h => hbb (hbe.symm.trans h))]
              have : (UInt8.ofNat (p * 16 + q)).toNat = p * 16 + q := by simp; omega
              simp only [Option.map_some, oneV, this]
              rfl
    · rw [if_pos (by omega)]
      refine (one_sign t x.toNat form w h0 ec x.toNat_lt (by rw [beq_eq_false_iff_ne]; omega) ?_).mono fun e w' ⟨he, hw⟩ => ⟨?_, 0, hw.symm⟩
      · cases form
        · exact .inl rfl
        · right
          refine ⟨rfl, ?_⟩
          simp at h43
          rw [beq_eq_false_iff_ne]; omega
      · rw [he]
        by_cases hp : plainB x.toNat = true
        · rw [if_pos hp, if_pos hp]; rfl
        · rw [if_neg hp, if_neg hp]; rfl
end Go.Proofs.YtolfcpbcccbmmaaGreatDoor

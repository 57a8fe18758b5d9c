/- json's parser: the next word; what ends a list. Conditions: a text of at most 1000000 bytes; the laid variables of strconv. -/
import Derived.Test.YtieppmppdmcleaaGreatDoorJ0
import Derived.Handy
set_option linter.unusedVariables false
set_option linter.unusedSimpArgs false
set_option maxRecDepth 20000
set_option maxHeartbeats 16000000
namespace Go.Proofs.YtieppmppdmcleaaGreatDoor
open Go.RowKit Go.Maps
theorem mark_idx (c : Nat) (hc : c < 256) : ∃ z : Int, Hid (Lib.indexByte (ByteArray.mk #[91, 93, 123, 125, 44, 58]).data.toList ((c : Int).toNat.toUInt8) = z) ∧ Hid (decide (0 ≤ z) = isMark (UInt8.ofNat c)) := by
 have : ∀ c : Fin 256, decide (0 ≤ Lib.indexByte [91, 93, 123, 125, 44, 58] (c.val.toUInt8)) = isMark (UInt8.ofNat c.val) := by decide +kernel
 exact ⟨_, rfl, this ⟨c, hc⟩⟩
theorem wordR_nil {l : List UInt8} (h : skipB l = []) : wordR l = (.none, []) := by unfold wordR; rw [h]
theorem wordR_cons {l r : List UInt8} {c : UInt8} (h : skipB l = c :: r) : wordR l = if isMark c then (.mark c, r) else if c = 34 then textW r else if c = 45 || isDig c then numW c r else nameR (c :: r) := by
 unfold wordR textW numW
 rw [h]
 simp only
 split
 ·
  rfl
 ·
  split
  ·
   cases textR r with
   | none => rfl
   | some p => rfl
  ·
   split
   ·
    cases numR c r with
    | none => rfl
    | some p => rfl
   ·
    rfl
theorem WordR.after {g : Nat} {s : ByteArray} {wd : Wd × List UInt8} {w w1 w' : World} {e : Ending} (hg : w.grownBy w1 (some g)) (h : WordR g s wd w1 e w') : WordR g s wd w e w' := by
 obtain ⟨q, h1, h2, h3, h4⟩ := h
 exact ⟨q, h1, h2, h3, grown_then hg h4 (fun q e => by injection e with e; exact .inl e.symm)⟩
theorem jnext_walk (g : Nat) (s : ByteArray) (p : Nat) (B : Nat) (hB : B ≤ g) (w : World) (hL : LaidB w B) (h : PAt w g s p) :
  Calls Tryz.prog 75 #[.pointer (some ⟨g, 0, none⟩)] w (WordR g s (wordR (s.data.toList.drop p)) w) := by
 have hgl := h.lt
 have cb := Lib.hid (blanks_walk g s p w h)
 have HL := Lib.hid hL
 have hsm := h.2.2
 clear h hL
 go_enter Tryz.func75, Tryz.ntmps75
 go_wp2_with fail
 refine cb.out.mono ?_
 rintro _ w1 ⟨q, rfl, hP, hs, hg⟩
 have HP := Lib.hid hP
 have HG := Lib.hid hg
 have HS := Lib.hid hs
 have HL1 := Lib.hid (HL.out.grown hg (fun q e => by injection e with e; omega))
 obtain ⟨c0, c1, f1⟩ := hP.facts
 have hq := hP.2.1
 clear hP hg hs cb HL
 by_cases hlt : q < s.size
 case neg =>
  have hv : Hid (wordR (s.data.toList.drop p) = (.none, [])) := wordR_nil (by rw [← HS.out, drop_end hlt])
  have d1 : decide ((s.size : Int) ≤ (q : Int)) = true := by simp; omega
  have d2 : decide (s.size ≤ q) = true := by simp; omega
  clear hlt
  go_wp2_with fail
  go_quiet (fail)
  go_wp2_with fail
  go_ret
  exact wordR_none hv.out rfl (HP.out.dn nq) (grown_dn HG.out nq)
 have d1 : decide ((s.size : Int) ≤ (q : Int)) = false := by simp; omega
 have d2 : decide (s.size ≤ q) = false := by simp; omega
 obtain ⟨b, eb, hb2⟩ : ∃ b : Nat, (s[q]'hlt).toNat = b ∧ b < 256 := ⟨_, rfl, (s[q]'hlt).toNat_lt⟩
 have hd := drop_cons hlt eb
 have i1 := fun W => run_index_at (P := Tryz.prog) 9 Tryz.underlying9 s q b hlt eb W
 have hv0 := wordR_cons (HS.out.symm.trans hd)
 have HD := Lib.hid hd
 obtain ⟨z, hz1, hz2⟩ := mark_idx b hb2
 have ci := fun W => Tryz.strings_IndexByte ⟨#[91, 93, 123, 125, 44, 58]⟩ (b : Int) W
 rw [hz1.out] at ci
 have CI := Lib.hid ci
 have hq1 : Hid ((q : Int) + 1 = ((q + 1 : Nat) : Int)) := by show _ = _; omega
 have HPUT : Hid (∀ n, PAt ((w1.drewN n).setCell ⟨g, 1, none⟩ (.int .i64 ((q : Int) + 1))) g s (q + 1) ∧ w.grownBy ((w1.drewN n).setCell ⟨g, 1, none⟩ (.int .i64 ((q : Int) + 1))) (some g)) := fun n => by
  rw [hq1.out]
  have := (HP.out.dn n).put (q + 1) (by omega)
  exact ⟨this.1, grown_then (grown_dn HG.out n) this.2 (fun q e => by injection e with e; exact .inl e.symm)⟩
 clear hd ci
 cases hm : isMark (UInt8.ofNat b)
 case true =>
  have hz : decide (0 ≤ z) = true := hz2.out.trans hm
  have hv : Hid (wordR (s.data.toList.drop p) = (.mark (UInt8.ofNat b), s.data.toList.drop (q + 1))) := by show _ = _; rw [hv0, hm]; rfl
  have hbm : Hid ((UInt8.ofNat b).toNat = b) := by show _ = _; simp; omega
  clear hm hv0
  go_wp2_with fail
  go_quiet (fail)
  revert nq; intro m1
  go_wp2_with fail
  go_quiet (fail)
  go_wp2_with fail
  refine (CI.out _).mono ?_
  rintro _ w2 ⟨rfl, rfl⟩
  go_wp2_with fail
  go_ret
  have hpp := HPUT.out (m1 + nq)
  exact ⟨q + 1, by rw [hv.out, wordV, hbm.out]; rfl, hpp.1, fun _ => by rw [hv.out], hpp.2⟩
 have hz : decide (0 ≤ z) = false := hz2.out.trans hm
 rw [hm] at hv0
 by_cases h34 : b = 34
 ·
  subst h34
  have hv : Hid (wordR (s.data.toList.drop p) = textW (s.data.toList.drop (q + 1))) := by show _ = _; rw [hv0]; rfl
  clear hm hv0
  go_wp2_with fail
  go_quiet (fail)
  revert nq; intro m1
  go_wp2_with fail
  go_quiet (fail)
  go_wp2_with fail
  refine (CI.out _).mono ?_
  rintro _ w2 ⟨rfl, rfl⟩
  have hpp := HPUT.out (m1 + nq)
  have ct := Lib.hid (text_walk0 g s (q + 1) _ hpp.1)
  have HPP := Lib.hid hpp.2
  clear hpp
  go_wp2_with fail
  refine ct.out.mono ?_
  rintro _ w3 hw
  have hw2 := WordR.after HPP.out hw
  rw [← hv.out] at hw2
  obtain ⟨q3, rfl, e2, e3, e4⟩ := hw2
  have R := Lib.hid (And.intro e2 (And.intro e3 e4))
  clear hw e2 e3 e4
  go_wp2_with fail
  go_ret
  exact ⟨q3, rfl, R.out.1, R.out.2.1, R.out.2.2⟩
 have e34 : ((b : Int) == 34) = false := by simp; omega
 have hn34 : ¬ UInt8.ofNat b = 34 := by simp [← UInt8.toNat_inj]; omega
 rw [if_neg (by simp), if_neg hn34] at hv0
 have hcase : (b = 45 ∨ (b ≠ 45 ∧ 48 ≤ b ∧ b ≤ 57)) ∨ (b ≠ 45 ∧ b < 48) ∨ (b ≠ 45 ∧ 57 < b) := by omega
 rcases hcase with hnum | hname
 ·
  have hyes : (UInt8.ofNat b = 45 || isDig (UInt8.ofNat b)) = true := by
   rcases hnum with rfl | ⟨_, h1, h2⟩
   ·
    rfl
   ·
    have : isDig (UInt8.ofNat b) = true := by
     simp only [isDig, Bool.and_eq_true, decide_eq_true_eq, UInt8.le_iff_toNat_le]
     simp; omega
    rw [this, Bool.or_true]
  have hv : Hid (wordR (s.data.toList.drop p) = numW (UInt8.ofNat b) (s.data.toList.drop (q + 1))) := by show _ = _; rw [hv0, if_pos hyes]
  have hdd : ((b : Int) == 45) = true ∨ (((b : Int) == 45) = false ∧ decide ((48 : Int) ≤ (b : Int)) = true ∧ decide ((b : Int) ≤ 57) = true ∧ decide (48 ≤ b) = true ∧ decide (b ≤ 57) = true) := by
   rcases hnum with rfl | ⟨h0, h1, h2⟩
   ·
    left; rfl
   ·
    right; refine ⟨?_, ?_, ?_, ?_, ?_⟩ <;> simp <;> omega
  clear hnum hyes hv0 hm
  rcases hdd with d3 | ⟨d3, d4, d5, d6, d7⟩
  all_goals
   go_wp2_with fail
   go_quiet (fail)
   revert nq; intro m1
   go_wp2_with fail
   go_quiet (fail)
   go_wp2_with fail
   refine (CI.out _).mono ?_
   rintro _ w2 ⟨rfl, rfl⟩
   have cn := Lib.hid (number_walk0 g s q hlt b eb B hB (w1.drewN (m1 + nq)) HL1.out HP.out)
   go_wp2_with fail
   refine cn.out.mono ?_
   rintro _ w3 hw
   have hw2 := WordR.after (grown_dn HG.out (m1 + nq)) hw
   rw [← hv.out] at hw2
   obtain ⟨q3, rfl, e2, e3, e4⟩ := hw2
   have R := Lib.hid (And.intro e2 (And.intro e3 e4))
   clear hw e2 e3 e4
   go_wp2_with fail
   go_ret
   exact ⟨q3, rfl, R.out.1, R.out.2.1, R.out.2.2⟩
 ·
  have hno : (UInt8.ofNat b = 45 || isDig (UInt8.ofNat b)) = false := by
   rw [Bool.or_eq_false_iff]
   constructor
   ·
    simp [← UInt8.toNat_inj]; omega
   ·
    rw [Bool.eq_false_iff]
    simp only [isDig, ne_eq, Bool.and_eq_true, decide_eq_true_eq, UInt8.le_iff_toNat_le]
    simp; omega
  have hv : Hid (wordR (s.data.toList.drop p) = nameR (s.data.toList.drop q)) := by show _ = _; rw [hv0, if_neg (by rw [hno]; simp), HD.out]
  have e45 : ((b : Int) == 45) = false := by simp; omega
  have hdd : (decide ((48 : Int) ≤ (b : Int)) = false ∧ decide (48 ≤ b) = false) ∨ (decide ((48 : Int) ≤ (b : Int)) = true ∧ decide (48 ≤ b) = true ∧ decide ((b : Int) ≤ 57) = false ∧ decide (b ≤ 57) = false) := by
   rcases hname with ⟨_, h⟩ | ⟨_, h⟩
   ·
    left; constructor <;> simp <;> omega
   ·
    right; refine ⟨?_, ?_, ?_, ?_⟩ <;> simp <;> omega
  clear hname hno hv0 hm
  rcases hdd with ⟨d3, d4⟩ | ⟨d3, d4, d5, d6⟩
  all_goals
   go_wp2_with fail
   go_quiet (fail)
   revert nq; intro m1
   go_wp2_with fail
   go_quiet (fail)
   go_wp2_with fail
   refine (CI.out _).mono ?_
   rintro _ w2 ⟨rfl, rfl⟩
   have cn := Lib.hid (named_walk0 g s q (w1.drewN (m1 + nq)) HP.out)
   go_wp2_with fail
   refine cn.out.mono ?_
   rintro _ w3 hw
   have hw2 := WordR.after (grown_dn HG.out (m1 + nq)) hw
   rw [← hv.out] at hw2
   obtain ⟨q3, rfl, e2, e3, e4⟩ := hw2
   have R := Lib.hid (And.intro e2 (And.intro e3 e4))
   clear hw e2 e3 e4
   go_wp2_with fail
   go_ret
   exact ⟨q3, rfl, R.out.1, R.out.2.1, R.out.2.2⟩
def endsB (w : Wd) (c : UInt8) : Bool × Bool := match w with
 | .mark m => (decide (m = c), decide (m = c) || decide (m = 44))
 | _ => (decide (0 = c), false)
theorem as_mm (v : Value) (W : World) : (Instr.typeAssert (.iface 136 v) 107 136 true).run Tryz.prog W = .ok (.tuple #[v, .bool true]) W := by kernel_rfl
theorem as_pm (v : Value) (W : World) : (Instr.typeAssert (.iface 152 v) 107 136 true).run Tryz.prog W = .ok (.tuple #[.int .u8 0, .bool false]) W := by kernel_rfl
theorem as_nm (v : Value) (W : World) : (Instr.typeAssert (.iface 157 v) 107 136 true).run Tryz.prog W = .ok (.tuple #[.int .u8 0, .bool false]) W := by kernel_rfl
theorem as_vm (v : Value) (W : World) : (Instr.typeAssert (.iface 160 v) 107 136 true).run Tryz.prog W = .ok (.tuple #[.int .u8 0, .bool false]) W := by kernel_rfl
theorem as_0m (W : World) : (Instr.typeAssert .nilIface 107 136 true).run Tryz.prog W = .ok (.tuple #[.int .u8 0, .bool false]) W := by kernel_rfl
theorem as_pp (v : Value) (W : World) : (Instr.typeAssert (.iface 152 v) 107 152 true).run Tryz.prog W = .ok (.tuple #[v, .bool true]) W := by kernel_rfl
theorem as_mp (v : Value) (W : World) : (Instr.typeAssert (.iface 136 v) 107 152 true).run Tryz.prog W = .ok (.tuple #[.string ⟨#[]⟩, .bool false]) W := by kernel_rfl
theorem as_np (v : Value) (W : World) : (Instr.typeAssert (.iface 157 v) 107 152 true).run Tryz.prog W = .ok (.tuple #[.string ⟨#[]⟩, .bool false]) W := by kernel_rfl
theorem as_vp (v : Value) (W : World) : (Instr.typeAssert (.iface 160 v) 107 152 true).run Tryz.prog W = .ok (.tuple #[.string ⟨#[]⟩, .bool false]) W := by kernel_rfl
theorem as_0p (W : World) : (Instr.typeAssert .nilIface 107 152 true).run Tryz.prog W = .ok (.tuple #[.string ⟨#[]⟩, .bool false]) W := by kernel_rfl
theorem u8_beq (a b : UInt8) : ((a.toNat : Int) == (b.toNat : Int)) = decide (a = b) := by
 rw [Bool.eq_iff_iff]
 simp [← UInt8.toNat_inj]
 try omega
theorem ends_walk (wd : Wd) (c : UInt8) (w : World) :
  Calls Tryz.prog 131 #[wordV wd, .int .u8 (c.toNat : Int)] w fun e w' => e = .returned (.tuple #[.bool (endsB wd c).1, .bool (endsB wd c).2]) ∧ w = w' := by
 have h0 : ((0 : Int) == (c.toNat : Int)) = decide (0 = c) := u8_beq 0 c
 cases hd0 : decide (0 = c)
 all_goals
  rw [hd0] at h0
  cases wd with
  | mark m =>
   have h1 := u8_beq m c
   have h2 := u8_beq m 44
   have h3 : (((m.toNat : Int)) == 44) = decide (m = 44) := h2
   cases hd1 : decide (m = c)
   all_goals
    cases hd2 : decide (m = 44)
    all_goals
     have hv : Hid (endsB (.mark m) c = (decide (m = c), decide (m = c) || decide (m = 44))) := rfl
     rw [hd1, hd2] at hv
     rw [hd1] at h1
     rw [hd2] at h3
     simp only [wordV]
     clear h2 hd0 hd1 hd2
     generalize hm : (m.toNat : Int) = mi at *
     generalize hc : (c.toNat : Int) = ci at *
     clear hm hc
     have has := as_mm
     go_enter Tryz.func131, Tryz.ntmps131
     go_wp2_with fail
     go_ret2
     exact ⟨by rw [hv.out]; rfl, rfl⟩
  | none =>
   have hv : Hid (endsB .none c = (decide (0 = c), false)) := rfl
   rw [hd0] at hv
   simp only [wordV]
   clear hd0
   generalize hc : (c.toNat : Int) = ci at *
   clear hc
   have has := as_0m
   go_enter Tryz.func131, Tryz.ntmps131
   go_wp2_with fail
   go_ret2
   exact ⟨by rw [hv.out]; rfl, rfl⟩
  | phrase t =>
   have hv : Hid (endsB (.phrase t) c = (decide (0 = c), false)) := rfl
   rw [hd0] at hv
   simp only [wordV, strV]
   clear hd0
   generalize hc : (c.toNat : Int) = ci at *
   generalize (⟨t.toArray⟩ : ByteArray) = tz at *
   clear hc
   have has := as_pm
   go_enter Tryz.func131, Tryz.ntmps131
   go_wp2_with fail
   go_ret2
   exact ⟨by rw [hv.out]; rfl, rfl⟩
  | number n =>
   have hv : Hid (endsB (.number n) c = (decide (0 = c), false)) := rfl
   rw [hd0] at hv
   simp only [wordV]
   clear hd0
   generalize hc : (c.toNat : Int) = ci at *
   clear hc
   have has := as_nm
   go_enter Tryz.func131, Tryz.ntmps131
   go_wp2_with fail
   go_ret2
   exact ⟨by rw [hv.out]; rfl, rfl⟩
  | value k b =>
   have hv : Hid (endsB (.value k b) c = (decide (0 = c), false)) := rfl
   rw [hd0] at hv
   simp only [wordV, cells6, strV]
   clear hd0
   generalize hc : (c.toNat : Int) = ci at *
   clear hc
   have has := as_vm
   go_enter Tryz.func131, Tryz.ntmps131
   go_wp2_with fail
   go_ret2
   exact ⟨by rw [hv.out]; rfl, rfl⟩
end Go.Proofs.YtieppmppdmcleaaGreatDoor
/- json's parser: the value that begins with a word, given lists and objects one level deeper. Conditions as of the words. -/
namespace Go.Proofs.YtieppmppdmcleaaGreatDoor
open Go.RowKit Go.Maps
def ValR (g : Nat) (s : ByteArray) (r : Got) (w : World) (e : Ending) (w' : World) : Prop :=
 match r with
 | .error er => ∃ (k : Int) (b : Bool) (n : Int) (st : ByteArray) (NA : Option Addr) (nn nc : Nat) (A : Option Addr) (m c : Nat), e = .returned (.tuple #[.agg #[.int .i64 k, .bool b, .int .i64 n, .string st, .slice NA nn nc, .slice A m c], .int .i64 (er : Int)]) ∧ w.grownBy w' (some g)
 | .ok (v, r') => ∃ cs q, e = .returned (.tuple #[.agg cs.toArray, .int .i64 0]) ∧ JvV w' w.heap.size v cs ∧ PAt w' g s q ∧ s.data.toList.drop q = r' ∧ w.grownBy w' (some g)
def ValOk (d : Nat) : Prop := ∀ (g : Nat) (s : ByteArray) (p B : Nat) (wd : Wd) (rest : List UInt8) (deep : Nat) (w : World), B ≤ g → LaidB w B → PAt w g s p → (wd ≠ .none → s.data.toList.drop p = rest) → deep + d = 8 →
 Calls Tryz.prog 74 #[.pointer (some ⟨g, 0, none⟩), wordV wd, .int .i64 (deep : Int)] w (ValR g s (valW d wd rest) w)
def ManyOk (F : FuncId) (many : (Wd → List UInt8 → Got) → List UInt8 → Got) (d : Nat) : Prop := ∀ (g : Nat) (s : ByteArray) (p B : Nat) (deep : Nat) (w : World), B ≤ g → LaidB w B → PAt w g s p → deep + d = 8 →
 Calls Tryz.prog F #[.pointer (some ⟨g, 0, none⟩), .int .i64 (deep : Int)] w (ValR g s (many (valW d) (s.data.toList.drop p)) w)
theorem valR_err {g : Nat} {s : ByteArray} {w w' : World} {e : Ending} {er : Nat} {r : Got} (hr : r = .error er) (k : Int) (b : Bool) (n : Int) (st : ByteArray) (NA : Option Addr) (nn nc : Nat) (A : Option Addr) (m c : Nat)
  (he : e = .returned (.tuple #[.agg #[.int .i64 k, .bool b, .int .i64 n, .string st, .slice NA nn nc, .slice A m c], .int .i64 (er : Int)])) (hg : w.grownBy w' (some g)) : ValR g s r w e w' := by
 subst hr
 exact ⟨k, b, n, st, NA, nn, nc, A, m, c, he, hg⟩
theorem plain_phrase (t : ByteArray) (w : World) : Calls Tryz.prog 189 #[.string t] w fun e w' => e = .returned (.tuple #[.agg #[.int .i64 4, .bool false, .int .i64 0, .string t, .slice none 0 0, .slice none 0 0], .bool true]) ∧ Below w.heap.size w w' := by
 have hk := Blk.new w 26 #[.int .i64 0, .bool false, .int .i64 0, .string ⟨#[]⟩, .slice none 0 0, .slice none 0 0]
 have HB := Lib.hid ((Below.refl w.heap.size w).alloc (Nat.le_refl _) (.cells #[.int .i64 0, .bool false, .int .i64 0, .string ⟨#[]⟩, .slice none 0 0, .slice none 0 0] 26))
 have HK := Lib.hid hk
 clear hk
 go_enter Tryz.func189, Tryz.ntmps189
 go_wp2_with (refine wpList_store_blk rfl 26 _ _ rfl w.heap.size _ _ 26 rfl rfl HK.out rfl jv_size (jv_ones _ _ _ _ _ _ _ _ _ _) ?_)
 refine bodyPost_ret (results_j_t Tryz.results189 _ _ w.heap.size _ _ _ _ _ _ rfl HK.out.setRow) rfl ⟨rfl, below_setRow HB.out (Nat.le_refl _) _⟩
theorem plain_number (n : Int) (w : World) : Calls Tryz.prog 190 #[.int .i64 n] w fun e w' => e = .returned (.tuple #[.agg #[.int .i64 3, .bool false, .int .i64 n, .string ⟨#[]⟩, .slice none 0 0, .slice none 0 0], .bool true]) ∧ Below w.heap.size w w' := by
 have hk := Blk.new w 26 #[.int .i64 0, .bool false, .int .i64 0, .string ⟨#[]⟩, .slice none 0 0, .slice none 0 0]
 have HB := Lib.hid ((Below.refl w.heap.size w).alloc (Nat.le_refl _) (.cells #[.int .i64 0, .bool false, .int .i64 0, .string ⟨#[]⟩, .slice none 0 0, .slice none 0 0] 26))
 have HK := Lib.hid hk
 clear hk
 go_enter Tryz.func190, Tryz.ntmps190
 go_wp2_with (refine wpList_store_blk rfl 26 _ _ rfl w.heap.size _ _ 26 rfl rfl HK.out rfl jv_size (jv_ones _ _ _ _ _ _ _ _ _ _) ?_)
 refine bodyPost_ret (results_j_t Tryz.results190 _ _ w.heap.size _ _ _ _ _ _ rfl HK.out.setRow) rfl ⟨rfl, below_setRow HB.out (Nat.le_refl _) _⟩
theorem plain_value (k : Int) (b : Bool) (w : World) : Calls Tryz.prog 191 #[.agg #[.int .i64 k, .bool b, .int .i64 0, .string ⟨#[]⟩, .slice none 0 0, .slice none 0 0]] w fun e w' => e = .returned (.tuple #[.agg #[.int .i64 k, .bool b, .int .i64 0, .string ⟨#[]⟩, .slice none 0 0, .slice none 0 0], .bool true]) ∧ Below w.heap.size w w' := by
 have hk := Blk.new w 160 #[.int .i64 k, .bool b, .int .i64 0, .string ⟨#[]⟩, .slice none 0 0, .slice none 0 0]
 have HB1 := (Below.refl w.heap.size w).alloc (Nat.le_refl _) (.cells #[.int .i64 k, .bool b, .int .i64 0, .string ⟨#[]⟩, .slice none 0 0, .slice none 0 0] 160)
 have hk2 : Blk ((w.alloc (.cells #[.int .i64 k, .bool b, .int .i64 0, .string ⟨#[]⟩, .slice none 0 0, .slice none 0 0] 160)).alloc (.cells #[.int .i64 0, .bool false, .int .i64 0, .string ⟨#[]⟩, .slice none 0 0, .slice none 0 0] 26)) (w.heap.size + 1) 26 #[.int .i64 0, .bool false, .int .i64 0, .string ⟨#[]⟩, .slice none 0 0, .slice none 0 0] := by
  have := Blk.new (w.alloc (.cells #[.int .i64 k, .bool b, .int .i64 0, .string ⟨#[]⟩, .slice none 0 0, .slice none 0 0] 160)) 26 #[.int .i64 0, .bool false, .int .i64 0, .string ⟨#[]⟩, .slice none 0 0, .slice none 0 0]
  simpa using this
 have HB := Lib.hid (HB1.alloc (by simp) (.cells #[.int .i64 0, .bool false, .int .i64 0, .string ⟨#[]⟩, .slice none 0 0, .slice none 0 0] 26))
 have HK := Lib.hid hk
 have HK2 := Lib.hid hk2
 clear hk hk2 HB1
 go_enter Tryz.func191, Tryz.ntmps191
 go_wp2_with (refine wpList_store_blk rfl 26 _ _ rfl (w.heap.size + 1) _ _ 26 rfl rfl HK2.out rfl jv_size (jv_ones _ _ _ _ _ _ _ _ _ _) ?_)
 refine bodyPost_ret (results_j_t Tryz.results191 _ _ (w.heap.size + 1) _ _ _ _ _ _ rfl HK2.out.setRow) rfl ⟨rfl, below_setRow HB.out (by omega) _⟩
theorem six_cells {w : World} {g : Nat} {t : TypeId} {c0 c1 c2 c3 c4 c5 : Value} (h : Blk w g t #[c0, c1, c2, c3, c4, c5]) : w.cell? ⟨g, 0, none⟩ = some c0 ∧ w.cell? ⟨g, 1, none⟩ = some c1 ∧ w.cell? ⟨g, 2, none⟩ = some c2 ∧ w.cell? ⟨g, 3, none⟩ = some c3 ∧ w.cell? ⟨g, 4, none⟩ = some c4 ∧ w.cell? ⟨g, 5, none⟩ = some c5 :=
 ⟨h.cell 0, h.cell 1, h.cell 2, h.cell 3, h.cell 4, h.cell 5⟩
theorem valR_leaf {g : Nat} {s : ByteArray} {w w' : World} {e : Ending} {r : Got} {k : Int} {b : Bool} {n : Int} {t rest : List UInt8} {q : Nat} (hr : r = .ok (.mk k b n t [] [], rest))
  (he : e = .returned (.tuple #[.agg #[.int .i64 k, .bool b, .int .i64 n, .string ⟨t.toArray⟩, .slice none 0 0, .slice none 0 0], .int .i64 0])) (hP : PAt w' g s q) (hd : s.data.toList.drop q = rest) (hg : w.grownBy w' (some g)) : ValR g s r w e w' := by
 subst hr
 exact ⟨_, q, he, jv_leaf _ _ _ _ _ _, hP, hd, hg⟩
theorem value_leaf (d : Nat) (g : Nat) (s : ByteArray) (p B : Nat) (wd : Wd) (rest : List UInt8) (deep : Nat) (w : World) (hB : B ≤ g) (hL : LaidB w B) (hP : PAt w g s p) (hr : wd ≠ .none → s.data.toList.drop p = rest) (hdd : deep + d = 8) (hno : ∀ c, wd ≠ .mark c) :
  Calls Tryz.prog 74 #[.pointer (some ⟨g, 0, none⟩), wordV wd, .int .i64 (deep : Int)] w (ValR g s (valW d wd rest) w) := by
 have hgl := hP.lt
 have hk := Blk.new w 26 #[.int .i64 0, .bool false, .int .i64 0, .string ⟨#[]⟩, .slice none 0 0, .slice none 0 0]
 have hb := (Below.refl w.heap.size w).alloc (Nat.le_refl _) (.cells #[.int .i64 0, .bool false, .int .i64 0, .string ⟨#[]⟩, .slice none 0 0, .slice none 0 0] 26)
 have HK := Lib.hid hk
 have HB := Lib.hid hb
 have HP := Lib.hid hP
 have HR := Lib.hid hr
 clear hk hb hP hr hL
 cases wd with
 | mark c => exact absurd rfl (hno c)
 | none =>
  have hv : Hid (valW d .none rest = .error 3) := by show _ = _; rw [valW]
  simp only [wordV]
  go_enter Tryz.func74, Tryz.ntmps74
  go_wp2_with (refine wpList_store_blk rfl 26 _ _ rfl w.heap.size _ #[.int .i64 0, .bool false, .int .i64 0, .string ⟨#[]⟩, .slice none 0 0, .slice none 0 0] 26 rfl rfl HK.out rfl jv_size (jv_ones _ _ _ _ _ _ _ _ _ _) ?_)
  refine bodyPost_ret (results_j_t Tryz.results74 _ _ w.heap.size _ _ _ _ _ _ rfl HK.out.setRow) rfl ?_
  exact valR_err hv.out _ _ _ _ _ _ _ _ _ _ rfl (below_row (below_setRow HB.out (Nat.le_refl _) _) _)
 | phrase t =>
  have hv : Hid (valW d (.phrase t) rest = .ok (.mk 4 false 0 t [] [], rest)) := by show _ = _; rw [valW]
  simp only [wordV, strV]
  generalize hz : (⟨t.toArray⟩ : ByteArray) = z at *
  have HZ := Lib.hid hz
  have hs1 := as_pm
  clear hz
  have cpl := Lib.hid (plain_phrase z)
  go_enter Tryz.func74, Tryz.ntmps74
  go_wp2_with fail
  refine (cpl.out _).mono ?_
  rintro _ w2 ⟨rfl, hw2⟩
  have HKA := HK.out.below hw2 HK.out.lt
  have hb2 := below_next HB.out hw2
  have hZ := (Below.refl w2.heap.size w2).alloc (Nat.le_refl _) (.cells #[.int .i64 0, .bool false, .int .i64 0, .string ⟨#[]⟩, .slice none 0 0, .slice none 0 0] 26)
  have HN := Lib.hid (Blk.new w2 26 #[.int .i64 0, .bool false, .int .i64 0, .string ⟨#[]⟩, .slice none 0 0, .slice none 0 0])
  have hS := below_setRow hZ (Nat.le_refl _) #[.int .i64 4, .bool false, .int .i64 0, .string z, .slice none 0 0, .slice none 0 0]
  have HM := Lib.hid (HKA.below hS HKA.lt)
  have hg9 := Lib.hid (below_setRow (below_next hb2 hS) (Nat.le_refl _) #[.int .i64 4, .bool false, .int .i64 0, .string z, .slice none 0 0, .slice none 0 0])
  have hx6 := six_cells (HN.out.setRow (cs' := #[.int .i64 4, .bool false, .int .i64 0, .string z, .slice none 0 0, .slice none 0 0]))
  obtain ⟨l0, l1, l2, l3, l4, l5⟩ := hx6
  clear HKA hb2 hZ hS hw2
  go_wp2_with (first | refine wpList_store_blk rfl 26 _ _ rfl w2.heap.size _ #[.int .i64 4, .bool false, .int .i64 0, .string z, .slice none 0 0, .slice none 0 0] 26 rfl rfl HN.out rfl jv_size (jv_ones _ _ _ _ _ _ _ _ _ _) ?_ | refine wpList_load_at rfl 26 _ rfl ⟨w2.heap.size, 0, none⟩ rfl [.int .i64 4, .bool false, .int .i64 0, .string z, .slice none 0 0, .slice none 0 0] _ (blk_cells HN.out.setRow) Tryz.underlying26 rfl jv_size ?_ | refine wpList_store_blk rfl 26 _ _ rfl w.heap.size _ #[.int .i64 4, .bool false, .int .i64 0, .string z, .slice none 0 0, .slice none 0 0] 26 rfl rfl HM.out rfl jv_size (jv_ones _ _ _ _ _ _ _ _ _ _) ?_)
  refine bodyPost_ret (results_j_t Tryz.results74 _ _ w.heap.size _ _ _ _ _ _ rfl HM.out.setRow) rfl ?_
  exact valR_leaf hv.out (by rw [HZ.out]; rfl) (HP.out.below hg9.out) (HR.out (by simp)) (below_row hg9.out _)
 | number n =>
  have hv : Hid (valW d (.number n) rest = .ok (.mk 3 false n [] [] [], rest)) := by show _ = _; rw [valW]
  simp only [wordV]
  have hs1 := as_nm
  have cpl := Lib.hid (plain_number n)
  go_enter Tryz.func74, Tryz.ntmps74
  go_wp2_with fail
  refine (cpl.out _).mono ?_
  rintro _ w2 ⟨rfl, hw2⟩
  have HKA := HK.out.below hw2 HK.out.lt
  have hb2 := below_next HB.out hw2
  have hZ := (Below.refl w2.heap.size w2).alloc (Nat.le_refl _) (.cells #[.int .i64 0, .bool false, .int .i64 0, .string ⟨#[]⟩, .slice none 0 0, .slice none 0 0] 26)
  have HN := Lib.hid (Blk.new w2 26 #[.int .i64 0, .bool false, .int .i64 0, .string ⟨#[]⟩, .slice none 0 0, .slice none 0 0])
  have hS := below_setRow hZ (Nat.le_refl _) #[.int .i64 3, .bool false, .int .i64 n, .string ⟨#[]⟩, .slice none 0 0, .slice none 0 0]
  have HM := Lib.hid (HKA.below hS HKA.lt)
  have hg9 := Lib.hid (below_setRow (below_next hb2 hS) (Nat.le_refl _) #[.int .i64 3, .bool false, .int .i64 n, .string ⟨#[]⟩, .slice none 0 0, .slice none 0 0])
  have hx6 := six_cells (HN.out.setRow (cs' := #[.int .i64 3, .bool false, .int .i64 n, .string ⟨#[]⟩, .slice none 0 0, .slice none 0 0]))
  obtain ⟨l0, l1, l2, l3, l4, l5⟩ := hx6
  clear HKA hb2 hZ hS hw2
  go_wp2_with (first | refine wpList_store_blk rfl 26 _ _ rfl w2.heap.size _ #[.int .i64 3, .bool false, .int .i64 n, .string ⟨#[]⟩, .slice none 0 0, .slice none 0 0] 26 rfl rfl HN.out rfl jv_size (jv_ones _ _ _ _ _ _ _ _ _ _) ?_ | refine wpList_load_at rfl 26 _ rfl ⟨w2.heap.size, 0, none⟩ rfl [.int .i64 3, .bool false, .int .i64 n, .string ⟨[]⟩, .slice none 0 0, .slice none 0 0] _ (blk_cells HN.out.setRow) Tryz.underlying26 rfl jv_size ?_ | refine wpList_store_blk rfl 26 _ _ rfl w.heap.size _ #[.int .i64 3, .bool false, .int .i64 n, .string ⟨#[]⟩, .slice none 0 0, .slice none 0 0] 26 rfl rfl HM.out rfl jv_size (jv_ones _ _ _ _ _ _ _ _ _ _) ?_)
  refine bodyPost_ret (results_j_t Tryz.results74 _ _ w.heap.size _ _ _ _ _ _ rfl HM.out.setRow) rfl ?_
  exact valR_leaf hv.out rfl (HP.out.below hg9.out) (HR.out (by simp)) (below_row hg9.out _)
 | value k b =>
  have hv : Hid (valW d (.value k b) rest = .ok (.mk k b 0 [] [] [], rest)) := by show _ = _; rw [valW]
  simp only [wordV, cells6, strV]
  have hs1 := as_vm
  have cpl := Lib.hid (plain_value k b)
  go_enter Tryz.func74, Tryz.ntmps74
  go_wp2_with fail
  refine (cpl.out _).mono ?_
  rintro _ w2 ⟨rfl, hw2⟩
  have HKA := HK.out.below hw2 HK.out.lt
  have hb2 := below_next HB.out hw2
  have hZ := (Below.refl w2.heap.size w2).alloc (Nat.le_refl _) (.cells #[.int .i64 0, .bool false, .int .i64 0, .string ⟨#[]⟩, .slice none 0 0, .slice none 0 0] 26)
  have HN := Lib.hid (Blk.new w2 26 #[.int .i64 0, .bool false, .int .i64 0, .string ⟨#[]⟩, .slice none 0 0, .slice none 0 0])
  have hS := below_setRow hZ (Nat.le_refl _) #[.int .i64 k, .bool b, .int .i64 0, .string ⟨#[]⟩, .slice none 0 0, .slice none 0 0]
  have HM := Lib.hid (HKA.below hS HKA.lt)
  have hg9 := Lib.hid (below_setRow (below_next hb2 hS) (Nat.le_refl _) #[.int .i64 k, .bool b, .int .i64 0, .string ⟨#[]⟩, .slice none 0 0, .slice none 0 0])
  have hx6 := six_cells (HN.out.setRow (cs' := #[.int .i64 k, .bool b, .int .i64 0, .string ⟨#[]⟩, .slice none 0 0, .slice none 0 0]))
  obtain ⟨l0, l1, l2, l3, l4, l5⟩ := hx6
  clear HKA hb2 hZ hS hw2
  go_wp2_with (first | refine wpList_store_blk rfl 26 _ _ rfl w2.heap.size _ #[.int .i64 k, .bool b, .int .i64 0, .string ⟨#[]⟩, .slice none 0 0, .slice none 0 0] 26 rfl rfl HN.out rfl jv_size (jv_ones _ _ _ _ _ _ _ _ _ _) ?_ | refine wpList_load_at rfl 26 _ rfl ⟨w2.heap.size, 0, none⟩ rfl [.int .i64 k, .bool b, .int .i64 0, .string ⟨[]⟩, .slice none 0 0, .slice none 0 0] _ (blk_cells HN.out.setRow) Tryz.underlying26 rfl jv_size ?_ | refine wpList_store_blk rfl 26 _ _ rfl w.heap.size _ #[.int .i64 k, .bool b, .int .i64 0, .string ⟨#[]⟩, .slice none 0 0, .slice none 0 0] 26 rfl rfl HM.out rfl jv_size (jv_ones _ _ _ _ _ _ _ _ _ _) ?_)
  refine bodyPost_ret (results_j_t Tryz.results74 _ _ w.heap.size _ _ _ _ _ _ rfl HM.out.setRow) rfl ?_
  exact valR_leaf hv.out rfl (HP.out.below hg9.out) (HR.out (by simp)) (below_row hg9.out _)
theorem ValR.up {g : Nat} {s : ByteArray} {r : Got} {w w2 : World} {e : Ending} {o : Obj} (hg : g < w.heap.size) (h : ValR g s r (w.alloc o) e w2) :
  ∃ k b n st NA nn nc A m c er, e = .returned (.tuple #[.agg #[.int .i64 k, .bool b, .int .i64 n, .string st, .slice NA nn nc, .slice A m c], .int .i64 er]) ∧ (w.alloc o).grownBy w2 (some g) ∧ ∀ cells, ValR g s r w e (w2.setRow w.heap.size cells) := by
 have h0 : w.grownBy (w.alloc o) (some g) := below_row ((Below.refl w.heap.size w).alloc (Nat.le_refl _) o) _
 have hs : w.heap.size + 1 = (w.alloc o).heap.size := by simp
 cases r with
 | error er =>
  obtain ⟨k, b, n, st, NA, nn, nc, A, m, c, rfl, hgr⟩ := h
  refine ⟨k, b, n, st, NA, nn, nc, A, m, c, er, rfl, hgr, fun cells => ⟨k, b, n, st, NA, nn, nc, A, m, c, rfl, ?_⟩⟩
  exact grown_then (grown_then h0 hgr (fun q e => .inl (by injection e with e; exact e.symm))) (setRow_only w2 w.heap.size cells) (fun q e => .inr (by injection e with e; omega))
 | ok v =>
  obtain ⟨cs, q, rfl, hv, hp, hd, hgr⟩ := h
  obtain ⟨v, r'⟩ := v
  obtain ⟨_, _, _, _, _, _, _, _, _, _, rfl⟩ := hv.form
  refine ⟨_, _, _, _, _, _, _, _, _, _, 0, rfl, hgr, fun cells => ⟨_, q, rfl, ?_, hp.grown (setRow_only w2 w.heap.size cells) (by simp; omega), hd, ?_⟩⟩
  ·
   exact (hv.grown (setRow_only w2 w.heap.size cells) (fun q e => by injection e with e; omega)).low (by omega)
  ·
   exact grown_then (grown_then h0 hgr (fun q e => .inl (by injection e with e; exact e.symm))) (setRow_only w2 w.heap.size cells) (fun q e => .inr (by injection e with e; omega))
theorem value_mark (d : Nat) (hm : ∀ d', d = d' + 1 → ManyOk 105 listR d' ∧ ManyOk 106 objR d') (g : Nat) (s : ByteArray) (p B : Nat) (c : UInt8) (rest : List UInt8) (deep : Nat) (w : World) (hB : B ≤ g) (hL : LaidB w B) (hP : PAt w g s p) (hr : s.data.toList.drop p = rest) (hdd : deep + d = 8) :
  Calls Tryz.prog 74 #[.pointer (some ⟨g, 0, none⟩), wordV (.mark c), .int .i64 (deep : Int)] w (ValR g s (valW d (.mark c) rest) w) := by
 have hgl := hP.lt
 have hk := Blk.new w 26 #[.int .i64 0, .bool false, .int .i64 0, .string ⟨#[]⟩, .slice none 0 0, .slice none 0 0]
 have hb := (Below.refl w.heap.size w).alloc (Nat.le_refl _) (.cells #[.int .i64 0, .bool false, .int .i64 0, .string ⟨#[]⟩, .slice none 0 0, .slice none 0 0] 26)
 have HK := Lib.hid hk
 have HB := Lib.hid hb
 have HP := Lib.hid (hP.below hb)
 have HL := Lib.hid (hL.grown (below_row hb none) (by simp))
 have HR := Lib.hid hr
 clear hk hb hP hr hL
 have has := as_mm
 simp only [wordV]
 have hc2 : c.toNat < 256 := c.toNat_lt
 have hcc : Hid (c.toNat = c.toNat) := rfl
 by_cases h1 : c = 91 ∨ c = 123
 case neg =>
  have hv : Hid (valW d (.mark c) rest = .error 3) := by show _ = _; cases d <;> simp only [valW, if_neg h1]
  have e1 : ((c.toNat : Int) == 91) = false := by
   have : ¬ c.toNat = 91 := fun h => h1 (.inl (UInt8.toNat_inj.1 h))
   simp; omega
  have e2 : ((c.toNat : Int) == 123) = false := by
   have : ¬ c.toNat = 123 := fun h => h1 (.inr (UInt8.toNat_inj.1 h))
   simp; omega
  have e3 : ((c.toNat : Int) != 91) = true := by simp [bne, e1]
  have e4 : ((c.toNat : Int) != 123) = true := by simp [bne, e2]
  clear h1
  generalize hm : (c.toNat : Int) = mi at *
  clear hm hcc hc2
  go_enter Tryz.func74, Tryz.ntmps74
  go_wp2_with (refine wpList_store_blk rfl 26 _ _ rfl w.heap.size _ #[.int .i64 0, .bool false, .int .i64 0, .string ⟨#[]⟩, .slice none 0 0, .slice none 0 0] 26 rfl rfl HK.out rfl jv_size (jv_ones _ _ _ _ _ _ _ _ _ _) ?_)
  refine bodyPost_ret (results_j_t Tryz.results74 _ _ w.heap.size _ _ _ _ _ _ rfl HK.out.setRow) rfl ?_
  exact valR_err hv.out _ _ _ _ _ _ _ _ _ _ rfl (below_row (below_setRow HB.out (Nat.le_refl _) _) _)
 case pos =>
  have h91 : ((c.toNat : Int) == 91) = decide (c = 91) := by
   by_cases hc : c = 91
   ·
    subst hc; rfl
   ·
    have : ¬ c.toNat = 91 := fun h => hc (UInt8.toNat_inj.1 h)
    simp [hc]; omega
  have h123 : (((c.toNat : Int) == 91) = true ∧ ((c.toNat : Int) != 91) = false ∧ c = 91) ∨ (((c.toNat : Int) == 91) = false ∧ ((c.toNat : Int) != 91) = true ∧ ((c.toNat : Int) == 123) = true ∧ ((c.toNat : Int) != 123) = false ∧ c = 123) := by
   rcases h1 with rfl | rfl
   ·
    exact .inl ⟨rfl, rfl, rfl⟩
   ·
    exact .inr ⟨rfl, rfl, rfl, rfl, rfl⟩
  clear h91 h1
  cases d with
  | zero =>
   have hv : Hid (valW 0 (.mark c) rest = .error 4) := by
    show _ = _
    rcases h123 with ⟨_, _, rfl⟩ | ⟨_, _, _, _, rfl⟩ <;> simp [valW]
   have d8 : decide ((8 : Int) ≤ (deep : Int)) = true := by simp; omega
   have d9 : decide (8 ≤ deep) = true := by simp; omega
   generalize hmm : (c.toNat : Int) = mi at *
   rcases h123 with ⟨e1, e2, _⟩ | ⟨e1, e2, e3, e4, _⟩
   all_goals
    clear hmm hcc hc2 hm
    go_enter Tryz.func74, Tryz.ntmps74
    go_wp2_with (refine wpList_store_blk rfl 26 _ _ rfl w.heap.size _ #[.int .i64 0, .bool false, .int .i64 0, .string ⟨#[]⟩, .slice none 0 0, .slice none 0 0] 26 rfl rfl HK.out rfl jv_size (jv_ones _ _ _ _ _ _ _ _ _ _) ?_)
    refine bodyPost_ret (results_j_t Tryz.results74 _ _ w.heap.size _ _ _ _ _ _ rfl HK.out.setRow) rfl ?_
    exact valR_err hv.out _ _ _ _ _ _ _ _ _ _ rfl (below_row (below_setRow HB.out (Nat.le_refl _) _) _)
  | succ d =>
   obtain ⟨hl, ho⟩ := hm d rfl
   have d8 : decide ((8 : Int) ≤ (deep : Int)) = false := by simp; omega
   have d9 : decide (8 ≤ deep) = false := by simp; omega
   have H1 : Hid ((deep : Int) + 1 = ((deep + 1 : Nat) : Int)) := by show _ = _; omega
   have cl := hl g s p B (deep + 1) _ hB HL.out HP.out (by omega)
   have co := ho g s p B (deep + 1) _ hB HL.out HP.out (by omega)
   rw [← H1.out, HR.out] at cl co
   have CL := Lib.hid cl
   have CO := Lib.hid co
   clear cl co hl ho hm
   rcases h123 with ⟨e1, e2, rfl⟩ | ⟨e1, e2, e3, e4, rfl⟩
   ·
    have hv : Hid (valW (d + 1) (.mark 91) rest = listR (valW d) rest) := by show _ = _; simp [valW]
    go_enter Tryz.func74, Tryz.ntmps74
    go_wp2_with fail
    refine (CL.out).mono ?_
    rintro e w2 hw
    obtain ⟨k, b, n, st, NA, nn, nc, A, m, cc, er, rfl, hg2, hfin⟩ := ValR.up hgl hw
    have HM := Lib.hid (HK.out.grown hg2 (by simp; omega))
    have HF := Lib.hid hfin
    clear hw hfin hg2
    go_wp2_with (refine wpList_store_blk rfl 26 _ _ rfl w.heap.size _ #[.int .i64 k, .bool b, .int .i64 n, .string st, .slice NA nn nc, .slice A m cc] 26 rfl rfl HM.out rfl jv_size (jv_ones _ _ _ _ _ _ _ _ _ _) ?_)
    refine bodyPost_ret (results_j_t Tryz.results74 _ _ w.heap.size _ _ _ _ _ _ rfl HM.out.setRow) rfl ?_
    rw [hv.out]
    exact HF.out _
   ·
    have hv : Hid (valW (d + 1) (.mark 123) rest = objR (valW d) rest) := by show _ = _; simp [valW]
    go_enter Tryz.func74, Tryz.ntmps74
    go_wp2_with fail
    refine (CO.out).mono ?_
    rintro e w2 hw
    obtain ⟨k, b, n, st, NA, nn, nc, A, m, cc, er, rfl, hg2, hfin⟩ := ValR.up hgl hw
    have HM := Lib.hid (HK.out.grown hg2 (by simp; omega))
    have HF := Lib.hid hfin
    clear hw hfin hg2
    go_wp2_with (refine wpList_store_blk rfl 26 _ _ rfl w.heap.size _ #[.int .i64 k, .bool b, .int .i64 n, .string st, .slice NA nn nc, .slice A m cc] 26 rfl rfl HM.out rfl jv_size (jv_ones _ _ _ _ _ _ _ _ _ _) ?_)
    refine bodyPost_ret (results_j_t Tryz.results74 _ _ w.heap.size _ _ _ _ _ _ rfl HM.out.setRow) rfl ?_
    rw [hv.out]
    exact HF.out _
theorem value_all (hl : ∀ d, ValOk d → ManyOk 105 listR d) (ho : ∀ d, ValOk d → ManyOk 106 objR d) : ∀ d, ValOk d
 | 0 => fun g s p B wd rest deep w hB hL hP hr hd => by
  by_cases h : ∃ c, wd = .mark c
  ·
   obtain ⟨c, rfl⟩ := h
   exact value_mark 0 (fun d' e => by omega) g s p B c rest deep w hB hL hP (hr (by simp)) hd
  ·
   exact value_leaf 0 g s p B wd rest deep w hB hL hP hr hd (fun c e => h ⟨c, e⟩)
 | d + 1 => fun g s p B wd rest deep w hB hL hP hr hd => by
  by_cases h : ∃ c, wd = .mark c
  ·
   obtain ⟨c, rfl⟩ := h
   have ih := value_all hl ho d
   exact value_mark (d + 1) (fun d' e => by obtain rfl : d' = d := (by omega); exact ⟨hl d' ih, ho d' ih⟩) g s p B c rest deep w hB hL hP (hr (by simp)) hd
  ·
   exact value_leaf (d + 1) g s p B wd rest deep w hB hL hP hr hd (fun c e => h ⟨c, e⟩)
end Go.Proofs.YtieppmppdmcleaaGreatDoor

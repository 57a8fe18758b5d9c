/- countersignref12's reader: value, given lists and objects. Condition: a text of at most 1000000 bytes. Printed by wip/tools/genOf.py. -/
import Derived.Test.YtieppmppdmcleaaGreatDoorOe
set_option linter.unusedVariables false
set_option linter.unusedSimpArgs false
set_option maxRecDepth 20000
namespace Go.Proofs.YtieppmppdmcleaaGreatDoor
open Go.RowKit Go.Maps
def RValR (g : Nat) (s : ByteArray) (r : Got) (w : World) (f : Ending) (w' : World) : Prop :=
 w.grownBy w' (some g) ∧ match r with
  | .error er => ∃ (k : Int) (b : Bool) (n : Int) (st : ByteArray) (NA : Option Addr) (nn nc : Nat) (A : Option Addr) (m c q : Nat), f = .returned (.agg #[.int .i64 k, .bool b, .int .i64 n, .string st, .slice NA nn nc, .slice A m c]) ∧ RAt w' g s q er
  | .ok (v, r2) => ∃ cs q, f = .returned (.agg cs.toArray) ∧ JvV w' w.heap.size v cs ∧ RAt w' g s q 0 ∧ s.data.toList.drop q = r2
def RValOk (d : Nat) : Prop := ∀ (g : Nat) (s : ByteArray) (p deep : Nat) (w : World), RAt w g s p 0 → deep + d = 8 →
 Calls Tryz.prog 53 #[.pointer (some ⟨g, 0, none⟩), .int .i64 (deep : Int)] w (RValR g s (valW d (wordR (s.data.toList.drop p)).1 (wordR (s.data.toList.drop p)).2) w)
def manyE (kind : Int) (d : Nat) (l : List UInt8) : Got := match d with
 | 0 => .error 4
 | d + 1 => if kind = 5 then listR (valW d) l else objR (valW d) l
def RManyOk (d : Nat) : Prop := ∀ (g : Nat) (s : ByteArray) (p deep : Nat) (kind : Int) (w : World), RAt w g s p 0 → p < s.size → deep + d = 8 → (kind = 5 ∨ kind = 6) →
 Calls Tryz.prog 83 #[.pointer (some ⟨g, 0, none⟩), .int .i64 kind, .int .i64 (deep : Int)] w (RValR g s (manyE kind d (s.data.toList.drop (p + 1))) w)
theorem rvalR_err {g q : Nat} {s : ByteArray} {w w' : World} {f : Ending} {er : Nat} {r : Got} (hr : r = .error er) (k : Int) (b : Bool) (n : Int) (st : ByteArray) (NA : Option Addr) (nn nc : Nat) (A : Option Addr) (m c : Nat)
  (hf : f = .returned (.agg #[.int .i64 k, .bool b, .int .i64 n, .string st, .slice NA nn nc, .slice A m c])) (hg : w.grownBy w' (some g)) (h : RAt w' g s q er) : RValR g s r w f w' := by
 subst hr
 exact ⟨hg, k, b, n, st, NA, nn, nc, A, m, c, q, hf, h⟩
theorem rvalR_leaf {g q : Nat} {s : ByteArray} {w w' : World} {f : Ending} {r : Got} {k : Int} {b : Bool} {n : Int} {t rest : List UInt8} (hr : r = .ok (.mk k b n t [] [], rest))
  (hf : f = .returned (.agg #[.int .i64 k, .bool b, .int .i64 n, .string ⟨t.toArray⟩, .slice none 0 0, .slice none 0 0])) (hg : w.grownBy w' (some g)) (h : RAt w' g s q 0) (hd : s.data.toList.drop q = rest) : RValR g s r w f w' := by
 subst hr
 exact ⟨hg, _, q, hf, jv_leaf _ _ _ _ _ _, h, hd⟩
structure VSt (g : Nat) (s : ByteArray) (q e : Nat) (w : World) (W : World) : Prop where
 at_ : RAt W g s q e
 grown : w.grownBy W (some g)
 blk : Blk W w.heap.size 26 #[.int .i64 0, .bool false, .int .i64 0, .string ⟨#[]⟩, .slice none 0 0, .slice none 0 0]
 lt : g < w.heap.size
section
variable {g q e q' e' : Nat} {s : ByteArray} {w W W' : World}
theorem VSt.dn (h : VSt g s q e w W) (n : Nat) : VSt g s q e w (W.drewN n) := ⟨h.at_.dn n, grown_dn h.grown n, h.blk, h.lt⟩
theorem VSt.call (h : VSt g s q e w W) (hg : W.grownBy W' (some g)) (ha : RAt W' g s q' e') : VSt g s q' e' w W' := ⟨ha, grown_then h.grown hg (fun q e => .inl (by injection e with e; exact e.symm)), h.blk.grown hg (fun e => by injection e with e; have := h.lt; omega), h.lt⟩
theorem VSt.set_ (h : VSt g s q e w W) (cells : Array Value) : RAt (W.setRow w.heap.size cells) g s q e ∧ w.grownBy (W.setRow w.heap.size cells) (some g) := by
 have hsr := setRow_only W w.heap.size cells
 have hl := h.lt
 exact ⟨h.at_.grown hsr (by simp; omega), grown_then h.grown hsr (fun q e => .inr (by injection e with e; omega))⟩
end
theorem skip_first {l r : List UInt8} {c : UInt8} (h : skipB l = c :: r) : isBlank c = false := by
  have : ∀ l : List UInt8, ∀ c r, l.dropWhile isBlank = c :: r → isBlank c = false := by
   intro l
   induction l with
   | nil => intro c r h; simp at h
   | cons x t ih =>
    intro c r h
    by_cases hx : isBlank x = true
    ·
     rw [List.dropWhile_cons_of_pos hx] at h; exact ih c r h
    ·
     rw [List.dropWhile_cons_of_neg hx] at h; injection h with h _; rw [← h]; simpa using hx
  exact this l c r h
theorem wordR_of {l r : List UInt8} {c : UInt8} (h : skipB l = c :: r) : wordR l = wordR (c :: r) := by
 have hb := skip_first h
 unfold wordR
 rw [h, skipB_no hb]
theorem word_bad110 {r : List UInt8} (h : ([110, 117, 108, 108] : List UInt8).isPrefixOf (110 :: r) = false) : wordR (110 :: r) = (.none, []) := by
 unfold wordR nameR
 rw [skipB_no (by decide +kernel)]
 simp only [show isMark 110 = false by decide +kernel, show isDig 110 = false by decide +kernel, h]
 simp
theorem word_bad116 {r : List UInt8} (h : ([116, 114, 117, 101] : List UInt8).isPrefixOf (116 :: r) = false) : wordR (116 :: r) = (.none, []) := by
 unfold wordR nameR
 rw [skipB_no (by decide +kernel)]
 simp only [show isMark 116 = false by decide +kernel, show isDig 116 = false by decide +kernel, h]
 simp
theorem word_bad102 {r : List UInt8} (h : ([102, 97, 108, 115, 101] : List UInt8).isPrefixOf (102 :: r) = false) : wordR (102 :: r) = (.none, []) := by
 unfold wordR nameR
 rw [skipB_no (by decide +kernel)]
 simp only [show isMark 102 = false by decide +kernel, show isDig 102 = false by decide +kernel, h]
 simp
theorem val_mark0 (d : Nat) {c : UInt8} (r : List UInt8) (h1 : ¬ c = 91) (h2 : ¬ c = 123) : valW d (.mark c) r = .error 3 := by cases d <;> simp [valW, h1, h2]
theorem num_first : ∀ c : UInt8, (c = 45 ∨ isDig c = true) → isBlank c = false ∧ isMark c = false ∧ c ≠ 34 := fun c h => dig_facts c h.symm
theorem wordR_num {c : UInt8} {r : List UInt8} (h : c = 45 ∨ isDig c = true) : wordR (c :: r) = numW c r := by
 obtain ⟨h1, h2, h3⟩ := num_first c h
 rw [wordR_cons (skipB_no h1), h2, if_neg (by simp), if_neg h3, if_pos (by simpa using h)]
theorem val_else {d : Nat} {c : UInt8} {r : List UInt8} (h1 : ¬ c = 110) (h2 : ¬ c = 116) (h3 : ¬ c = 102) (h4 : ¬ c = 34) (h5 : ¬ c = 91) (h6 : ¬ c = 123) (h7 : ¬ c = 45) (h8 : isDig c = false) (hb : isBlank c = false) : valW d (wordR (c :: r)).1 (wordR (c :: r)).2 = .error 3 := by
 rw [wordR_cons (skipB_no hb)]
 cases hm : isMark c with
 | true => simp only [if_true]; exact val_mark0 d r h5 h6
 | false =>
  simp only [Bool.false_eq_true, if_false, h4, h7, h8, decide_false, Bool.or_self]
  rw [nameR]
  simp only [List.isPrefixOf, beq_eq_false_iff_ne.2 (Ne.symm h1), beq_eq_false_iff_ne.2 (Ne.symm h2), beq_eq_false_iff_ne.2 (Ne.symm h3), Bool.false_and, Bool.false_eq_true, if_false]
  cases d <;> simp [valW]
set_option maxHeartbeats 16000000 in
theorem rvalue_step (d : Nat) (hmany : RManyOk d) : RValOk d := by
 intro g s p deep w hP hdd
 have hgl := hP.lt
 have hsm := hP.2.2
 have hal := (Below.refl w.heap.size w).alloc (Nat.le_refl _) (.cells #[.int .i64 0, .bool false, .int .i64 0, .string ⟨#[]⟩, .slice none 0 0, .slice none 0 0] 26)
 have HV0 : Hid (VSt g s p 0 w (w.alloc (.cells #[.int .i64 0, .bool false, .int .i64 0, .string ⟨#[]⟩, .slice none 0 0, .slice none 0 0] 26))) := ⟨hP.below hal, only_alloc (only_refl w (some g)) _, Blk.new w 26 _, hgl⟩
 have cb := Lib.hid (rblanks_walk g s p 0 _ HV0.out.at_)
 have HM := Lib.hid hmany
 clear hP hal hmany
 go_enter Tryz.func53, Tryz.ntmps53
 go_wp2_with fail
 refine cb.out.mono ?_
 rintro _ w1 ⟨q, rfl, hR, hd, hg⟩
 have HV := Lib.hid (HV0.out.call hg hR)
 have HD := Lib.hid hd
 have hq := hR.2.1
 obtain ⟨c0, c1, f1, c2, f2⟩ := hR.facts
 clear hR hg cb HV0 hd
 cases hl : skipB (s.data.toList.drop p) with
 | nil =>
  have hqe : q = s.size := by
   have := congrArg List.length HD.out
   rw [hl, List.length_drop] at this
   simp at this
   omega
  have hv : Hid (valW d (wordR (s.data.toList.drop p)).1 (wordR (s.data.toList.drop p)).2 = .error 3) := by
   show _ = _
   rw [wordR_nil hl]; cases d <;> simp [valW]
  have g1 : decide ((s.size : Int) ≤ (q : Int)) = true := by simp; omega
  have g2 : decide (s.size ≤ q) = true := by simp; omega
  have CF := Lib.hid (fun n => fail_walk g s q 0 3 (w1.drewN n) (HV.out.dn n).at_)
  clear hl hqe
  go_wp2_with fail
  go_quiet (fail)
  go_wp2_with fail
  refine (CF.out nq).mono ?_
  rintro _ W2 ⟨rfl, hR2, hg2⟩
  have HV2 := Lib.hid ((HV.out.dn nq).call hg2 (show RAt W2 g s q 3 from hR2))
  clear hR2 hg2 HV CF c0 c1 f1 c2 f2
  go_wp2_with (refine wpList_store_blk rfl 26 _ _ rfl w.heap.size _ #[.int .i64 0, .bool false, .int .i64 0, .string ⟨#[]⟩, .slice none 0 0, .slice none 0 0] 26 rfl rfl HV2.out.blk rfl jv_size (jv_ones _ _ _ _ _ _ _ _ _ _) ?_)
  refine bodyPost_ret (results_cell_row Tryz.results53 _ _ w.heap.size _ _ _ _ rfl HV2.out.blk.setRow Tryz.underlying26 rfl (by kernel_rfl)) rfl ?_
  exact rvalR_err hv.out _ _ _ _ _ _ _ _ _ _ rfl (HV2.out.set_ _).2 (HV2.out.set_ _).1
 | cons c r =>
  have hds := drop_succ (HD.out.trans hl)
  have hqs := hds.1
  have hwr := wordR_of hl
  have HBL := Lib.hid (skip_first hl)
  have HQL := Lib.hid (HD.out.trans hl)
  have g1 : decide ((s.size : Int) ≤ (q : Int)) = false := by simp; omega
  have g2 : decide (s.size ≤ q) = false := by simp; omega
  have HWR : Hid (wordR (s.data.toList.drop p) = wordR (c :: r)) := hwr
  clear hl hds hwr HD
  have cat : ∀ (x : UInt8) (n : Nat), Calls Tryz.prog 80 #[.pointer (some ⟨g, 0, none⟩), .int .u8 (x.toNat : Int)] (w1.drewN n) fun f w' => f = .returned (.bool (decide (c = x))) ∧ ∃ m, w' = (w1.drewN n).drewN m := fun x n => by
   have := at_walk g s q 0 x (w1.drewN n) (HV.out.dn n).at_
   rw [HQL.out] at this
   exact this
  have CAT := Lib.hid cat
  clear cat
  by_cases hc110 : c = 110
  case pos =>
   subst hc110
   have e110 : decide ((110 : UInt8) = 110) = true := by decide
   have HVM := Lib.hid (fun n => HV.out.dn n)
   go_wp2_with fail
   go_quiet (fail)
   revert nq; intro m0
   go_wp2_with fail
   refine (CAT.out 110 (m0)).mono ?_
   rintro _ _ ⟨rfl, a0, rfl⟩
   rw [World.drewN_drewN]
   have cw := word_walk g s q ⟨#[110, 117, 108, 108]⟩ [110, 117, 108, 108] rfl (by decide) _ (HVM.out (m0 + a0)).at_
   rw [HQL.out] at cw
   have CW := Lib.hid cw
   clear cw
   go_wp2_with fail
   refine CW.out.mono ?_
   rintro _ W2 ⟨rfl, hg2, hR2⟩
   cases hpx : ([110, 117, 108, 108] : List UInt8).isPrefixOf (110 :: r)
   ·
    rw [hpx] at hR2
    have hv : Hid (valW d (wordR (s.data.toList.drop p)).1 (wordR (s.data.toList.drop p)).2 = .error 3) := by
     show _ = _
     rw [HWR.out, word_bad110 hpx]; cases d <;> simp [valW]
    have HV2 := Lib.hid ((HVM.out (m0 + a0)).call hg2 (show RAt W2 g s q 3 from hR2))
    clear hR2 hg2 HV HVM CW CAT c0 c1 f1 c2 f2 hpx
    go_wp2_with (refine wpList_store_blk rfl 26 _ _ rfl w.heap.size _ #[.int .i64 1, .bool false, .int .i64 0, .string ⟨#[]⟩, .slice none 0 0, .slice none 0 0] 26 rfl rfl HV2.out.blk rfl jv_size (jv_ones _ _ _ _ _ _ _ _ _ _) ?_)
    refine bodyPost_ret (results_cell_row Tryz.results53 _ _ w.heap.size _ _ _ _ rfl HV2.out.blk.setRow Tryz.underlying26 rfl (by kernel_rfl)) rfl ?_
    exact rvalR_err hv.out _ _ _ _ _ _ _ _ _ _ rfl (HV2.out.set_ _).2 (HV2.out.set_ _).1
   ·
    rw [hpx] at hR2
    obtain ⟨r2, hr2⟩ := List.isPrefixOf_iff_prefix.1 hpx
    have hv : Hid (valW d (wordR (s.data.toList.drop p)).1 (wordR (s.data.toList.drop p)).2 = .ok (.mk 1 false 0 [] [] [], r2)) := by
     show _ = _
     rw [HWR.out, ← hr2]
     rw [show ([110, 117, 108, 108] : List UInt8) ++ r2 = 110 :: 117 :: 108 :: 108 :: r2 from rfl, wordR_null, valW]
    have hdq : Hid (s.data.toList.drop (q + 4) = r2) := by show _ = _; rw [← List.drop_drop, HQL.out, ← hr2]; rfl
    have HV2 := Lib.hid ((HVM.out (m0 + a0)).call hg2 (show RAt W2 g s (q + 4) 0 from hR2))
    clear hR2 hg2 HV HVM CW CAT c0 c1 f1 c2 f2 hpx
    go_wp2_with (refine wpList_store_blk rfl 26 _ _ rfl w.heap.size _ #[.int .i64 1, .bool false, .int .i64 0, .string ⟨#[]⟩, .slice none 0 0, .slice none 0 0] 26 rfl rfl HV2.out.blk rfl jv_size (jv_ones _ _ _ _ _ _ _ _ _ _) ?_)
    refine bodyPost_ret (results_cell_row Tryz.results53 _ _ w.heap.size _ _ _ _ rfl HV2.out.blk.setRow Tryz.underlying26 rfl (by kernel_rfl)) rfl ?_
    exact rvalR_leaf hv.out rfl (HV2.out.set_ _).2 (HV2.out.set_ _).1 hdq.out
  by_cases hc116 : c = 116
  case pos =>
   subst hc116
   have e110 : decide ((116 : UInt8) = 110) = false := by decide
   have e116 : decide ((116 : UInt8) = 116) = true := by decide
   have HVM := Lib.hid (fun n => HV.out.dn n)
   go_wp2_with fail
   go_quiet (fail)
   revert nq; intro m0
   go_wp2_with fail
   refine (CAT.out 110 (m0)).mono ?_
   rintro _ _ ⟨rfl, a0, rfl⟩
   rw [World.drewN_drewN]
   go_wp2_with fail
   refine (CAT.out 116 (m0 + a0)).mono ?_
   rintro _ _ ⟨rfl, a1, rfl⟩
   rw [World.drewN_drewN]
   have cw := word_walk g s q ⟨#[116, 114, 117, 101]⟩ [116, 114, 117, 101] rfl (by decide) _ (HVM.out (m0 + a0 + a1)).at_
   rw [HQL.out] at cw
   have CW := Lib.hid cw
   clear cw
   go_wp2_with fail
   refine CW.out.mono ?_
   rintro _ W2 ⟨rfl, hg2, hR2⟩
   cases hpx : ([116, 114, 117, 101] : List UInt8).isPrefixOf (116 :: r)
   ·
    rw [hpx] at hR2
    have hv : Hid (valW d (wordR (s.data.toList.drop p)).1 (wordR (s.data.toList.drop p)).2 = .error 3) := by
     show _ = _
     rw [HWR.out, word_bad116 hpx]; cases d <;> simp [valW]
    have HV2 := Lib.hid ((HVM.out (m0 + a0 + a1)).call hg2 (show RAt W2 g s q 3 from hR2))
    clear hR2 hg2 HV HVM CW CAT c0 c1 f1 c2 f2 hpx
    go_wp2_with (refine wpList_store_blk rfl 26 _ _ rfl w.heap.size _ #[.int .i64 2, .bool true, .int .i64 0, .string ⟨#[]⟩, .slice none 0 0, .slice none 0 0] 26 rfl rfl HV2.out.blk rfl jv_size (jv_ones _ _ _ _ _ _ _ _ _ _) ?_)
    refine bodyPost_ret (results_cell_row Tryz.results53 _ _ w.heap.size _ _ _ _ rfl HV2.out.blk.setRow Tryz.underlying26 rfl (by kernel_rfl)) rfl ?_
    exact rvalR_err hv.out _ _ _ _ _ _ _ _ _ _ rfl (HV2.out.set_ _).2 (HV2.out.set_ _).1
   ·
    rw [hpx] at hR2
    obtain ⟨r2, hr2⟩ := List.isPrefixOf_iff_prefix.1 hpx
    have hv : Hid (valW d (wordR (s.data.toList.drop p)).1 (wordR (s.data.toList.drop p)).2 = .ok (.mk 2 true 0 [] [] [], r2)) := by
     show _ = _
     rw [HWR.out, ← hr2]
     rw [show ([116, 114, 117, 101] : List UInt8) ++ r2 = 116 :: 114 :: 117 :: 101 :: r2 from rfl, wordR_true, valW]
    have hdq : Hid (s.data.toList.drop (q + 4) = r2) := by show _ = _; rw [← List.drop_drop, HQL.out, ← hr2]; rfl
    have HV2 := Lib.hid ((HVM.out (m0 + a0 + a1)).call hg2 (show RAt W2 g s (q + 4) 0 from hR2))
    clear hR2 hg2 HV HVM CW CAT c0 c1 f1 c2 f2 hpx
    go_wp2_with (refine wpList_store_blk rfl 26 _ _ rfl w.heap.size _ #[.int .i64 2, .bool true, .int .i64 0, .string ⟨#[]⟩, .slice none 0 0, .slice none 0 0] 26 rfl rfl HV2.out.blk rfl jv_size (jv_ones _ _ _ _ _ _ _ _ _ _) ?_)
    refine bodyPost_ret (results_cell_row Tryz.results53 _ _ w.heap.size _ _ _ _ rfl HV2.out.blk.setRow Tryz.underlying26 rfl (by kernel_rfl)) rfl ?_
    exact rvalR_leaf hv.out rfl (HV2.out.set_ _).2 (HV2.out.set_ _).1 hdq.out
  by_cases hc102 : c = 102
  case pos =>
   subst hc102
   have e110 : decide ((102 : UInt8) = 110) = false := by decide
   have e116 : decide ((102 : UInt8) = 116) = false := by decide
   have e102 : decide ((102 : UInt8) = 102) = true := by decide
   have HVM := Lib.hid (fun n => HV.out.dn n)
   go_wp2_with fail
   go_quiet (fail)
   revert nq; intro m0
   go_wp2_with fail
   refine (CAT.out 110 (m0)).mono ?_
   rintro _ _ ⟨rfl, a0, rfl⟩
   rw [World.drewN_drewN]
   go_wp2_with fail
   refine (CAT.out 116 (m0 + a0)).mono ?_
   rintro _ _ ⟨rfl, a1, rfl⟩
   rw [World.drewN_drewN]
   go_wp2_with fail
   refine (CAT.out 102 (m0 + a0 + a1)).mono ?_
   rintro _ _ ⟨rfl, a2, rfl⟩
   rw [World.drewN_drewN]
   have cw := word_walk g s q ⟨#[102, 97, 108, 115, 101]⟩ [102, 97, 108, 115, 101] rfl (by decide) _ (HVM.out (m0 + a0 + a1 + a2)).at_
   rw [HQL.out] at cw
   have CW := Lib.hid cw
   clear cw
   go_wp2_with fail
   refine CW.out.mono ?_
   rintro _ W2 ⟨rfl, hg2, hR2⟩
   cases hpx : ([102, 97, 108, 115, 101] : List UInt8).isPrefixOf (102 :: r)
   ·
    rw [hpx] at hR2
    have hv : Hid (valW d (wordR (s.data.toList.drop p)).1 (wordR (s.data.toList.drop p)).2 = .error 3) := by
     show _ = _
     rw [HWR.out, word_bad102 hpx]; cases d <;> simp [valW]
    have HV2 := Lib.hid ((HVM.out (m0 + a0 + a1 + a2)).call hg2 (show RAt W2 g s q 3 from hR2))
    clear hR2 hg2 HV HVM CW CAT c0 c1 f1 c2 f2 hpx
    go_wp2_with (refine wpList_store_blk rfl 26 _ _ rfl w.heap.size _ #[.int .i64 2, .bool false, .int .i64 0, .string ⟨#[]⟩, .slice none 0 0, .slice none 0 0] 26 rfl rfl HV2.out.blk rfl jv_size (jv_ones _ _ _ _ _ _ _ _ _ _) ?_)
    refine bodyPost_ret (results_cell_row Tryz.results53 _ _ w.heap.size _ _ _ _ rfl HV2.out.blk.setRow Tryz.underlying26 rfl (by kernel_rfl)) rfl ?_
    exact rvalR_err hv.out _ _ _ _ _ _ _ _ _ _ rfl (HV2.out.set_ _).2 (HV2.out.set_ _).1
   ·
    rw [hpx] at hR2
    obtain ⟨r2, hr2⟩ := List.isPrefixOf_iff_prefix.1 hpx
    have hv : Hid (valW d (wordR (s.data.toList.drop p)).1 (wordR (s.data.toList.drop p)).2 = .ok (.mk 2 false 0 [] [] [], r2)) := by
     show _ = _
     rw [HWR.out, ← hr2]
     rw [show ([102, 97, 108, 115, 101] : List UInt8) ++ r2 = 102 :: 97 :: 108 :: 115 :: 101 :: r2 from rfl, wordR_false, valW]
    have hdq : Hid (s.data.toList.drop (q + 5) = r2) := by show _ = _; rw [← List.drop_drop, HQL.out, ← hr2]; rfl
    have HV2 := Lib.hid ((HVM.out (m0 + a0 + a1 + a2)).call hg2 (show RAt W2 g s (q + 5) 0 from hR2))
    clear hR2 hg2 HV HVM CW CAT c0 c1 f1 c2 f2 hpx
    go_wp2_with (refine wpList_store_blk rfl 26 _ _ rfl w.heap.size _ #[.int .i64 2, .bool false, .int .i64 0, .string ⟨#[]⟩, .slice none 0 0, .slice none 0 0] 26 rfl rfl HV2.out.blk rfl jv_size (jv_ones _ _ _ _ _ _ _ _ _ _) ?_)
    refine bodyPost_ret (results_cell_row Tryz.results53 _ _ w.heap.size _ _ _ _ rfl HV2.out.blk.setRow Tryz.underlying26 rfl (by kernel_rfl)) rfl ?_
    exact rvalR_leaf hv.out rfl (HV2.out.set_ _).2 (HV2.out.set_ _).1 hdq.out
  by_cases hc34 : c = 34
  case pos =>
   subst hc34
   have e110 : decide ((34 : UInt8) = 110) = false := by decide
   have e116 : decide ((34 : UInt8) = 116) = false := by decide
   have e102 : decide ((34 : UInt8) = 102) = false := by decide
   have e34 : decide ((34 : UInt8) = 34) = true := by decide
   have HVM := Lib.hid (fun n => HV.out.dn n)
   go_wp2_with fail
   go_quiet (fail)
   revert nq; intro m0
   go_wp2_with fail
   refine (CAT.out 110 (m0)).mono ?_
   rintro _ _ ⟨rfl, a0, rfl⟩
   rw [World.drewN_drewN]
   go_wp2_with fail
   refine (CAT.out 116 (m0 + a0)).mono ?_
   rintro _ _ ⟨rfl, a1, rfl⟩
   rw [World.drewN_drewN]
   go_wp2_with fail
   refine (CAT.out 102 (m0 + a0 + a1)).mono ?_
   rintro _ _ ⟨rfl, a2, rfl⟩
   rw [World.drewN_drewN]
   go_wp2_with fail
   refine (CAT.out 34 (m0 + a0 + a1 + a2)).mono ?_
   rintro _ _ ⟨rfl, a3, rfl⟩
   rw [World.drewN_drewN]
   have ct := rtext0_walk g s q _ (HVM.out (m0 + a0 + a1 + a2 + a3)).at_
   rw [HQL.out] at ct
   have hqr : quoteR (34 :: r) = textR r := by rw [quoteR, skipB_no (by decide +kernel)]; rfl
   rw [hqr] at ct
   have CT := Lib.hid ct
   clear ct hqr
   go_wp2_with fail
   refine CT.out.mono ?_
   rintro _ W2 ⟨hg2, hm⟩
   have hwd : wordR (34 :: r) = match textR r with | some (t, r2) => (.phrase t, r2) | none => (.none, []) := by unfold wordR; rw [skipB_no (by decide +kernel)]; rfl
   cases hx : textR r with
   | none =>
    rw [hx] at hm hwd
    obtain ⟨t, q2, rfl, hR2⟩ := hm
    have hv : Hid (valW d (wordR (s.data.toList.drop p)).1 (wordR (s.data.toList.drop p)).2 = .error 3) := by show _ = _; rw [HWR.out, hwd]; cases d <;> simp [valW]
    have HV2 := Lib.hid ((HVM.out (m0 + a0 + a1 + a2 + a3)).call hg2 hR2)
    clear hR2 hg2 HV HVM CT CAT c0 c1 f1 c2 f2 hx hwd
    go_wp2_with (refine wpList_store_blk rfl 26 _ _ rfl w.heap.size _ #[.int .i64 4, .bool false, .int .i64 0, .string t, .slice none 0 0, .slice none 0 0] 26 rfl rfl HV2.out.blk rfl jv_size (jv_ones _ _ _ _ _ _ _ _ _ _) ?_)
    refine bodyPost_ret (results_cell_row Tryz.results53 _ _ w.heap.size _ _ _ _ rfl HV2.out.blk.setRow Tryz.underlying26 rfl (by kernel_rfl)) rfl ?_
    exact rvalR_err hv.out _ _ _ _ _ _ _ _ _ _ rfl (HV2.out.set_ _).2 (HV2.out.set_ _).1
   | some tr =>
    obtain ⟨t, r2⟩ := tr
    rw [hx] at hm hwd
    obtain ⟨q2, rfl, hR2, hdq⟩ := hm
    have hv : Hid (valW d (wordR (s.data.toList.drop p)).1 (wordR (s.data.toList.drop p)).2 = .ok (.mk 4 false 0 t [] [], r2)) := by show _ = _; rw [HWR.out, hwd, valW]
    have HV2 := Lib.hid ((HVM.out (m0 + a0 + a1 + a2 + a3)).call hg2 hR2)
    have HDQ := Lib.hid hdq
    generalize hz : (⟨t.toArray⟩ : ByteArray) = z at *
    have HZ := Lib.hid hz
    clear hR2 hg2 HV HVM CT CAT c0 c1 f1 c2 f2 hx hwd hdq hz
    go_wp2_with (refine wpList_store_blk rfl 26 _ _ rfl w.heap.size _ #[.int .i64 4, .bool false, .int .i64 0, .string z, .slice none 0 0, .slice none 0 0] 26 rfl rfl HV2.out.blk rfl jv_size (jv_ones _ _ _ _ _ _ _ _ _ _) ?_)
    refine bodyPost_ret (results_cell_row Tryz.results53 _ _ w.heap.size _ _ _ _ rfl HV2.out.blk.setRow Tryz.underlying26 rfl (by kernel_rfl)) rfl ?_
    exact rvalR_leaf hv.out (by rw [HZ.out]) (HV2.out.set_ _).2 (HV2.out.set_ _).1 HDQ.out
  by_cases hc91 : c = 91
  case pos =>
   subst hc91
   have e110 : decide ((91 : UInt8) = 110) = false := by decide
   have e116 : decide ((91 : UInt8) = 116) = false := by decide
   have e102 : decide ((91 : UInt8) = 102) = false := by decide
   have e34 : decide ((91 : UInt8) = 34) = false := by decide
   have e91 : decide ((91 : UInt8) = 91) = true := by decide
   have HVM := Lib.hid (fun n => HV.out.dn n)
   go_wp2_with fail
   go_quiet (fail)
   revert nq; intro m0
   go_wp2_with fail
   refine (CAT.out 110 (m0)).mono ?_
   rintro _ _ ⟨rfl, a0, rfl⟩
   rw [World.drewN_drewN]
   go_wp2_with fail
   refine (CAT.out 116 (m0 + a0)).mono ?_
   rintro _ _ ⟨rfl, a1, rfl⟩
   rw [World.drewN_drewN]
   go_wp2_with fail
   refine (CAT.out 102 (m0 + a0 + a1)).mono ?_
   rintro _ _ ⟨rfl, a2, rfl⟩
   rw [World.drewN_drewN]
   go_wp2_with fail
   refine (CAT.out 34 (m0 + a0 + a1 + a2)).mono ?_
   rintro _ _ ⟨rfl, a3, rfl⟩
   rw [World.drewN_drewN]
   go_wp2_with fail
   refine (CAT.out 91 (m0 + a0 + a1 + a2 + a3)).mono ?_
   rintro _ _ ⟨rfl, a4, rfl⟩
   rw [World.drewN_drewN]
   have cm := HM.out g s q deep 5 _ (HVM.out (m0 + a0 + a1 + a2 + a3 + a4)).at_ hqs hdd (by decide)
   have hdr : s.data.toList.drop (q + 1) = r := by rw [← List.drop_drop, HQL.out]; rfl
   rw [hdr] at cm
   have CM := Lib.hid cm
   clear cm hdr
   have hv : Hid (valW d (wordR (s.data.toList.drop p)).1 (wordR (s.data.toList.drop p)).2 = manyE 5 d r) := by
    show _ = _
    rw [HWR.out, wordR_mk _ (by decide +kernel)]
    cases d <;> rfl
   go_wp2_with fail
   refine CM.out.mono ?_
   rintro f W2 ⟨hg2, hm⟩
   cases hx : manyE 5 d r with
   | error er =>
    rw [hx] at hm
    obtain ⟨k, b, n, st, NA, nn, nc, A, m, c, q2, rfl, hR2⟩ := hm
    have hv2 : Hid (valW d (wordR (s.data.toList.drop p)).1 (wordR (s.data.toList.drop p)).2 = .error er) := by show _ = _; rw [hv.out, hx]
    have HV2 := Lib.hid ((HVM.out (m0 + a0 + a1 + a2 + a3 + a4)).call hg2 hR2)
    clear hR2 hg2 HV HVM CM CAT c0 c1 f1 c2 f2 hx hv
    go_wp2_with (refine wpList_store_blk rfl 26 _ _ rfl w.heap.size _ #[.int .i64 k, .bool b, .int .i64 n, .string st, .slice NA nn nc, .slice A m c] 26 rfl rfl HV2.out.blk rfl jv_size (jv_ones _ _ _ _ _ _ _ _ _ _) ?_)
    refine bodyPost_ret (results_cell_row Tryz.results53 _ _ w.heap.size _ _ _ _ rfl HV2.out.blk.setRow Tryz.underlying26 rfl (by kernel_rfl)) rfl ?_
    exact rvalR_err hv2.out _ _ _ _ _ _ _ _ _ _ rfl (HV2.out.set_ _).2 (HV2.out.set_ _).1
   | ok vr =>
    obtain ⟨v, r2⟩ := vr
    rw [hx] at hm
    obtain ⟨cs, q2, rfl, hj, hR2, hdq⟩ := hm
    obtain ⟨k, b, n, st, NA, nn, nc, A, m, c, rfl⟩ := hj.form
    have hv2 : Hid (valW d (wordR (s.data.toList.drop p)).1 (wordR (s.data.toList.drop p)).2 = .ok (v, r2)) := by show _ = _; rw [hv.out, hx]
    have HV2 := Lib.hid ((HVM.out (m0 + a0 + a1 + a2 + a3 + a4)).call hg2 hR2)
    have HDQ := Lib.hid hdq
    have HJ := Lib.hid hj
    have hsz := (HVM.out (m0 + a0 + a1 + a2 + a3 + a4)).blk.lt
    clear hR2 hg2 HV HVM CM CAT c0 c1 f1 c2 f2 hx hv hdq hj
    go_wp2_with (refine wpList_store_blk rfl 26 _ _ rfl w.heap.size _ #[.int .i64 k, .bool b, .int .i64 n, .string st, .slice NA nn nc, .slice A m c] 26 rfl rfl HV2.out.blk rfl jv_size (jv_ones _ _ _ _ _ _ _ _ _ _) ?_)
    refine bodyPost_ret (results_cell_row Tryz.results53 _ _ w.heap.size _ _ _ _ rfl HV2.out.blk.setRow Tryz.underlying26 rfl (by kernel_rfl)) rfl ?_
    refine ⟨(HV2.out.set_ _).2, ?_⟩
    rw [hv2.out]
    exact ⟨_, q2, rfl, (HJ.out.grown (setRow_only W2 w.heap.size _) (fun q e => by injection e with e; have : w.heap.size < _ := hsz; omega)).low (Nat.le_of_lt hsz), (HV2.out.set_ _).1, HDQ.out⟩
  by_cases hc123 : c = 123
  case pos =>
   subst hc123
   have e110 : decide ((123 : UInt8) = 110) = false := by decide
   have e116 : decide ((123 : UInt8) = 116) = false := by decide
   have e102 : decide ((123 : UInt8) = 102) = false := by decide
   have e34 : decide ((123 : UInt8) = 34) = false := by decide
   have e91 : decide ((123 : UInt8) = 91) = false := by decide
   have e123 : decide ((123 : UInt8) = 123) = true := by decide
   have HVM := Lib.hid (fun n => HV.out.dn n)
   go_wp2_with fail
   go_quiet (fail)
   revert nq; intro m0
   go_wp2_with fail
   refine (CAT.out 110 (m0)).mono ?_
   rintro _ _ ⟨rfl, a0, rfl⟩
   rw [World.drewN_drewN]
   go_wp2_with fail
   refine (CAT.out 116 (m0 + a0)).mono ?_
   rintro _ _ ⟨rfl, a1, rfl⟩
   rw [World.drewN_drewN]
   go_wp2_with fail
   refine (CAT.out 102 (m0 + a0 + a1)).mono ?_
   rintro _ _ ⟨rfl, a2, rfl⟩
   rw [World.drewN_drewN]
   go_wp2_with fail
   refine (CAT.out 34 (m0 + a0 + a1 + a2)).mono ?_
   rintro _ _ ⟨rfl, a3, rfl⟩
   rw [World.drewN_drewN]
   go_wp2_with fail
   refine (CAT.out 91 (m0 + a0 + a1 + a2 + a3)).mono ?_
   rintro _ _ ⟨rfl, a4, rfl⟩
   rw [World.drewN_drewN]
   go_wp2_with fail
   refine (CAT.out 123 (m0 + a0 + a1 + a2 + a3 + a4)).mono ?_
   rintro _ _ ⟨rfl, a5, rfl⟩
   rw [World.drewN_drewN]
   have cm := HM.out g s q deep 6 _ (HVM.out (m0 + a0 + a1 + a2 + a3 + a4 + a5)).at_ hqs hdd (by decide)
   have hdr : s.data.toList.drop (q + 1) = r := by rw [← List.drop_drop, HQL.out]; rfl
   rw [hdr] at cm
   have CM := Lib.hid cm
   clear cm hdr
   have hv : Hid (valW d (wordR (s.data.toList.drop p)).1 (wordR (s.data.toList.drop p)).2 = manyE 6 d r) := by
    show _ = _
    rw [HWR.out, wordR_mk _ (by decide +kernel)]
    cases d <;> rfl
   go_wp2_with fail
   refine CM.out.mono ?_
   rintro f W2 ⟨hg2, hm⟩
   cases hx : manyE 6 d r with
   | error er =>
    rw [hx] at hm
    obtain ⟨k, b, n, st, NA, nn, nc, A, m, c, q2, rfl, hR2⟩ := hm
    have hv2 : Hid (valW d (wordR (s.data.toList.drop p)).1 (wordR (s.data.toList.drop p)).2 = .error er) := by show _ = _; rw [hv.out, hx]
    have HV2 := Lib.hid ((HVM.out (m0 + a0 + a1 + a2 + a3 + a4 + a5)).call hg2 hR2)
    clear hR2 hg2 HV HVM CM CAT c0 c1 f1 c2 f2 hx hv
    go_wp2_with (refine wpList_store_blk rfl 26 _ _ rfl w.heap.size _ #[.int .i64 k, .bool b, .int .i64 n, .string st, .slice NA nn nc, .slice A m c] 26 rfl rfl HV2.out.blk rfl jv_size (jv_ones _ _ _ _ _ _ _ _ _ _) ?_)
    refine bodyPost_ret (results_cell_row Tryz.results53 _ _ w.heap.size _ _ _ _ rfl HV2.out.blk.setRow Tryz.underlying26 rfl (by kernel_rfl)) rfl ?_
    exact rvalR_err hv2.out _ _ _ _ _ _ _ _ _ _ rfl (HV2.out.set_ _).2 (HV2.out.set_ _).1
   | ok vr =>
    obtain ⟨v, r2⟩ := vr
    rw [hx] at hm
    obtain ⟨cs, q2, rfl, hj, hR2, hdq⟩ := hm
    obtain ⟨k, b, n, st, NA, nn, nc, A, m, c, rfl⟩ := hj.form
    have hv2 : Hid (valW d (wordR (s.data.toList.drop p)).1 (wordR (s.data.toList.drop p)).2 = .ok (v, r2)) := by show _ = _; rw [hv.out, hx]
    have HV2 := Lib.hid ((HVM.out (m0 + a0 + a1 + a2 + a3 + a4 + a5)).call hg2 hR2)
    have HDQ := Lib.hid hdq
    have HJ := Lib.hid hj
    have hsz := (HVM.out (m0 + a0 + a1 + a2 + a3 + a4 + a5)).blk.lt
    clear hR2 hg2 HV HVM CM CAT c0 c1 f1 c2 f2 hx hv hdq hj
    go_wp2_with (refine wpList_store_blk rfl 26 _ _ rfl w.heap.size _ #[.int .i64 k, .bool b, .int .i64 n, .string st, .slice NA nn nc, .slice A m c] 26 rfl rfl HV2.out.blk rfl jv_size (jv_ones _ _ _ _ _ _ _ _ _ _) ?_)
    refine bodyPost_ret (results_cell_row Tryz.results53 _ _ w.heap.size _ _ _ _ rfl HV2.out.blk.setRow Tryz.underlying26 rfl (by kernel_rfl)) rfl ?_
    refine ⟨(HV2.out.set_ _).2, ?_⟩
    rw [hv2.out]
    exact ⟨_, q2, rfl, (HJ.out.grown (setRow_only W2 w.heap.size _) (fun q e => by injection e with e; have : w.heap.size < _ := hsz; omega)).low (Nat.le_of_lt hsz), (HV2.out.set_ _).1, HDQ.out⟩
  have e110 : decide (c = 110) = false := by simp [hc110]
  have e116 : decide (c = 116) = false := by simp [hc116]
  have e102 : decide (c = 102) = false := by simp [hc102]
  have e34 : decide (c = 34) = false := by simp [hc34]
  have e91 : decide (c = 91) = false := by simp [hc91]
  have e123 : decide (c = 123) = false := by simp [hc123]
  have HVM := Lib.hid (fun n => HV.out.dn n)
  go_wp2_with fail
  go_quiet (fail)
  revert nq; intro m0
  go_wp2_with fail
  refine (CAT.out 110 (m0)).mono ?_
  rintro _ _ ⟨rfl, a0, rfl⟩
  rw [World.drewN_drewN]
  go_wp2_with fail
  refine (CAT.out 116 (m0 + a0)).mono ?_
  rintro _ _ ⟨rfl, a1, rfl⟩
  rw [World.drewN_drewN]
  go_wp2_with fail
  refine (CAT.out 102 (m0 + a0 + a1)).mono ?_
  rintro _ _ ⟨rfl, a2, rfl⟩
  rw [World.drewN_drewN]
  go_wp2_with fail
  refine (CAT.out 34 (m0 + a0 + a1 + a2)).mono ?_
  rintro _ _ ⟨rfl, a3, rfl⟩
  rw [World.drewN_drewN]
  go_wp2_with fail
  refine (CAT.out 91 (m0 + a0 + a1 + a2 + a3)).mono ?_
  rintro _ _ ⟨rfl, a4, rfl⟩
  rw [World.drewN_drewN]
  go_wp2_with fail
  refine (CAT.out 123 (m0 + a0 + a1 + a2 + a3 + a4)).mono ?_
  rintro _ _ ⟨rfl, a5, rfl⟩
  rw [World.drewN_drewN]
  obtain ⟨b, eb, hb2⟩ : ∃ b : Nat, (s[q]'hqs).toNat = b ∧ b < 256 := ⟨_, rfl, (s[q]'hqs).toNat_lt⟩
  have hcb : c = UInt8.ofNat b := by have := drop_cons hqs eb; rw [HQL.out] at this; injection this
  have i1 := fun W => run_index_at (P := Tryz.prog) 9 Tryz.underlying9 s q b hqs eb W
  have ci := fun W => rdigit_walk b W
  rw [dig_bits b hb2, ← hcb] at ci
  have c45 : ∀ j, Calls Tryz.prog 80 #[.pointer (some ⟨g, 0, none⟩), .int .u8 45] (w1.drewN (m0 + a0 + a1 + a2 + a3 + a4 + a5 + j)) fun f w' => f = .returned (.bool (decide (c = 45))) ∧ ∃ n, w' = w1.drewN (m0 + a0 + a1 + a2 + a3 + a4 + a5 + n) := fun j => by
   have := at_walk g s q 0 45 (w1.drewN (m0 + a0 + a1 + a2 + a3 + a4 + a5 + j)) (HVM.out (m0 + a0 + a1 + a2 + a3 + a4 + a5 + j)).at_
   rw [HQL.out] at this
   refine this.mono ?_
   rintro f w9 ⟨e, m, rfl⟩
   exact ⟨e, j + m, by rw [World.drewN_drewN, Nat.add_assoc]⟩
  by_cases h45 : c = 45
  ·
   rw [decide_eq_true h45] at c45
   have C45 := Lib.hid c45
   have hv : Hid (wordR (c :: r) = numW c r) := wordR_num (.inl h45)
   have CN := Lib.hid (fun n => rnumber_walk g s q c r HQL.out (.inl h45) _ (HVM.out n).at_)
   clear c45 ci hcb h45 CAT
   go_wp2_with fail
   go_quiet ((go_at_call 80; refine (C45.out _).mono ?_; rintro e w9 ⟨rfl, m, rfl⟩; exact ⟨rfl, m, rfl⟩))
   rw [World.drewN_drewN]
   go_wp2_with fail
   refine (CN.out _).mono ?_
   rintro _ W2 ⟨hg2, hm⟩
   cases hx : numR c r with
   | none =>
    rw [hx] at hm
    obtain ⟨n, q2, rfl, hR2⟩ := hm
    have hv2 : Hid (valW d (wordR (s.data.toList.drop p)).1 (wordR (s.data.toList.drop p)).2 = .error 3) := by show _ = _; rw [HWR.out, hv.out, numW, hx]; cases d <;> simp [valW]
    have HV2 := Lib.hid ((HVM.out _).call hg2 hR2)
    clear hR2 hg2 HV HVM CN c0 c1 f1 c2 f2 hx hv
    go_wp2_with (refine wpList_store_blk rfl 26 _ _ rfl w.heap.size _ #[.int .i64 3, .bool false, .int .i64 n, .string ⟨#[]⟩, .slice none 0 0, .slice none 0 0] 26 rfl rfl HV2.out.blk rfl jv_size (jv_ones _ _ _ _ _ _ _ _ _ _) ?_)
    refine bodyPost_ret (results_cell_row Tryz.results53 _ _ w.heap.size _ _ _ _ rfl HV2.out.blk.setRow Tryz.underlying26 rfl (by kernel_rfl)) rfl ?_
    exact rvalR_err hv2.out _ _ _ _ _ _ _ _ _ _ rfl (HV2.out.set_ _).2 (HV2.out.set_ _).1
   | some tr =>
    obtain ⟨n, r2⟩ := tr
    rw [hx] at hm
    obtain ⟨q2, rfl, hR2, hdq⟩ := hm
    have hv2 : Hid (valW d (wordR (s.data.toList.drop p)).1 (wordR (s.data.toList.drop p)).2 = .ok (.mk 3 false n [] [] [], r2)) := by show _ = _; rw [HWR.out, hv.out, numW, hx, valW]
    have HV2 := Lib.hid ((HVM.out _).call hg2 hR2)
    have HDQ := Lib.hid hdq
    clear hR2 hg2 HV HVM CN c0 c1 f1 c2 f2 hx hv hdq
    go_wp2_with (refine wpList_store_blk rfl 26 _ _ rfl w.heap.size _ #[.int .i64 3, .bool false, .int .i64 n, .string ⟨#[]⟩, .slice none 0 0, .slice none 0 0] 26 rfl rfl HV2.out.blk rfl jv_size (jv_ones _ _ _ _ _ _ _ _ _ _) ?_)
    refine bodyPost_ret (results_cell_row Tryz.results53 _ _ w.heap.size _ _ _ _ rfl HV2.out.blk.setRow Tryz.underlying26 rfl (by kernel_rfl)) rfl ?_
    exact rvalR_leaf hv2.out rfl (HV2.out.set_ _).2 (HV2.out.set_ _).1 HDQ.out
  ·
   rw [decide_eq_false h45] at c45
   have C45 := Lib.hid c45
   cases hdg : isDig c
   ·
    rw [hdg] at ci
    have CI := Lib.hid ci
    have hv : Hid (valW d (wordR (s.data.toList.drop p)).1 (wordR (s.data.toList.drop p)).2 = .error 3) := by show _ = _; rw [HWR.out]; exact val_else hc110 hc116 hc102 hc34 hc91 hc123 h45 hdg HBL.out
    have CF := Lib.hid (fun n => fail_walk g s q 0 3 (w1.drewN n) (HVM.out n).at_)
    clear c45 ci hcb h45 hdg CAT
    go_wp2_with fail
    go_quiet (first | (go_at_call 80; refine (C45.out _).mono ?_; rintro e w9 ⟨rfl, m, rfl⟩; exact ⟨rfl, m, rfl⟩) | (go_at_call 84; refine (CI.out _).mono ?_; rintro e w9 ⟨rfl, rfl⟩; exact ⟨rfl, _, rfl⟩))
    rw [World.drewN_drewN]
    go_wp2_with fail
    refine (CF.out _).mono ?_
    rintro _ W2 ⟨rfl, hR2, hg2⟩
    have HV2 := Lib.hid ((HVM.out _).call hg2 (show RAt W2 g s q 3 from hR2))
    clear hR2 hg2 HV HVM CF c0 c1 f1 c2 f2
    go_wp2_with (refine wpList_store_blk rfl 26 _ _ rfl w.heap.size _ #[.int .i64 0, .bool false, .int .i64 0, .string ⟨#[]⟩, .slice none 0 0, .slice none 0 0] 26 rfl rfl HV2.out.blk rfl jv_size (jv_ones _ _ _ _ _ _ _ _ _ _) ?_)
    refine bodyPost_ret (results_cell_row Tryz.results53 _ _ w.heap.size _ _ _ _ rfl HV2.out.blk.setRow Tryz.underlying26 rfl (by kernel_rfl)) rfl ?_
    exact rvalR_err hv.out _ _ _ _ _ _ _ _ _ _ rfl (HV2.out.set_ _).2 (HV2.out.set_ _).1
   ·
    rw [hdg] at ci
    have CI := Lib.hid ci
    have hv : Hid (wordR (c :: r) = numW c r) := wordR_num (.inr hdg)
    have CN := Lib.hid (fun n => rnumber_walk g s q c r HQL.out (.inr hdg) _ (HVM.out n).at_)
    clear c45 ci hcb h45 hdg CAT
    go_wp2_with fail
    go_quiet (first | (go_at_call 80; refine (C45.out _).mono ?_; rintro e w9 ⟨rfl, m, rfl⟩; exact ⟨rfl, m, rfl⟩) | (go_at_call 84; refine (CI.out _).mono ?_; rintro e w9 ⟨rfl, rfl⟩; exact ⟨rfl, _, rfl⟩))
    rw [World.drewN_drewN]
    go_wp2_with fail
    refine (CN.out _).mono ?_
    rintro _ W2 ⟨hg2, hm⟩
    cases hx : numR c r with
    | none =>
     rw [hx] at hm
     obtain ⟨n, q2, rfl, hR2⟩ := hm
     have hv2 : Hid (valW d (wordR (s.data.toList.drop p)).1 (wordR (s.data.toList.drop p)).2 = .error 3) := by show _ = _; rw [HWR.out, hv.out, numW, hx]; cases d <;> simp [valW]
     have HV2 := Lib.hid ((HVM.out _).call hg2 hR2)
     clear hR2 hg2 HV HVM CN c0 c1 f1 c2 f2 hx hv
     go_wp2_with (refine wpList_store_blk rfl 26 _ _ rfl w.heap.size _ #[.int .i64 3, .bool false, .int .i64 n, .string ⟨#[]⟩, .slice none 0 0, .slice none 0 0] 26 rfl rfl HV2.out.blk rfl jv_size (jv_ones _ _ _ _ _ _ _ _ _ _) ?_)
     refine bodyPost_ret (results_cell_row Tryz.results53 _ _ w.heap.size _ _ _ _ rfl HV2.out.blk.setRow Tryz.underlying26 rfl (by kernel_rfl)) rfl ?_
     exact rvalR_err hv2.out _ _ _ _ _ _ _ _ _ _ rfl (HV2.out.set_ _).2 (HV2.out.set_ _).1
    | some tr =>
     obtain ⟨n, r2⟩ := tr
     rw [hx] at hm
     obtain ⟨q2, rfl, hR2, hdq⟩ := hm
     have hv2 : Hid (valW d (wordR (s.data.toList.drop p)).1 (wordR (s.data.toList.drop p)).2 = .ok (.mk 3 false n [] [] [], r2)) := by show _ = _; rw [HWR.out, hv.out, numW, hx, valW]
     have HV2 := Lib.hid ((HVM.out _).call hg2 hR2)
     have HDQ := Lib.hid hdq
     clear hR2 hg2 HV HVM CN c0 c1 f1 c2 f2 hx hv hdq
     go_wp2_with (refine wpList_store_blk rfl 26 _ _ rfl w.heap.size _ #[.int .i64 3, .bool false, .int .i64 n, .string ⟨#[]⟩, .slice none 0 0, .slice none 0 0] 26 rfl rfl HV2.out.blk rfl jv_size (jv_ones _ _ _ _ _ _ _ _ _ _) ?_)
     refine bodyPost_ret (results_cell_row Tryz.results53 _ _ w.heap.size _ _ _ _ rfl HV2.out.blk.setRow Tryz.underlying26 rfl (by kernel_rfl)) rfl ?_
     exact rvalR_leaf hv2.out rfl (HV2.out.set_ _).2 (HV2.out.set_ _).1 HDQ.out
end Go.Proofs.YtieppmppdmcleaaGreatDoor

/- json's parser: an object. Conditions as of the words. -/
import Derived.Test.YtieppmppdmcleaaGreatDoorAo
set_option linter.unusedVariables false
set_option linter.unusedSimpArgs false
set_option maxRecDepth 20000
namespace Go.Proofs.YtieppmppdmcleaaGreatDoor
open Go.RowKit Go.Maps
theorem word_neq (wd : Wd) (c : UInt8) (W : World) : (binOp .neq 107 (wordV wd) (.iface 136 (.int .u8 (c.toNat : Int)))).run Tryz.prog W = .ok (.bool (!wMark wd c)) W := by
 cases wd with
 | mark m =>
  have h := u8_beq m c
  show _ = Result.ok (Value.bool (!decide (m = c))) W
  rw [← h]
  kernel_rfl
 | none => kernel_rfl
 | phrase t => kernel_rfl
 | number n => kernel_rfl
 | value k b => kernel_rfl
theorem word_guardN (wd : Wd) (c : UInt8) (x y : Operand) (W : World) : (eqGuard .neq 107 x y (wordV wd) (.iface 136 (.int .u8 (c.toNat : Int)))).run Tryz.prog W = .ok () W := by
 cases wd with
 | mark m => simp [wordV, eqGuard]
 | none => simp [wordV, eqGuard]
 | phrase t => simp [wordV, eqGuard]
 | number n => simp [wordV, eqGuard]
 | value k b => simp [wordV, eqGuard]
set_option maxHeartbeats 16000000 in
theorem object_many (d : Nat) (hval : ValOk d) : ManyOk 106 objR d := by
 intro g s p B deep w hB hL hP hdd
 have hgl := hP.lt
 have hsm := hP.2.2
 have h1 := (Below.refl w.heap.size w).alloc (Nat.le_refl _) (.cells #[.int .i64 0, .bool false, .int .i64 0, .string ⟨#[]⟩, .slice none 0 0, .slice none 0 0] 26)
 have h2 := h1.alloc (by simp) (.cells #[.int .i64 6, .bool false, .int .i64 0, .string ⟨#[]⟩, .slice none 0 0, .slice none 0 0] 26)
 have hk1 := (Blk.new w 26 #[.int .i64 0, .bool false, .int .i64 0, .string ⟨#[]⟩, .slice none 0 0, .slice none 0 0]).below ((Below.refl (w.heap.size + 1) _).alloc (by simp) (.cells #[.int .i64 6, .bool false, .int .i64 0, .string ⟨#[]⟩, .slice none 0 0, .slice none 0 0] 26)) (by omega)
 have hk2 : Blk ((w.alloc (.cells #[.int .i64 0, .bool false, .int .i64 0, .string ⟨#[]⟩, .slice none 0 0, .slice none 0 0] 26)).alloc (.cells #[.int .i64 6, .bool false, .int .i64 0, .string ⟨#[]⟩, .slice none 0 0, .slice none 0 0] 26)) (w.heap.size + 1) 26 #[.int .i64 6, .bool false, .int .i64 0, .string ⟨#[]⟩, .slice none 0 0, .slice none 0 0] := by
  have := Blk.new (w.alloc (.cells #[.int .i64 0, .bool false, .int .i64 0, .string ⟨#[]⟩, .slice none 0 0, .slice none 0 0] 26)) 26 #[.int .i64 6, .bool false, .int .i64 0, .string ⟨#[]⟩, .slice none 0 0, .slice none 0 0]
  simpa using this
 have hk1' := Lib.hid hk1
 have HK2 := Lib.hid hk2
 have cn := Lib.hid (jnext_walk g s p B hB _ (hL.grown (below_row h2 none) (by simp)) (hP.below h2))
 have HB3 := Lib.hid h2
 have HL := Lib.hid hL
 have HVAL := Lib.hid hval
 clear h1 h2 hk1 hk2 hL hP hval
 go_enter Tryz.func106, Tryz.ntmps106
 go_wp2_with fail
 refine (cn.out).mono ?_
 rintro _ w1 ⟨q, rfl, hP, hd, hg⟩
 have HP := Lib.hid hP
 have HD := Lib.hid hd
 have HG := Lib.hid (grown_then (below_row HB3.out (some g)) hg (fun q e => .inl (by injection e with e; exact e.symm)))
 have HK1 := Lib.hid (hk1'.out.grown hg (by simp; omega))
 have HK2b := Lib.hid (HK2.out.grown hg (by simp; omega))
 have hsz1 := hg.size
 clear hP hd hg cn hk1' HK2 HB3
 obtain ⟨wd0, r0, hw0⟩ : ∃ wd0 r0, wordR (s.data.toList.drop p) = (wd0, r0) := ⟨_, _, rfl⟩
 have HW0 := Lib.hid hw0
 rw [hw0] at HD
 simp only [hw0]
 have hlen0 : r0.length ≤ s.data.toList.length - p := by
  have := wordR_any (s.data.toList.drop p)
  rw [hw0, List.length_drop] at this
  exact this
 have hslen : s.data.toList.length = s.size := by simp
 have q1 : ∀ W, (binOp .eql 107 (wordV wd0) (.iface 136 (.int .u8 125))).run Tryz.prog W = .ok (.bool (wMark wd0 125)) W := fun W => word_eq wd0 125 W
 have q2 : ∀ x y W, (eqGuard .eql 107 x y (wordV wd0) (.iface 136 (.int .u8 125))).run Tryz.prog W = .ok () W := fun x y W => word_guard wd0 125 x y W
 cases hm : wMark wd0 125
 case true =>
  rw [hm] at q1
  obtain ⟨rfl⟩ : wd0 = .mark 125 := by
   cases wd0 <;> simp [wMark] at hm
   rw [hm]
  have hv : Hid (objR (valW d) (s.data.toList.drop p) = .ok (.mk 6 false 0 [] [] [], r0)) := by show _ = _; unfold objR; rw [HW0.out]; rfl
  clear hm hw0 HW0
  have hx6 := six_cells HK2b.out
  obtain ⟨l0, l1, l2, l3, l4, l5⟩ := hx6
  generalize wordV (.mark 125) = wv at *
  go_wp2_with (first | refine wpList_load_at rfl 26 _ rfl ⟨w.heap.size + 1, 0, none⟩ rfl [.int .i64 6, .bool false, .int .i64 0, .string ⟨#[]⟩, .slice none 0 0, .slice none 0 0] _ (blk_cells HK2b.out) Tryz.underlying26 rfl jv_size ?_ | refine wpList_store_blk rfl 26 _ _ rfl w.heap.size _ #[.int .i64 6, .bool false, .int .i64 0, .string ⟨#[]⟩, .slice none 0 0, .slice none 0 0] 26 rfl rfl HK1.out rfl jv_size (jv_ones _ _ _ _ _ _ _ _ _ _) ?_)
  refine bodyPost_ret (results_j_t Tryz.results106 _ _ w.heap.size _ _ _ _ _ _ rfl HK1.out.setRow) rfl ?_
  have hsr := setRow_only w1 w.heap.size #[.int .i64 6, .bool false, .int .i64 0, .string ⟨#[]⟩, .slice none 0 0, .slice none 0 0]
  rw [hv.out]
  exact ⟨_, q, rfl, jv_leaf _ _ _ _ _ _, HP.out.grown hsr (by simp; omega), HD.out (by simp), grown_then HG.out hsr (fun q e => .inr (by injection e with e; omega))⟩
 case false =>
  rw [hm] at q1
  have hv : Hid (objR (valW d) (s.data.toList.drop p) = loopO (valW d) ((s.data.toList.drop p).length + 1) [] [] wd0 r0) := by
   show _ = _
   unfold objR
   rw [HW0.out]
   cases wd0 with
   | mark c =>
    have : c ≠ 125 := by simpa [wMark] using hm
    split
    ·
     rename_i r2 h2
     injection h2 with h2 _
     injection h2 with h2
     exact absurd h2 this
    ·
     rename_i w' r' _ h2
     injection h2 with h2 h3
     subst h2 h3
     rfl
   | _ => rfl
  have hf0 : r0.length < (s.data.toList.drop p).length + 1 := by rw [List.length_drop]; omega
  clear hm hw0 HW0
  generalize hwv0 : wordV wd0 = wv at *
  go_wp2_with fail
  clear q1 q2
  go_loopw [7] (fun wv wr => ∃ (f q : Nat) (wd : Wd) (rest : List UInt8) (names : List (List UInt8)) (acc : List Jv) (nv av : Value), Hid (wv = wordV wd) ∧ Hid (PAt wr g s q) ∧ Hid (wd ≠ .none → s.data.toList.drop q = rest) ∧ Hid (objR (valW d) (s.data.toList.drop p) = loopO (valW d) f names acc wd rest) ∧ rest.length < f ∧ acc.length + rest.length ≤ s.size ∧ names.length = acc.length ∧ Hid (Blk wr w.heap.size 26 #[.int .i64 0, .bool false, .int .i64 0, .string ⟨#[]⟩, .slice none 0 0, .slice none 0 0]) ∧ Hid (Blk wr (w.heap.size + 1) 26 #[.int .i64 6, .bool false, .int .i64 0, .string ⟨#[]⟩, nv, av]) ∧ Hid (Kids wr (w.heap.size + 2) nv names av acc) ∧ Hid (w.grownBy wr (some g)) ∧ w.heap.size + 2 ≤ wr.heap.size) (fun wv wr => wordMz g s wv wr)
  case atStart => exact ⟨_, q, wd0, r0, [], [], _, _, hwv0.symm, HP, HD, hv, hf0, by simp; omega, rfl, HK1, HK2b, Kids.nil _ _, HG, by simpa using hsz1⟩
  case round =>
   clear HP HD HK1 HK2b HG hv hwv0 hf0 hlen0 hsz1
   obtain ⟨f, q, wd, rest, names, acc, nv, av, hwv, hP, hD, hv, hf, hal, hnl, hb1, hb2, hk, hg, hsz⟩ := hrel
   obtain ⟨f, rfl⟩ : ∃ f', f = f' + 1 := ⟨f - 1, by omega⟩
   obtain ⟨NA, nc, A, c, rfl, rfl, _⟩ := hk.out.value 6 false 0 []
   have HNL := Lib.hid hnl
   have hnb : names.length ≤ 1000000 := by omega
   clear hnl
   by_cases hph : ∃ t, wd = .phrase t
   case neg =>
    have hv2 : Hid (objR (valW d) (s.data.toList.drop p) = .error 3) := by
     show _ = _
     rw [hv.out]
     cases wd with
     | phrase t => exact absurd ⟨t, rfl⟩ hph
     | _ => rfl
    clear hv hP hD hk HVAL HL
    cases wd with
    | phrase t => exact absurd ⟨t, rfl⟩ hph
    | none =>
     have hwv' := hwv.out
     simp only [wordV] at hwv'
     subst hwv'
     have has := as_0p
     obtain ⟨l0, l1, l2, l3, l4, l5⟩ := six_cells hb2.out
     go_wp2_with (first | refine wpList_load_at rfl 26 _ rfl ⟨w.heap.size + 1, 0, none⟩ rfl [.int .i64 6, .bool false, .int .i64 0, .string ⟨#[]⟩, .slice NA names.length nc, .slice A acc.length c] _ (blk_cells hb2.out) Tryz.underlying26 rfl jv_size ?_ | refine wpList_store_blk rfl 26 _ _ rfl w.heap.size _ #[.int .i64 6, .bool false, .int .i64 0, .string ⟨#[]⟩, .slice NA names.length nc, .slice A acc.length c] 26 rfl rfl hb1.out rfl jv_size (jv_ones _ _ _ _ _ _ _ _ _ _) ?_)
     refine bodyPost_ret (results_j_t Tryz.results106 _ _ w.heap.size _ _ _ _ _ _ rfl hb1.out.setRow) rfl ?_
     exact valR_err hv2.out _ _ _ _ _ _ _ _ _ _ rfl (grown_then hg.out (setRow_only _ w.heap.size _) (fun q e => .inr (by injection e with e; omega)))
    | mark m =>
     have hwv' := hwv.out
     simp only [wordV] at hwv'
     subst hwv'
     have has := as_mp
     obtain ⟨l0, l1, l2, l3, l4, l5⟩ := six_cells hb2.out
     go_wp2_with (first | refine wpList_load_at rfl 26 _ rfl ⟨w.heap.size + 1, 0, none⟩ rfl [.int .i64 6, .bool false, .int .i64 0, .string ⟨#[]⟩, .slice NA names.length nc, .slice A acc.length c] _ (blk_cells hb2.out) Tryz.underlying26 rfl jv_size ?_ | refine wpList_store_blk rfl 26 _ _ rfl w.heap.size _ #[.int .i64 6, .bool false, .int .i64 0, .string ⟨#[]⟩, .slice NA names.length nc, .slice A acc.length c] 26 rfl rfl hb1.out rfl jv_size (jv_ones _ _ _ _ _ _ _ _ _ _) ?_)
     refine bodyPost_ret (results_j_t Tryz.results106 _ _ w.heap.size _ _ _ _ _ _ rfl hb1.out.setRow) rfl ?_
     exact valR_err hv2.out _ _ _ _ _ _ _ _ _ _ rfl (grown_then hg.out (setRow_only _ w.heap.size _) (fun q e => .inr (by injection e with e; omega)))
    | number m =>
     have hwv' := hwv.out
     simp only [wordV] at hwv'
     subst hwv'
     have has := as_np
     obtain ⟨l0, l1, l2, l3, l4, l5⟩ := six_cells hb2.out
     go_wp2_with (first | refine wpList_load_at rfl 26 _ rfl ⟨w.heap.size + 1, 0, none⟩ rfl [.int .i64 6, .bool false, .int .i64 0, .string ⟨#[]⟩, .slice NA names.length nc, .slice A acc.length c] _ (blk_cells hb2.out) Tryz.underlying26 rfl jv_size ?_ | refine wpList_store_blk rfl 26 _ _ rfl w.heap.size _ #[.int .i64 6, .bool false, .int .i64 0, .string ⟨#[]⟩, .slice NA names.length nc, .slice A acc.length c] 26 rfl rfl hb1.out rfl jv_size (jv_ones _ _ _ _ _ _ _ _ _ _) ?_)
     refine bodyPost_ret (results_j_t Tryz.results106 _ _ w.heap.size _ _ _ _ _ _ rfl hb1.out.setRow) rfl ?_
     exact valR_err hv2.out _ _ _ _ _ _ _ _ _ _ rfl (grown_then hg.out (setRow_only _ w.heap.size _) (fun q e => .inr (by injection e with e; omega)))
    | value k b =>
     have hwv' := hwv.out
     simp only [wordV, cells6, strV] at hwv'
     subst hwv'
     have has := as_vp
     obtain ⟨l0, l1, l2, l3, l4, l5⟩ := six_cells hb2.out
     go_wp2_with (first | refine wpList_load_at rfl 26 _ rfl ⟨w.heap.size + 1, 0, none⟩ rfl [.int .i64 6, .bool false, .int .i64 0, .string ⟨#[]⟩, .slice NA names.length nc, .slice A acc.length c] _ (blk_cells hb2.out) Tryz.underlying26 rfl jv_size ?_ | refine wpList_store_blk rfl 26 _ _ rfl w.heap.size _ #[.int .i64 6, .bool false, .int .i64 0, .string ⟨#[]⟩, .slice NA names.length nc, .slice A acc.length c] 26 rfl rfl hb1.out rfl jv_size (jv_ones _ _ _ _ _ _ _ _ _ _) ?_)
     refine bodyPost_ret (results_j_t Tryz.results106 _ _ w.heap.size _ _ _ _ _ _ rfl hb1.out.setRow) rfl ?_
     exact valR_err hv2.out _ _ _ _ _ _ _ _ _ _ rfl (grown_then hg.out (setRow_only _ w.heap.size _) (fun q e => .inr (by injection e with e; omega)))
   case pos =>
    obtain ⟨t, rfl⟩ := hph
    have hwv' := hwv.out
    simp only [wordV, strV] at hwv'
    subst hwv'
    have has := as_pp
    have hmz : Hid (wordMz g s (.iface 152 (.string ⟨t.toArray⟩)) wr = 1 + rest.length) := wordMz_len (wd := .phrase t) hP.out (by simp) (hD.out (by simp))
    have hD1 := hD.out (by simp)
    have hh : Hid (∀ W, W = wr → Calls Tryz.prog 132 #[.slice NA names.length nc, .string ⟨t.toArray⟩] W fun e w' => e = .returned (.bool (names.contains t)) ∧ W = w') := fun W hW => by
     subst hW
     obtain ⟨vs, h0, _, _⟩ := hk.out
     exact names_has h0 t (by omega)
    have HD1 := Lib.hid hD1
    clear hD hD1 hwv
    generalize hz : (⟨t.toArray⟩ : ByteArray) = z at *
    have HZ := Lib.hid hz
    clear hz
    obtain ⟨l0, l1, l2, l3, l4, l5⟩ := six_cells hb2.out
    go_wp2_with fail
    refine (hh.out _ rfl).mono ?_
    rintro _ w1 ⟨rfl, rfl⟩
    cases hct : names.contains t
    case true =>
     have hv2 : Hid (objR (valW d) (s.data.toList.drop p) = .error 6) := by show _ = _; rw [hv.out, loopO, if_pos hct]
     clear hv hP hk HVAL HL hh hmz
     go_wp2_with (first | refine wpList_load_at rfl 26 _ rfl ⟨w.heap.size + 1, 0, none⟩ rfl [.int .i64 6, .bool false, .int .i64 0, .string ⟨#[]⟩, .slice NA names.length nc, .slice A acc.length c] _ (blk_cells hb2.out) Tryz.underlying26 rfl jv_size ?_ | refine wpList_store_blk rfl 26 _ _ rfl w.heap.size _ #[.int .i64 6, .bool false, .int .i64 0, .string ⟨#[]⟩, .slice NA names.length nc, .slice A acc.length c] 26 rfl rfl hb1.out rfl jv_size (jv_ones _ _ _ _ _ _ _ _ _ _) ?_)
     refine bodyPost_ret (results_j_t Tryz.results106 _ _ w.heap.size _ _ _ _ _ _ rfl hb1.out.setRow) rfl ?_
     exact valR_err hv2.out _ _ _ _ _ _ _ _ _ _ rfl (grown_then hg.out (setRow_only _ w.heap.size _) (fun q e => .inr (by injection e with e; omega)))
    case false =>
     have hv1 : Hid (objR (valW d) (s.data.toList.drop p) = match wordR rest with | (.mark 58, r1) => (match valW d (wordR r1).1 (wordR r1).2 with | .error e => .error e | .ok (v, r2) => match wordR r2 with | (.mark 125, r3) => .ok (.mk 6 false 0 [] (names ++ [t]) (acc ++ [v]), r3) | (.mark 44, r3) => loopO (valW d) f (names ++ [t]) (acc ++ [v]) (wordR r3).1 (wordR r3).2 | _ => .error 3) | _ => .error 3) := by
      show _ = _
      rw [hv.out, loopO, if_neg (by rw [hct]; simp)]
      rfl
     have cn := jnext_walk g s q B hB wr (HL.out.grown hg.out (fun q e => by injection e with e; omega)) hP.out
     rw [HD1.out] at cn
     obtain ⟨wd2, r2, hw2⟩ : ∃ wd2 r2, wordR rest = (wd2, r2) := ⟨_, _, rfl⟩
     have hle2 := wordR_any rest
     rw [hw2] at cn hle2
     have hv1' : Hid (objR (valW d) (s.data.toList.drop p) = match ((wd2, r2) : Wd × List UInt8) with | (.mark 58, r1) => (match valW d (wordR r1).1 (wordR r1).2 with | .error e => .error e | .ok (v, r2) => match wordR r2 with | (.mark 125, r3) => .ok (.mk 6 false 0 [] (names ++ [t]) (acc ++ [v]), r3) | (.mark 44, r3) => loopO (valW d) f (names ++ [t]) (acc ++ [v]) (wordR r3).1 (wordR r3).2 | _ => .error 3) | _ => .error 3) := by
      show _ = _
      rw [← hw2]
      exact hv1.out
     have CN := Lib.hid cn
     clear cn hv1 hw2 hv hP hh hct
     go_wp2_with fail
     refine CN.out.mono ?_
     rintro _ w2 ⟨q2, rfl, hP2, hd2, hg2⟩
     have HP2 := Lib.hid hP2
     have HD2 := Lib.hid hd2
     have HG2 := Lib.hid (grown_then hg.out hg2 (fun q e => .inl (by injection e with e; exact e.symm)))
     have HC1 := Lib.hid (hb1.out.grown hg2 (by simp; omega))
     have HC2 := Lib.hid (hb2.out.grown hg2 (by simp; omega))
     have HK2 := Lib.hid (hk.out.grown hg2 (fun q e => by injection e with e; omega))
     have hsz2 : w.heap.size + 2 ≤ w2.heap.size := Nat.le_trans hsz hg2.size
     have q1 : ∀ W, (binOp .neq 107 (wordV wd2) (.iface 136 (.int .u8 58))).run Tryz.prog W = .ok (.bool (!wMark wd2 58)) W := fun W => word_neq wd2 58 W
     have q2' : ∀ x y W, (eqGuard .neq 107 x y (wordV wd2) (.iface 136 (.int .u8 58))).run Tryz.prog W = .ok () W := fun x y W => word_guardN wd2 58 x y W
     clear hP2 hd2 hg2 hg hb1 hb2 hk hsz l0 l1 l2 l3 l4 l5 CN
     obtain ⟨l0, l1, l2, l3, l4, l5⟩ := six_cells HC2.out
     cases hm : wMark wd2 58
     case false =>
      rw [hm] at q1
      have hv2 : Hid (objR (valW d) (s.data.toList.drop p) = .error 3) := by
       show _ = _
       rw [hv1'.out]
       split
       ·
        rename_i h; injection h with h1 h2; subst h1; simp [wMark] at hm
       ·
        rfl
      clear hv1' hm HD2 HP2 HVAL HL
      simp only
      generalize wordV wd2 = wv2 at *
      go_wp2_with (first | refine wpList_load_at rfl 26 _ rfl ⟨w.heap.size + 1, 0, none⟩ rfl [.int .i64 6, .bool false, .int .i64 0, .string ⟨#[]⟩, .slice NA names.length nc, .slice A acc.length c] _ (blk_cells HC2.out) Tryz.underlying26 rfl jv_size ?_ | refine wpList_store_blk rfl 26 _ _ rfl w.heap.size _ #[.int .i64 6, .bool false, .int .i64 0, .string ⟨#[]⟩, .slice NA names.length nc, .slice A acc.length c] 26 rfl rfl HC1.out rfl jv_size (jv_ones _ _ _ _ _ _ _ _ _ _) ?_)
      refine bodyPost_ret (results_j_t Tryz.results106 _ _ w.heap.size _ _ _ _ _ _ rfl HC1.out.setRow) rfl ?_
      exact valR_err hv2.out _ _ _ _ _ _ _ _ _ _ rfl (grown_then HG2.out (setRow_only _ w.heap.size _) (fun q e => .inr (by injection e with e; omega)))
     case true =>
      obtain ⟨rfl⟩ : wd2 = .mark 58 := by
       cases wd2 <;> simp [wMark] at hm
       rw [hm]
      rw [hm] at q1
      have hd2' : s.data.toList.drop q2 = r2 := HD2.out (by simp)
      have cn := jnext_walk g s q2 B hB w2 (HL.out.grown HG2.out (fun q e => by injection e with e; omega)) HP2.out
      rw [hd2'] at cn
      obtain ⟨wd3, r3, hw3⟩ : ∃ wd3 r3, wordR r2 = (wd3, r3) := ⟨_, _, rfl⟩
      have hle3 := wordR_any r2
      rw [hw3] at cn hle3
      have hv2 : Hid (objR (valW d) (s.data.toList.drop p) = match valW d wd3 r3 with | .error e => .error e | .ok (v, r2) => match wordR r2 with | (.mark 125, r3) => .ok (.mk 6 false 0 [] (names ++ [t]) (acc ++ [v]), r3) | (.mark 44, r3) => loopO (valW d) f (names ++ [t]) (acc ++ [v]) (wordR r3).1 (wordR r3).2 | _ => .error 3) := by
       show _ = _
       rw [hv1'.out]
       simp only [hw3]
      have CN := Lib.hid cn
      clear cn hv1' hw3 hm HD2
      simp only
      generalize wordV (.mark 58) = wv2 at *
      go_wp2_with fail
      refine CN.out.mono ?_
      rintro _ w3 ⟨q3, rfl, hP3, hd3, hg3⟩
      have HP3 := Lib.hid hP3
      have HG3 := Lib.hid (grown_then HG2.out hg3 (fun q e => .inl (by injection e with e; exact e.symm)))
      have HC1b := Lib.hid (HC1.out.grown hg3 (by simp; omega))
      have HC2b := Lib.hid (HC2.out.grown hg3 (by simp; omega))
      have HK3 := Lib.hid (HK2.out.grown hg3 (fun q e => by injection e with e; omega))
      have hsz3 : w.heap.size + 2 ≤ w3.heap.size := Nat.le_trans hsz2 hg3.size
      have cv := Lib.hid (HVAL.out g s q3 B wd3 r3 deep w3 hB (HL.out.grown HG3.out (fun q e => by injection e with e; omega)) hP3 hd3 hdd)
      clear hP3 hd3 hg3 HG2 HC1 HC2 HK2 hsz2 l0 l1 l2 l3 l4 l5 q1 q2' CN HP2
      simp only at *
      generalize hwv3 : wordV wd3 = wv3 at *
      go_wp2_with fail
      refine cv.out.mono ?_
      rintro e w4 hw
      cases hr : valW d wd3 r3 with
      | error er =>
       have her := valW_err d wd3 r3 er hr
       rw [hr] at hw
       obtain ⟨k, b, n, st, NA2, nn2, nc2, A2, m2, c2, rfl, hg4⟩ := hw
       have hv3 : Hid (objR (valW d) (s.data.toList.drop p) = .error er) := by show _ = _; rw [hv2.out, hr]
       have hal3 := (Below.refl w4.heap.size w4).alloc (Nat.le_refl _) (.cells #[.int .i64 k, .bool b, .int .i64 n, .string st, .slice NA2 nn2 nc2, .slice A2 m2 c2] 26)
       have HG5 := Lib.hid (grown_below2 (grown_then HG3.out hg4 (fun q e => .inl (by injection e with e; exact e.symm))) hal3)
       have hsz4 := hg4.size
       have HC1c := Lib.hid ((HC1b.out.grown hg4 (by simp; omega)).below hal3 (by omega))
       have HC2c := Lib.hid ((HC2b.out.grown hg4 (by simp; omega)).below hal3 (by omega))
       have e1 : ((er : Int) == 0) = false := by simp; omega
       have e2 : ((er : Int) != 0) = true := by simp; omega
       clear hv2 hr cv HVAL HL hal3 hg4 HC1b HC2b HG3 HK3 HP3
       obtain ⟨l0, l1, l2, l3, l4, l5⟩ := six_cells HC2c.out
       go_wp2_with (first | refine wpList_load_at rfl 26 _ rfl ⟨w.heap.size + 1, 0, none⟩ rfl [.int .i64 6, .bool false, .int .i64 0, .string ⟨#[]⟩, .slice NA names.length nc, .slice A acc.length c] _ (blk_cells HC2c.out) Tryz.underlying26 rfl jv_size ?_ | refine wpList_store_blk rfl 26 _ _ rfl w.heap.size _ #[.int .i64 6, .bool false, .int .i64 0, .string ⟨#[]⟩, .slice NA names.length nc, .slice A acc.length c] 26 rfl rfl HC1c.out rfl jv_size (jv_ones _ _ _ _ _ _ _ _ _ _) ?_)
       refine bodyPost_ret (results_j_t Tryz.results106 _ _ w.heap.size _ _ _ _ _ _ rfl HC1c.out.setRow) rfl ?_
       exact valR_err hv3.out _ _ _ _ _ _ _ _ _ _ rfl (grown_then HG5.out (setRow_only _ w.heap.size _) (fun q e => .inr (by injection e with e; omega)))
      | ok vr =>
       obtain ⟨v, r4⟩ := vr
       rw [hr] at hw
       obtain ⟨cs, q4, rfl, hvv, hP4, hd4, hg4⟩ := hw
       obtain ⟨k, b, n, st, NA2, nn2, nc2, A2, m2, c2, rfl⟩ := hvv.form
       have hv3 : Hid (objR (valW d) (s.data.toList.drop p) = match wordR r4 with | (.mark 125, r3) => .ok (.mk 6 false 0 [] (names ++ [t]) (acc ++ [v]), r3) | (.mark 44, r3) => loopO (valW d) f (names ++ [t]) (acc ++ [v]) (wordR r3).1 (wordR r3).2 | _ => .error 3) := by show _ = _; rw [hv2.out, hr]
       have hal3 := (Below.refl w4.heap.size w4).alloc (Nat.le_refl _) (.cells #[.int .i64 k, .bool b, .int .i64 n, .string st, .slice NA2 nn2 nc2, .slice A2 m2 c2] 26)
       have hle4 := valW_le d wd3 r3 v r4 hr
       have hsz4 := hg4.size
       have HG5 := Lib.hid (grown_below2 (grown_then HG3.out hg4 (fun q e => .inl (by injection e with e; exact e.symm))) hal3)
       have HC1c := Lib.hid ((HC1b.out.grown hg4 (by simp; omega)).below hal3 (by omega))
       have HC2c := Lib.hid ((HC2b.out.grown hg4 (by simp; omega)).below hal3 (by omega))
       have HP5 := Lib.hid (hP4.below hal3)
       have HD5 := Lib.hid hd4
       have hk5 := (HK3.out.grown hg4 (fun q e => by injection e with e; omega)).grown (below_row hal3 none) (by simp)
       have hown : (∀ q, Value.ownBlock (.slice NA names.length nc) = some q → q < w3.heap.size) ∧ (∀ q, Value.ownBlock (.slice A acc.length c) = some q → q < w3.heap.size) := by
        obtain ⟨_, h0, h1, _⟩ := HK3.out
        exact ⟨fun q e => (h0.lt q e).2, fun q e => (h1.lt q e).2⟩
       have HJV := Lib.hid (JvV.toP (D := fun b => w.heap.size + 2 ≤ b ∧ some b ≠ Value.ownBlock (.slice A acc.length c) ∧ some b ≠ Value.ownBlock (.slice NA names.length nc)) (fun b hb _ => ⟨by omega, fun e => by have := hown.2 b e.symm; omega, fun e => by have := hown.1 b e.symm; omega⟩) v _ (hvv.below hal3))
       have HB10 := Lib.hid (Blk.new w4 26 #[.int .i64 k, .bool b, .int .i64 n, .string st, .slice NA2 nn2 nc2, .slice A2 m2 c2])
       have hb10 : w.heap.size + 2 ≤ w4.heap.size := by omega
       have HK5 := Lib.hid hk5
       have HS := Lib.hid (show ObjS w g s q4 w4.heap.size #[.int .i64 6, .bool false, .int .i64 0, .string ⟨#[]⟩, .slice NA names.length nc, .slice A acc.length c] #[.int .i64 k, .bool b, .int .i64 n, .string st, .slice NA2 nn2 nc2, .slice A2 m2 c2] (.slice A acc.length c) acc v [.int .i64 k, .bool b, .int .i64 n, .string st, .slice NA2 nn2 nc2, .slice A2 m2 c2] (.slice NA names.length nc) names _ from ⟨hk5, HJV.out, HC1c.out, HC2c.out, HB10.out, HP5.out, HG5.out, hgl, hb10, fun e => by have := hown.2 _ e.symm; omega, fun e => by have := hown.1 _ e.symm; omega⟩).drew
       clear hv2 hr cv hal3 hg4 HC1b HC2b HG3 HK3 HP3 hvv hP4 hd4 hk5 hown HJV HP5 HG5
       generalize hW : w4.alloc (.cells #[.int .i64 k, .bool b, .int .i64 n, .string st, .slice NA2 nn2 nc2, .slice A2 m2 c2] 26) = W5 at *
       obtain ⟨l0, l1, l2, l3, l4, l5⟩ := six_cells HC2c.out
       go_wp2_with fail
       obtain ⟨p0, p1, p2, p3, p4, p5⟩ := six_cells HB10.out
       refine region_fin (F := fun a a' W => ∃ (v54 v59 : Value) (NA3 A3 : Option Addr) (nc3 c3 : Nat), a' = ((((((((((((a.put (some 51) (.pointer (some ⟨w.heap.size + 1, 4, none⟩))).put (some 52) (.slice NA names.length nc)).put (some 53) (.string z)).put (some 54) v54).put (some 55) (.slice NA3 (names.length + 1) nc3)).put (some 56) (.pointer (some ⟨w.heap.size + 1, 5, none⟩))).put (some 57) (.slice A acc.length c)).put (some 58) (.agg #[.int .i64 k, .bool b, .int .i64 n, .string st, .slice NA2 nn2 nc2, .slice A2 m2 c2])).put (some 59) v59).put (some 60) (.slice A3 (acc.length + 1) c3)).put (some 61) (.pointer (some ⟨w.heap.size + 1, 4, none⟩))).put (some 62) (.pointer (some ⟨w.heap.size + 1, 5, none⟩))) ∧ Hid (ObjT w g s q4 w4.heap.size #[.int .i64 6, .bool false, .int .i64 0, .string ⟨#[]⟩, .slice NA3 (names.length + 1) nc3, .slice A3 (acc.length + 1) c3] #[.int .i64 k, .bool b, .int .i64 n, .string st, .slice NA2 nn2 nc2, .slice A2 m2 c2] (.slice NA3 (names.length + 1) nc3) (names ++ [t]) (.slice A3 (acc.length + 1) c3) (acc ++ [v]) W)) ?_ ?_
       ·
        have hC : HoldF 11 (fun W => W.cell? ⟨w.heap.size + 1, 4, none⟩ = some (.slice NA names.length nc) ∧ W.cell? ⟨w.heap.size + 1, 5, none⟩ = some (.slice A acc.length c) ∧ W.cell? ⟨w4.heap.size, 0, none⟩ = some (.int .i64 k) ∧ W.cell? ⟨w4.heap.size, 1, none⟩ = some (.bool b) ∧ W.cell? ⟨w4.heap.size, 2, none⟩ = some (.int .i64 n) ∧ W.cell? ⟨w4.heap.size, 3, none⟩ = some (.string st) ∧ W.cell? ⟨w4.heap.size, 4, none⟩ = some (.slice NA2 nn2 nc2) ∧ W.cell? ⟨w4.heap.size, 5, none⟩ = some (.slice A2 m2 c2)) (Array.replicate 14 false) W5.drew := fun _ => ⟨l4, l5, p0, p1, p2, p3, p4, p5⟩
        have hCC : ∀ (nv' : Value) (names' : List (List UInt8)) (W : World), ObjS w g s q4 w4.heap.size #[.int .i64 6, .bool false, .int .i64 0, .string ⟨#[]⟩, .slice NA names.length nc, .slice A acc.length c] #[.int .i64 k, .bool b, .int .i64 n, .string st, .slice NA2 nn2 nc2, .slice A2 m2 c2] (.slice A acc.length c) acc v [.int .i64 k, .bool b, .int .i64 n, .string st, .slice NA2 nn2 nc2, .slice A2 m2 c2] nv' names' W → (W.cell? ⟨w.heap.size + 1, 4, none⟩ = some (.slice NA names.length nc) ∧ W.cell? ⟨w.heap.size + 1, 5, none⟩ = some (.slice A acc.length c) ∧ W.cell? ⟨w4.heap.size, 0, none⟩ = some (.int .i64 k) ∧ W.cell? ⟨w4.heap.size, 1, none⟩ = some (.bool b) ∧ W.cell? ⟨w4.heap.size, 2, none⟩ = some (.int .i64 n) ∧ W.cell? ⟨w4.heap.size, 3, none⟩ = some (.string st) ∧ W.cell? ⟨w4.heap.size, 4, none⟩ = some (.slice NA2 nn2 nc2) ∧ W.cell? ⟨w4.heap.size, 5, none⟩ = some (.slice A2 m2 c2)) := fun nv' names' W h => ⟨h.b2.cell 4, h.b2.cell 5, h.b10.cell 0, h.b10.cell 1, h.b10.cell 2, h.b10.cell 3, h.b10.cell 4, h.b10.cell 5⟩
        clear l0 l1 l2 l3 l4 l5 p0 p1 p2 p3 p4 p5 HC1c HC2c HB10 HK5
        refine wp_region_L (S := HoldF 11 (fun W => W.cell? ⟨w.heap.size + 1, 4, none⟩ = some (.slice NA names.length nc) ∧ W.cell? ⟨w.heap.size + 1, 5, none⟩ = some (.slice A acc.length c) ∧ W.cell? ⟨w4.heap.size, 0, none⟩ = some (.int .i64 k) ∧ W.cell? ⟨w4.heap.size, 1, none⟩ = some (.bool b) ∧ W.cell? ⟨w4.heap.size, 2, none⟩ = some (.int .i64 n) ∧ W.cell? ⟨w4.heap.size, 3, none⟩ = some (.string st) ∧ W.cell? ⟨w4.heap.size, 4, none⟩ = some (.slice NA2 nn2 nc2) ∧ W.cell? ⟨w4.heap.size, 5, none⟩ = some (.slice A2 m2 c2))) (by kernel_rfl) ?_
        refine tkl 0 [11] rfl ?_
        try simp only [nrm, Act.put]
        refine tkl 2 [11] rfl ?_
        try simp only [nrm, Act.put]
        refine tkl 5 [11] rfl ?_
        try simp only [nrm, Act.put]
        refine tkl 1 [11] rfl ?_
        try simp only [nrm, Act.put]
        refine tkl 6 [11] rfl ?_
        try simp only [nrm, Act.put]
        refine tkl 7 [11, 9, 8] rfl ?_
        try simp only [nrm, Act.put]
        generalize W5.drew = W0 at HS hC ⊢
        have hzz : Hid (Value.string z = strV t) := by show _ = _; rw [← HZ.out]; rfl
        obtain ⟨is0, his, hs0, hs1, hs2⟩ := infoS4 info_string
        obtain ⟨i0, hi, hz0, hz1, hz2⟩ := infoS4 info_jv
        refine wpAnyL_ready (rs := [3, 8]) (by kernel_rfl) (by simp) ?_
        refine AllReadyL.cons rfl (fun K hK => ?_) ( AllReadyL.cons rfl (fun K hK => ?_) AllReadyL.nil)
        ·
         go_simp
         have hb3 := Blk.new W0 9 #[.string z]
         have hS := HS.out.alloc (.cells #[.string z] 9)
         clear HS
         generalize W0.alloc (.cells #[.string z] 9) = W1 at hS hb3 ⊢
         generalize W0.heap.size = b3 at hb3 ⊢
         refine hK.out _ _ (fun _ => hCC _ _ _ hS) (fun hHeld => ?_)
         have Hb3 := Lib.hid hb3
         have HS := Lib.hid hS
         clear hK K hS hHeld hb3
         try simp only [nrm, Act.put]
         refine wpAnyL_ready (rs := [4, 8]) (by kernel_rfl) (by simp) ?_
         refine AllReadyL.cons rfl (fun K hK => ?_) ( AllReadyL.cons rfl (fun K hK => ?_) AllReadyL.nil)
         ·
          obtain ⟨vs0, ho0, ho1, hj0⟩ := HS.out.kids
          have hbz := HS.out.grown.size
          refine step_append_any W1 rfl (.tmp 52) (.tmp 54) 23 rfl (w.heap.size + 2) 9 is0 (.string ⟨#[]⟩) 1 16 Tryz.underlying23 his hs0 hs1 hs2 rfl (by decide) (.slice NA names.length nc) names.length (strVs names) rfl ho0 W1.heap.size (some ⟨b3, 0, none⟩) 1 1 [.string z] rfl (blk_reads Hb3.out) (by simp [Value.oneCell']) (by unfold maxLen; omega) (by omega) (by have := HS.out.b2.lt; omega) ?_
          intro nv3 W2 ho hg hn
          rw [hzz.out] at ho
          have hS := HS.out.name ho hg hn
          obtain ⟨NA3, nc3, rfl, _, _⟩ := own_reads ho (Nat.le_refl _)
          refine hK.out _ _ (fun _ => hCC _ _ _ hS) (fun hHeld => ?_)
          clear HS Hb3
          have HS := Lib.hid hS
          clear hK K hS ho0 ho1 hj0 ho hg hn hbz
          try simp only [nrm, Act.put]
          refine tkl 10 [11] rfl ?_
          try simp only [nrm, Act.put]
          clear hHeld
          refine rdl 8 rfl fun K hK => ?_
          go_simp
          have hb8 := Blk.new W2 26 #[.int .i64 k, .bool b, .int .i64 n, .string st, .slice NA2 nn2 nc2, .slice A2 m2 c2]
          have hS := HS.out.alloc (.cells #[.int .i64 k, .bool b, .int .i64 n, .string st, .slice NA2 nn2 nc2, .slice A2 m2 c2] 26)
          clear HS
          generalize W2.alloc (.cells #[.int .i64 k, .bool b, .int .i64 n, .string st, .slice NA2 nn2 nc2, .slice A2 m2 c2] 26) = W3 at hS hb8 ⊢
          generalize W2.heap.size = b8 at hb8 ⊢
          refine hK.out _ _ (fun _ => hCC _ _ _ hS) (fun hHeld => ?_)
          have Hb8 := Lib.hid hb8
          have HS := Lib.hid hS
          clear hK K hS hHeld hb8
          try simp only [nrm, Act.put]
          refine rdl 9 rfl fun K hK => ?_
          obtain ⟨vs0, ho0, ho1, hj0⟩ := HS.out.kids
          refine step_append_any W3 rfl (.tmp 57) (.tmp 59) 24 rfl (w.heap.size + 2) 26 i0 (.agg (cells6 0 false 0 [] none 0 0 none 0 0).toArray) 6 88 Tryz.underlying24 hi hz0 hz1 hz2 rfl (by decide) (.slice A acc.length c) acc.length _ rfl ho1 W3.heap.size (some ⟨b8, 0, none⟩) 1 1 [.int .i64 k, .bool b, .int .i64 n, .string st, .slice NA2 nn2 nc2, .slice A2 m2 c2] rfl (blk_reads Hb8.out) (by simp [Value.oneCell']) (by unfold maxLen; omega) (by omega) (by have := HS.out.b2.lt; omega) ?_
          intro av3 W4 ho hg hn
          have hT := HS.out.snoc ho0 ho1 hj0 ho hg hn
          obtain ⟨A3, c3, rfl, _, _⟩ := own_reads ho (Nat.le_refl _)
          refine hK.out _ _ (fun _ => ⟨hT.b2.cell 4, hT.b2.cell 5, hT.b10.cell 0, hT.b10.cell 1, hT.b10.cell 2, hT.b10.cell 3, hT.b10.cell 4, hT.b10.cell 5⟩) (fun hHeld => ?_)
          have HT := Lib.hid hT
          clear hK K hT hHeld ho0 ho1 hj0 ho hg hn HS Hb8
          try simp only [nrm, Act.put]
          refine rdl 11 rfl fun K hK => ?_
          have c4 := HT.out.b2.cell 4
          have f4 := HT.out.b2.frozen 4
          simp only [List.getElem?_toArray, List.getElem?_cons_zero, List.getElem?_cons_succ, List.setIfInBounds_toArray, List.set_cons_zero, List.set_cons_succ] at c4
          go_simp
          have hT := HT.out.set_ 4 (.slice NA3 (names.length + 1) nc3) hb10
          clear HT c4 f4
          generalize W4.setCell ⟨w.heap.size + 1, 4, none⟩ (.slice NA3 (names.length + 1) nc3) = W5 at hT ⊢
          refine hK.out _ _ (fun h => nomatch (show true = false from h)) (fun hHeld => ?_)
          have HT := Lib.hid hT
          clear hK K hHeld hT
          try simp only [nrm, Act.put]
          refine rdl 12 rfl fun K hK => ?_
          go_simp
          refine hK.out _ _ (fun h => nomatch (show true = false from h)) (fun hHeld => ?_)
          clear hK K hHeld
          try simp only [nrm, Act.put]
          refine rdl 13 rfl fun K hK => ?_
          have c5 := HT.out.b2.cell 5
          have f5 := HT.out.b2.frozen 5
          simp only [List.getElem?_toArray, List.getElem?_cons_zero, List.getElem?_cons_succ, List.setIfInBounds_toArray, List.set_cons_zero, List.set_cons_succ] at c5
          go_simp
          have hT := HT.out.set_ 5 (.slice A3 (acc.length + 1) c3) hb10
          clear HT c5 f5
          generalize W5.setCell ⟨w.heap.size + 1, 5, none⟩ (.slice A3 (acc.length + 1) c3) = W6 at hT ⊢
          refine hK.out _ _ (fun h => nomatch (show true = false from h)) (fun hHeld => ?_)
          have HT := Lib.hid hT
          clear hK K hHeld hT
          try simp only [nrm, Act.put]
          refine wpAnyL_done (by kernel_rfl) ?_ _
          exact ⟨rfl, _, _, NA3, A3, nc3, c3, rfl, HT⟩
         ·
          go_simp
          have hb8 := Blk.new W1 26 #[.int .i64 k, .bool b, .int .i64 n, .string st, .slice NA2 nn2 nc2, .slice A2 m2 c2]
          have hS := HS.out.alloc (.cells #[.int .i64 k, .bool b, .int .i64 n, .string st, .slice NA2 nn2 nc2, .slice A2 m2 c2] 26)
          have hne8 : some W1.heap.size ≠ Value.ownBlock (.slice NA names.length nc) := by obtain ⟨_, h0, _, _⟩ := HS.out.kids; exact fun e => by have := (h0.lt _ e.symm).2; omega
          have hb3 := Hb3.out.alloc (.cells #[.int .i64 k, .bool b, .int .i64 n, .string st, .slice NA2 nn2 nc2, .slice A2 m2 c2] 26)
          clear HS Hb3
          generalize W1.alloc (.cells #[.int .i64 k, .bool b, .int .i64 n, .string st, .slice NA2 nn2 nc2, .slice A2 m2 c2] 26) = W2 at hS hb8 hb3 ⊢
          generalize W1.heap.size = b8 at hb8 hne8 ⊢
          have HN8 := Lib.hid hne8
          clear hne8
          refine hK.out _ _ (fun _ => hCC _ _ _ hS) (fun hHeld => ?_)
          have Hb3 := Lib.hid hb3
          have Hb8 := Lib.hid hb8
          have HS := Lib.hid hS
          clear hK K hS hHeld hb3 hb8
          try simp only [nrm, Act.put]
          refine rdl 4 rfl fun K hK => ?_
          obtain ⟨vs0, ho0, ho1, hj0⟩ := HS.out.kids
          have hbz := HS.out.grown.size
          refine step_append_any W2 rfl (.tmp 52) (.tmp 54) 23 rfl (w.heap.size + 2) 9 is0 (.string ⟨#[]⟩) 1 16 Tryz.underlying23 his hs0 hs1 hs2 rfl (by decide) (.slice NA names.length nc) names.length (strVs names) rfl ho0 W2.heap.size (some ⟨b3, 0, none⟩) 1 1 [.string z] rfl (blk_reads Hb3.out) (by simp [Value.oneCell']) (by unfold maxLen; omega) (by omega) (by have := HS.out.b2.lt; omega) ?_
          intro nv3 W3 ho hg hn
          rw [hzz.out] at ho
          have hS := HS.out.name ho hg hn
          have hb8 := Hb8.out.grown hg HN8.out
          obtain ⟨NA3, nc3, rfl, _, _⟩ := own_reads ho (Nat.le_refl _)
          refine hK.out _ _ (fun _ => hCC _ _ _ hS) (fun hHeld => ?_)
          have Hb8' := Lib.hid hb8
          clear HS Hb3 Hb8 hb8 HN8
          have HS := Lib.hid hS
          have Hb8 := Hb8'
          clear hK K hS ho0 ho1 hj0 ho hg hn hbz Hb8'
          try simp only [nrm, Act.put]
          refine tkl 10 [11] rfl ?_
          try simp only [nrm, Act.put]
          clear hHeld
          refine rdl 9 rfl fun K hK => ?_
          obtain ⟨vs0, ho0, ho1, hj0⟩ := HS.out.kids
          refine step_append_any W3 rfl (.tmp 57) (.tmp 59) 24 rfl (w.heap.size + 2) 26 i0 (.agg (cells6 0 false 0 [] none 0 0 none 0 0).toArray) 6 88 Tryz.underlying24 hi hz0 hz1 hz2 rfl (by decide) (.slice A acc.length c) acc.length _ rfl ho1 W3.heap.size (some ⟨b8, 0, none⟩) 1 1 [.int .i64 k, .bool b, .int .i64 n, .string st, .slice NA2 nn2 nc2, .slice A2 m2 c2] rfl (blk_reads Hb8.out) (by simp [Value.oneCell']) (by unfold maxLen; omega) (by omega) (by have := HS.out.b2.lt; omega) ?_
          intro av3 W4 ho hg hn
          have hT := HS.out.snoc ho0 ho1 hj0 ho hg hn
          obtain ⟨A3, c3, rfl, _, _⟩ := own_reads ho (Nat.le_refl _)
          refine hK.out _ _ (fun _ => ⟨hT.b2.cell 4, hT.b2.cell 5, hT.b10.cell 0, hT.b10.cell 1, hT.b10.cell 2, hT.b10.cell 3, hT.b10.cell 4, hT.b10.cell 5⟩) (fun hHeld => ?_)
          have HT := Lib.hid hT
          clear hK K hT hHeld ho0 ho1 hj0 ho hg hn HS Hb8
          try simp only [nrm, Act.put]
          refine rdl 11 rfl fun K hK => ?_
          have c4 := HT.out.b2.cell 4
          have f4 := HT.out.b2.frozen 4
          simp only [List.getElem?_toArray, List.getElem?_cons_zero, List.getElem?_cons_succ, List.setIfInBounds_toArray, List.set_cons_zero, List.set_cons_succ] at c4
          go_simp
          have hT := HT.out.set_ 4 (.slice NA3 (names.length + 1) nc3) hb10
          clear HT c4 f4
          generalize W4.setCell ⟨w.heap.size + 1, 4, none⟩ (.slice NA3 (names.length + 1) nc3) = W5 at hT ⊢
          refine hK.out _ _ (fun h => nomatch (show true = false from h)) (fun hHeld => ?_)
          have HT := Lib.hid hT
          clear hK K hHeld hT
          try simp only [nrm, Act.put]
          refine rdl 12 rfl fun K hK => ?_
          go_simp
          refine hK.out _ _ (fun h => nomatch (show true = false from h)) (fun hHeld => ?_)
          clear hK K hHeld
          try simp only [nrm, Act.put]
          refine rdl 13 rfl fun K hK => ?_
          have c5 := HT.out.b2.cell 5
          have f5 := HT.out.b2.frozen 5
          simp only [List.getElem?_toArray, List.getElem?_cons_zero, List.getElem?_cons_succ, List.setIfInBounds_toArray, List.set_cons_zero, List.set_cons_succ] at c5
          go_simp
          have hT := HT.out.set_ 5 (.slice A3 (acc.length + 1) c3) hb10
          clear HT c5 f5
          generalize W5.setCell ⟨w.heap.size + 1, 5, none⟩ (.slice A3 (acc.length + 1) c3) = W6 at hT ⊢
          refine hK.out _ _ (fun h => nomatch (show true = false from h)) (fun hHeld => ?_)
          have HT := Lib.hid hT
          clear hK K hHeld hT
          try simp only [nrm, Act.put]
          refine wpAnyL_done (by kernel_rfl) ?_ _
          exact ⟨rfl, _, _, NA3, A3, nc3, c3, rfl, HT⟩
        ·
         go_simp
         have hb8 := Blk.new W0 26 #[.int .i64 k, .bool b, .int .i64 n, .string st, .slice NA2 nn2 nc2, .slice A2 m2 c2]
         have hS := HS.out.alloc (.cells #[.int .i64 k, .bool b, .int .i64 n, .string st, .slice NA2 nn2 nc2, .slice A2 m2 c2] 26)
         have hne8 : some W0.heap.size ≠ Value.ownBlock (.slice NA names.length nc) := by obtain ⟨_, h0, _, _⟩ := HS.out.kids; exact fun e => by have := (h0.lt _ e.symm).2; omega
         clear HS
         generalize W0.alloc (.cells #[.int .i64 k, .bool b, .int .i64 n, .string st, .slice NA2 nn2 nc2, .slice A2 m2 c2] 26) = W1 at hS hb8 ⊢
         generalize W0.heap.size = b8 at hb8 hne8 ⊢
         have HN8 := Lib.hid hne8
         clear hne8
         refine hK.out _ _ (fun _ => hCC _ _ _ hS) (fun hHeld => ?_)
         have Hb8 := Lib.hid hb8
         have HS := Lib.hid hS
         clear hK K hS hHeld hb8
         try simp only [nrm, Act.put]
         refine rdl 3 rfl fun K hK => ?_
         go_simp
         have hb3 := Blk.new W1 9 #[.string z]
         have hS := HS.out.alloc (.cells #[.string z] 9)
         have hb8 := Hb8.out.alloc (.cells #[.string z] 9)
         clear HS Hb8
         generalize W1.alloc (.cells #[.string z] 9) = W2 at hS hb3 hb8 ⊢
         generalize W1.heap.size = b3 at hb3 ⊢
         refine hK.out _ _ (fun _ => hCC _ _ _ hS) (fun hHeld => ?_)
         have Hb8 := Lib.hid hb8
         have Hb3 := Lib.hid hb3
         have HS := Lib.hid hS
         clear hK K hS hHeld hb8 hb3
         try simp only [nrm, Act.put]
         refine rdl 4 rfl fun K hK => ?_
         obtain ⟨vs0, ho0, ho1, hj0⟩ := HS.out.kids
         have hbz := HS.out.grown.size
         refine step_append_any W2 rfl (.tmp 52) (.tmp 54) 23 rfl (w.heap.size + 2) 9 is0 (.string ⟨#[]⟩) 1 16 Tryz.underlying23 his hs0 hs1 hs2 rfl (by decide) (.slice NA names.length nc) names.length (strVs names) rfl ho0 W2.heap.size (some ⟨b3, 0, none⟩) 1 1 [.string z] rfl (blk_reads Hb3.out) (by simp [Value.oneCell']) (by unfold maxLen; omega) (by omega) (by have := HS.out.b2.lt; omega) ?_
         intro nv3 W3 ho hg hn
         rw [hzz.out] at ho
         have hS := HS.out.name ho hg hn
         have hb8 := Hb8.out.grown hg HN8.out
         obtain ⟨NA3, nc3, rfl, _, _⟩ := own_reads ho (Nat.le_refl _)
         refine hK.out _ _ (fun _ => hCC _ _ _ hS) (fun hHeld => ?_)
         have Hb8' := Lib.hid hb8
         clear HS Hb3 Hb8 hb8 HN8
         have HS := Lib.hid hS
         have Hb8 := Hb8'
         clear hK K hS ho0 ho1 hj0 ho hg hn hbz Hb8'
         try simp only [nrm, Act.put]
         refine tkl 10 [11] rfl ?_
         try simp only [nrm, Act.put]
         clear hHeld
         refine rdl 9 rfl fun K hK => ?_
         obtain ⟨vs0, ho0, ho1, hj0⟩ := HS.out.kids
         refine step_append_any W3 rfl (.tmp 57) (.tmp 59) 24 rfl (w.heap.size + 2) 26 i0 (.agg (cells6 0 false 0 [] none 0 0 none 0 0).toArray) 6 88 Tryz.underlying24 hi hz0 hz1 hz2 rfl (by decide) (.slice A acc.length c) acc.length _ rfl ho1 W3.heap.size (some ⟨b8, 0, none⟩) 1 1 [.int .i64 k, .bool b, .int .i64 n, .string st, .slice NA2 nn2 nc2, .slice A2 m2 c2] rfl (blk_reads Hb8.out) (by simp [Value.oneCell']) (by unfold maxLen; omega) (by omega) (by have := HS.out.b2.lt; omega) ?_
         intro av3 W4 ho hg hn
         have hT := HS.out.snoc ho0 ho1 hj0 ho hg hn
         obtain ⟨A3, c3, rfl, _, _⟩ := own_reads ho (Nat.le_refl _)
         refine hK.out _ _ (fun _ => ⟨hT.b2.cell 4, hT.b2.cell 5, hT.b10.cell 0, hT.b10.cell 1, hT.b10.cell 2, hT.b10.cell 3, hT.b10.cell 4, hT.b10.cell 5⟩) (fun hHeld => ?_)
         have HT := Lib.hid hT
         clear hK K hT hHeld ho0 ho1 hj0 ho hg hn HS Hb8
         try simp only [nrm, Act.put]
         refine rdl 11 rfl fun K hK => ?_
         have c4 := HT.out.b2.cell 4
         have f4 := HT.out.b2.frozen 4
         simp only [List.getElem?_toArray, List.getElem?_cons_zero, List.getElem?_cons_succ, List.setIfInBounds_toArray, List.set_cons_zero, List.set_cons_succ] at c4
         go_simp
         have hT := HT.out.set_ 4 (.slice NA3 (names.length + 1) nc3) hb10
         clear HT c4 f4
         generalize W4.setCell ⟨w.heap.size + 1, 4, none⟩ (.slice NA3 (names.length + 1) nc3) = W5 at hT ⊢
         refine hK.out _ _ (fun h => nomatch (show true = false from h)) (fun hHeld => ?_)
         have HT := Lib.hid hT
         clear hK K hHeld hT
         try simp only [nrm, Act.put]
         refine rdl 12 rfl fun K hK => ?_
         go_simp
         refine hK.out _ _ (fun h => nomatch (show true = false from h)) (fun hHeld => ?_)
         clear hK K hHeld
         try simp only [nrm, Act.put]
         refine rdl 13 rfl fun K hK => ?_
         have c5 := HT.out.b2.cell 5
         have f5 := HT.out.b2.frozen 5
         simp only [List.getElem?_toArray, List.getElem?_cons_zero, List.getElem?_cons_succ, List.setIfInBounds_toArray, List.set_cons_zero, List.set_cons_succ] at c5
         go_simp
         have hT := HT.out.set_ 5 (.slice A3 (acc.length + 1) c3) hb10
         clear HT c5 f5
         generalize W5.setCell ⟨w.heap.size + 1, 5, none⟩ (.slice A3 (acc.length + 1) c3) = W6 at hT ⊢
         refine hK.out _ _ (fun h => nomatch (show true = false from h)) (fun hHeld => ?_)
         have HT := Lib.hid hT
         clear hK K hHeld hT
         try simp only [nrm, Act.put]
         refine wpAnyL_done (by kernel_rfl) ?_ _
         exact ⟨rfl, _, _, NA3, A3, nc3, c3, rfl, HT⟩
       ·
        rintro a' W6 ⟨v54, v59, NA3, A3, nc3, c3, rfl, HT⟩
        try simp only [nrm, Act.put]
        have cn2 := jnext_walk g s q4 B hB W6 (HL.out.grown HT.out.grown (fun q e => by injection e with e; omega)) HT.out.pat
        rw [HD5.out] at cn2
        have CN2 := Lib.hid cn2
        have hsz6 : w.heap.size + 2 ≤ W6.heap.size := HT.out.b2.lt
        clear cn2 HS HC1c HC2c HB10 HK5 l0 l1 l2 l3 l4 l5 p0 p1 p2 p3 p4 p5 hW HD5 hsz4 hsz3 HD1
        obtain ⟨wd5, r5, hw5⟩ : ∃ wd5 r5, wordR r4 = (wd5, r5) := ⟨_, _, rfl⟩
        have hlt5 := wordR_lt r4
        rw [hw5] at hlt5 CN2
        have hv4 : Hid (objR (valW d) (s.data.toList.drop p) = match ((wd5, r5) : Wd × List UInt8) with | (.mark 125, r3) => .ok (.mk 6 false 0 [] (names ++ [t]) (acc ++ [v]), r3) | (.mark 44, r3) => loopO (valW d) f (names ++ [t]) (acc ++ [v]) (wordR r3).1 (wordR r3).2 | _ => .error 3) := by
         show _ = _
         rw [← hw5]
         exact hv3.out
        clear hv3 hw5
        go_wp2_with fail
        refine CN2.out.mono ?_
        rintro _ w6 ⟨q5, rfl, hP6, hd6, hg6⟩
        have HP6 := Lib.hid hP6
        have HD6 := Lib.hid hd6
        have HG6 := Lib.hid (grown_then HT.out.grown hg6 (fun q e => .inl (by injection e with e; exact e.symm)))
        have HC1c := Lib.hid (HT.out.b1.grown hg6 (by simp; omega))
        have HC2c := Lib.hid (HT.out.b2.grown hg6 (by simp; omega))
        have HK6 := Lib.hid (HT.out.kids.grown hg6 (fun q e => by injection e with e; omega))
        have hsz7 : w.heap.size + 2 ≤ w6.heap.size := Nat.le_trans hsz6 hg6.size
        have ce := Lib.hid (ends_walk wd5 125)
        clear hP6 hd6 hg6 HT CN2 hsz6
        have hx6 := six_cells HC2c.out
        obtain ⟨l0, l1, l2, l3, l4, l5⟩ := hx6
        by_cases hc1 : wd5 = .mark 125
        ·
         subst hc1
         have hv5 : Hid (objR (valW d) (s.data.toList.drop p) = .ok (.mk 6 false 0 [] (names ++ [t]) (acc ++ [v]), r5)) := hv4.out
         generalize wordV (.mark 125) = wv6 at *
         clear hv4
         go_wp2_with fail
         refine (ce.out _).mono ?_
         rintro _ w7 ⟨rfl, rfl⟩
         simp only [show endsB (.mark 125) 125 = (true, true) from rfl]
         go_wp2_with (first | refine wpList_load_at rfl 26 _ rfl ⟨w.heap.size + 1, 0, none⟩ rfl [.int .i64 6, .bool false, .int .i64 0, .string ⟨#[]⟩, .slice NA3 (names.length + 1) nc3, .slice A3 (acc.length + 1) c3] _ (blk_cells HC2c.out) Tryz.underlying26 rfl jv_size ?_ | refine wpList_store_blk rfl 26 _ _ rfl w.heap.size _ #[.int .i64 6, .bool false, .int .i64 0, .string ⟨#[]⟩, .slice NA3 (names.length + 1) nc3, .slice A3 (acc.length + 1) c3] 26 rfl rfl HC1c.out rfl jv_size (jv_ones _ _ _ _ _ _ _ _ _ _) ?_)
         refine bodyPost_ret (results_j_t Tryz.results106 _ _ w.heap.size _ _ _ _ _ _ rfl HC1c.out.setRow) rfl ?_
         exact kids_done hgl hv5.out HK6.out rfl rfl HP6.out (HD6.out (by simp)) HG6.out _
        ·
         by_cases hc2 : wd5 = .mark 44
         ·
          subst hc2
          have hl5 : r5.length < r4.length := by
           rcases hlt5 with h | h
           ·
            exact absurd h.1 (by simp)
           ·
            exact h
          have hd6' : s.data.toList.drop q5 = r5 := HD6.out (by simp)
          have hv5 : Hid (objR (valW d) (s.data.toList.drop p) = loopO (valW d) f (names ++ [t]) (acc ++ [v]) (wordR r5).1 (wordR r5).2) := hv4.out
          have cn3 := jnext_walk g s q5 B hB w6 (HL.out.grown HG6.out (fun q e => by injection e with e; omega)) HP6.out
          rw [hd6'] at cn3
          have CN3 := Lib.hid cn3
          clear cn3 hv4 hlt5 hc1 HP6 HD6
          generalize wordV (.mark 44) = wv6 at *
          go_wp2_with fail
          refine (ce.out _).mono ?_
          rintro _ w7 ⟨rfl, rfl⟩
          simp only [show endsB (.mark 44) 125 = (false, true) from rfl]
          go_wp2_with fail
          refine CN3.out.mono ?_
          rintro _ w8 ⟨q6, rfl, hP8, hd8, hg8⟩
          have HP8 := Lib.hid hP8
          have HD8 := Lib.hid hd8
          have HG8 := Lib.hid (grown_then HG6.out hg8 (fun q e => .inl (by injection e with e; exact e.symm)))
          have HC1d := Lib.hid (HC1c.out.grown hg8 (by simp; omega))
          have HC2d := Lib.hid (HC2c.out.grown hg8 (by simp; omega))
          have HK8 := Lib.hid (HK6.out.grown hg8 (fun q e => by injection e with e; omega))
          have hsz8 : w.heap.size + 2 ≤ w8.heap.size := Nat.le_trans hsz7 hg8.size
          clear hP8 hd8 hg8 HG6 HC1c HC2c HK6 CN3 l0 l1 l2 l3 l4 l5
          go_wp2_with fail
          have hra := wordR_any r5
          have hnl := HNL.out
          refine ⟨⟨f, q6, (wordR r5).1, (wordR r5).2, names ++ [t], acc ++ [v], _, _, rfl, HP8, HD8, hv5, by omega, by simp; omega, by simp [hnl], HC1d, HC2d, HK8, HG8, hsz8⟩, ?_⟩
          rw [hmz.out]
          exact Nat.lt_of_le_of_lt (wordMz_le HP8.out HD8.out) (by omega)
         ·
          have hee : endsB wd5 125 = (false, false) := by
           cases wd5 with
           | mark m =>
            have h1 : m ≠ 125 := fun e => hc1 (by rw [e])
            have h2 : m ≠ 44 := fun e => hc2 (by rw [e])
            simp [endsB, h1, h2]
           | _ => rfl
          have hv5 : Hid (objR (valW d) (s.data.toList.drop p) = .error 3) := by
           show _ = _
           rw [hv4.out]
           split
           ·
            rename_i h; injection h with h1 h2; exact absurd h1 hc1
           ·
            rename_i h; injection h with h1 h2; exact absurd h1 hc2
           ·
            rfl
          rw [hee] at ce
          clear hv4 hlt5 hc1 hc2 HD6 hee
          simp only
          generalize wordV wd5 = wv6 at *
          go_wp2_with fail
          refine (ce.out _).mono ?_
          rintro _ w7 ⟨rfl, rfl⟩
          go_wp2_with (first | refine wpList_load_at rfl 26 _ rfl ⟨w.heap.size + 1, 0, none⟩ rfl [.int .i64 6, .bool false, .int .i64 0, .string ⟨#[]⟩, .slice NA3 (names.length + 1) nc3, .slice A3 (acc.length + 1) c3] _ (blk_cells HC2c.out) Tryz.underlying26 rfl jv_size ?_ | refine wpList_store_blk rfl 26 _ _ rfl w.heap.size _ #[.int .i64 6, .bool false, .int .i64 0, .string ⟨#[]⟩, .slice NA3 (names.length + 1) nc3, .slice A3 (acc.length + 1) c3] 26 rfl rfl HC1c.out rfl jv_size (jv_ones _ _ _ _ _ _ _ _ _ _) ?_)
          refine bodyPost_ret (results_j_t Tryz.results106 _ _ w.heap.size _ _ _ _ _ _ rfl HC1c.out.setRow) rfl ?_
          exact valR_err hv5.out _ _ _ _ _ _ _ _ _ _ rfl (grown_then HG6.out (setRow_only _ w.heap.size _) (fun q e => .inr (by injection e with e; omega)))
end Go.Proofs.YtieppmppdmcleaaGreatDoor

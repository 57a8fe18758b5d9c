/- json.Parse, whole; countersignlaw12.within; countersignref12's S, I, B, O. Conditions: a text of at most 1000000 bytes; the laid variables. -/
import Derived.Test.YtieppmppdmcleaaGreatDoorJ6
import Derived.Test.YtieppmppdmcleaaGreatDoorJ8
set_option linter.unusedVariables false
set_option linter.unusedSimpArgs false
set_option maxRecDepth 20000
namespace Go.Proofs.YtieppmppdmcleaaGreatDoor
section
open Go.RowKit Go.Maps
theorem val_ok : ∀ d, ValOk d := value_all list_many object_many
def ParseR (l : List UInt8) (w : World) (e : Ending) (w' : World) : Prop := ∃ cs, e = .returned (.tuple #[.agg cs.toArray, .int .i64 ((parseL l).1 : Int)]) ∧ JvV w' w.heap.size (parseL l).2 cs ∧ Below w.heap.size w w'
set_option maxHeartbeats 16000000 in
theorem parse_walk (s : ByteArray) (l : List UInt8) (hs : s.data.toList = l) (hm : s.size ≤ 1000000) (w : World) (hL : LaidB w w.heap.size) : Calls Tryz.prog 50 #[.string s] w (ParseR l w) := by
 have h1 := (Below.refl w.heap.size w).alloc (Nat.le_refl _) (.cells #[.int .i64 0, .bool false, .int .i64 0, .string ⟨#[]⟩, .slice none 0 0, .slice none 0 0] 26)
 have h2 := h1.alloc (by simp) (.cells #[.string s, .int .i64 0] 104)
 have hk1 := (Blk.new w 26 #[.int .i64 0, .bool false, .int .i64 0, .string ⟨#[]⟩, .slice none 0 0, .slice none 0 0]).below ((Below.refl (w.heap.size + 1) _).alloc (by simp) (.cells #[.string s, .int .i64 0] 104)) (by omega)
 have hk2 : Blk ((w.alloc (.cells #[.int .i64 0, .bool false, .int .i64 0, .string ⟨#[]⟩, .slice none 0 0, .slice none 0 0] 26)).alloc (.cells #[.string s, .int .i64 0] 104)) (w.heap.size + 1) 104 #[.string s, .int .i64 0] := by
  have := Blk.new (w.alloc (.cells #[.int .i64 0, .bool false, .int .i64 0, .string ⟨#[]⟩, .slice none 0 0, .slice none 0 0] 26)) 104 #[.string s, .int .i64 0]
  simpa using this
 have hP0 : PAt ((w.alloc (.cells #[.int .i64 0, .bool false, .int .i64 0, .string ⟨#[]⟩, .slice none 0 0, .slice none 0 0] 26)).alloc (.cells #[.string s, .int .i64 0] 104)) (w.heap.size + 1) s 0 := ⟨hk2, Nat.zero_le _, hm⟩
 have hL2 := hL.grown (below_row h2 none) (by simp)
 have cn := Lib.hid (jnext_walk (w.heap.size + 1) s 0 w.heap.size (by omega) _ hL2 hP0)
 have HB2 := Lib.hid h2
 have HK1 := Lib.hid hk1
 have HL := Lib.hid hL
 have hslen : l.length = s.size := by rw [← hs]; simp
 clear h1 h2 hk1 hk2 hL hL2 hP0
 rw [List.drop_zero, hs] at cn
 go_enter Tryz.func50, Tryz.ntmps50
 go_wp2_with fail
 refine (cn.out).mono ?_
 rintro _ w1 ⟨q, rfl, hP, hd, hg⟩
 have hb1 := HB2.out.grown hg (by simp; omega) (fun q e => by injection e with e; omega)
 have hsz0 : w.heap.size + 2 ≤ w1.heap.size := by have := hg.size; simp at this; omega
 have HK1b := Lib.hid (HK1.out.grown hg (by simp))
 have cv := Lib.hid (val_ok 8 (w.heap.size + 1) s q w.heap.size (wordR l).1 (wordR l).2 0 w1 (by omega) (HL.out.grown (below_row hb1 none) (by simp)) hP hd rfl)
 have HB1 := Lib.hid hb1
 clear hP hd hg cn HK1 HB2 hb1
 simp only at *
 generalize hwv : wordV (wordR l).1 = wv at *
 go_wp2_with fail
 refine (cv.out).mono ?_
 rintro e w2 hw
 cases hr : valW 8 (wordR l).1 (wordR l).2 with
 | error er =>
  have her := valW_err 8 _ _ er hr
  rw [hr] at hw
  obtain ⟨k, b, n, st, NA, nn, nc, A, m, c, rfl, hg⟩ := hw
  have hv : Hid (parseL l = (er, jvZ)) := by show _ = _; unfold parseL; rw [hr]
  have hb2 := HB1.out.grown hg HB1.out.size (fun q e => by injection e with e; omega)
  have hal := (Below.refl w2.heap.size w2).alloc (Nat.le_refl _) (.cells #[.int .i64 k, .bool b, .int .i64 n, .string st, .slice NA nn nc, .slice A m c] 26)
  have HK2 := Lib.hid ((HK1b.out.grown hg (by simp)).below hal (by have := (HK1b.out.grown hg (by simp)).lt; exact this))
  have HB2 := Lib.hid (below_next hb2 hal)
  have e1 : ((er : Int) == 0) = false := by simp; omega
  have e2 : ((er : Int) != 0) = true := by simp; omega
  clear hr cv hg hb2 hal HB1 HK1b HL
  go_wp2_with (refine wpList_store_blk rfl 26 _ _ rfl w.heap.size _ #[.int .i64 0, .bool false, .int .i64 0, .string ⟨#[]⟩, .slice none 0 0, .slice none 0 0] 26 rfl rfl HK2.out rfl jv_size (jv_ones _ _ _ _ _ _ _ _ _ _) ?_)
  refine bodyPost_ret (results_j_t Tryz.results50 _ _ w.heap.size _ _ _ _ _ _ rfl HK2.out.setRow) rfl ?_
  refine ⟨cells6 0 false 0 [] none 0 0 none 0 0, ?_, ?_, below_setRow HB2.out (Nat.le_refl _) _⟩
  ·
   rw [hv.out]; rfl
  ·
   rw [hv.out]; exact jv_leaf _ _ _ _ _ _
 | ok vr =>
  obtain ⟨v, r4⟩ := vr
  rw [hr] at hw
  obtain ⟨cs, q2, rfl, hvv, hP2, hd2, hg⟩ := hw
  obtain ⟨k, b, n, st, NA, nn, nc, A, m, c, rfl⟩ := hvv.form
  have hb2 := HB1.out.grown hg HB1.out.size (fun q e => by injection e with e; omega)
  have hsz1 := HB1.out.size
  have hsz2 := hg.size
  have hal := (Below.refl w2.heap.size w2).alloc (Nat.le_refl _) (.cells #[.int .i64 k, .bool b, .int .i64 n, .string st, .slice NA nn nc, .slice A m c] 26)
  have hk2 := HK1b.out.grown hg (by simp)
  have HK2 := Lib.hid (hk2.below hal hk2.lt)
  have HN := Lib.hid (Blk.new w2 26 #[.int .i64 k, .bool b, .int .i64 n, .string st, .slice NA nn nc, .slice A m c])
  have HB2 := Lib.hid (below_next hb2 hal)
  have HP2 := Lib.hid (hP2.below hal)
  have HV2 := Lib.hid (hvv.below hal)
  have cb := Lib.hid (blanks_walk _ s q2 _ HP2.out)
  have hv : Hid (parseL l = if skipB r4 = [] then (0, v) else (5, jvZ)) := by show _ = _; unfold parseL; rw [hr]
  have HD2 := Lib.hid hd2
  clear hr cv hg hb2 hal HB1 HK1b HL hk2 hP2 hvv hd2
  generalize hW : w2.alloc (.cells #[.int .i64 k, .bool b, .int .i64 n, .string st, .slice NA nn nc, .slice A m c] 26) = W3 at *
  go_wp2_with fail
  refine cb.out.mono ?_
  rintro _ W4 ⟨q3, rfl, hP4, hd4, hg4⟩
  rw [HD2.out] at hd4
  have hb4 := HB2.out.grown hg4 HB2.out.size (fun q e => by injection e with e; omega)
  have HK4 := Lib.hid (HK2.out.grown hg4 (by simp))
  have HN4 := Lib.hid (HN.out.grown hg4 (by simp; omega))
  have HB4 := Lib.hid hb4
  obtain ⟨z0, z1, z2⟩ := hP4.facts
  have hq3 := hP4.2.1
  by_cases hq : q3 < s.size
  ·
   have hne : skipB r4 ≠ [] := by
    rw [← hd4]
    intro e
    have := List.drop_eq_nil_iff.1 e
    rw [hs] at this
    omega
   have hv2 : Hid (parseL l = (5, jvZ)) := by show _ = _; rw [hv.out, if_neg hne]
   have d1 : decide ((q3 : Int) < (s.size : Int)) = true := by simp; omega
   have d2 : decide (q3 < s.size) = true := by simp; omega
   clear hv hd4 hg4 hb4 HK2 HN HB2 HP2 HV2 cb HD2 hne
   go_wp2_with (refine wpList_store_blk rfl 26 _ _ rfl w.heap.size _ #[.int .i64 0, .bool false, .int .i64 0, .string ⟨#[]⟩, .slice none 0 0, .slice none 0 0] 26 rfl rfl HK4.out rfl jv_size (jv_ones _ _ _ _ _ _ _ _ _ _) ?_)
   refine bodyPost_ret (results_j_t Tryz.results50 _ _ w.heap.size _ _ _ _ _ _ rfl HK4.out.setRow) rfl ?_
   refine ⟨cells6 0 false 0 [] none 0 0 none 0 0, ?_, ?_, below_setRow HB4.out (Nat.le_refl _) _⟩
   ·
    rw [hv2.out]; rfl
   ·
    rw [hv2.out]; exact jv_leaf _ _ _ _ _ _
  ·
   have hnil : skipB r4 = [] := by
    rw [← hd4]
    exact List.drop_eq_nil_of_le (by rw [hs]; omega)
   have hv2 : Hid (parseL l = (0, v)) := by show _ = _; rw [hv.out, if_pos hnil]
   have d1 : decide ((q3 : Int) < (s.size : Int)) = false := by simp; omega
   have d2 : decide (q3 < s.size) = false := by simp; omega
   have HV4 := Lib.hid (HV2.out.grown hg4 (fun q e => by injection e with e; omega))
   obtain ⟨l0, l1, l2, l3, l4, l5⟩ := six_cells HN4.out
   clear hv hd4 hg4 hb4 HK2 HN HB2 HP2 HV2 cb HD2 hnil
   go_wp2_with (first | refine wpList_load_at rfl 26 _ rfl ⟨w2.heap.size, 0, none⟩ rfl [.int .i64 k, .bool b, .int .i64 n, .string st, .slice NA nn nc, .slice A m c] _ (blk_cells HN4.out) Tryz.underlying26 rfl jv_size ?_ | refine wpList_store_blk rfl 26 _ _ rfl w.heap.size _ #[.int .i64 k, .bool b, .int .i64 n, .string st, .slice NA nn nc, .slice A m c] 26 rfl rfl HK4.out rfl jv_size (jv_ones _ _ _ _ _ _ _ _ _ _) ?_)
   refine bodyPost_ret (results_j_t Tryz.results50 _ _ w.heap.size _ _ _ _ _ _ rfl HK4.out.setRow) rfl ?_
   have hsr := setRow_only W4 w.heap.size #[.int .i64 k, .bool b, .int .i64 n, .string st, .slice NA nn nc, .slice A m c]
   refine ⟨[.int .i64 k, .bool b, .int .i64 n, .string st, .slice NA nn nc, .slice A m c], ?_, ?_, below_setRow HB4.out (Nat.le_refl _) _⟩
   rotate_left
   ·
    rw [hv2.out]; exact (HV4.out.grown hsr (fun q e => by injection e with e; omega)).low (by omega)
   ·
    rw [hv2.out]; rfl
end
section
open Go.RowKit Go.Maps
theorem s_walk (w : World) (t : ByteArray) : Calls Tryz.prog 23 #[.string t] w fun e w' => e = .returned (.agg #[.int .i64 4, .bool false, .int .i64 0, .string t, .slice none 0 0, .slice none 0 0]) ∧ Below w.heap.size w w' := by
 have HK := Lib.hid (Blk.new w 26 #[.int .i64 0, .bool false, .int .i64 0, .string ⟨#[]⟩, .slice none 0 0, .slice none 0 0])
 have HB := Lib.hid ((Below.refl w.heap.size w).alloc (Nat.le_refl _) (.cells #[.int .i64 0, .bool false, .int .i64 0, .string ⟨#[]⟩, .slice none 0 0, .slice none 0 0] 26))
 go_enter Tryz.func23, Tryz.ntmps23
 go_wp2_with (refine wpList_store_blk rfl 26 _ _ rfl w.heap.size _ _ 26 rfl rfl HK.out rfl jv_size (jv_ones _ _ _ _ _ _ _ _ _ _) ?_)
 exact bodyPost_ret (results_cell_row Tryz.results23 _ _ w.heap.size _ _ _ _ rfl HK.out.setRow Tryz.underlying26 rfl (by kernel_rfl)) rfl ⟨rfl, below_setRow HB.out (Nat.le_refl _) _⟩
theorem i_walk (w : World) (n : Int) : Calls Tryz.prog 44 #[.int .i64 n] w fun e w' => e = .returned (.agg #[.int .i64 3, .bool false, .int .i64 n, .string ⟨#[]⟩, .slice none 0 0, .slice none 0 0]) ∧ Below w.heap.size w w' := by
 have HK := Lib.hid (Blk.new w 26 #[.int .i64 0, .bool false, .int .i64 0, .string ⟨#[]⟩, .slice none 0 0, .slice none 0 0])
 have HB := Lib.hid ((Below.refl w.heap.size w).alloc (Nat.le_refl _) (.cells #[.int .i64 0, .bool false, .int .i64 0, .string ⟨#[]⟩, .slice none 0 0, .slice none 0 0] 26))
 go_enter Tryz.func44, Tryz.ntmps44
 go_wp2_with (refine wpList_store_blk rfl 26 _ _ rfl w.heap.size _ _ 26 rfl rfl HK.out rfl jv_size (jv_ones _ _ _ _ _ _ _ _ _ _) ?_)
 exact bodyPost_ret (results_cell_row Tryz.results44 _ _ w.heap.size _ _ _ _ rfl HK.out.setRow Tryz.underlying26 rfl (by kernel_rfl)) rfl ⟨rfl, below_setRow HB.out (Nat.le_refl _) _⟩
theorem b_walk (w : World) (b : Bool) : Calls Tryz.prog 43 #[.bool b] w fun e w' => e = .returned (.agg #[.int .i64 2, .bool b, .int .i64 0, .string ⟨#[]⟩, .slice none 0 0, .slice none 0 0]) ∧ Below w.heap.size w w' := by
 have HK := Lib.hid (Blk.new w 26 #[.int .i64 0, .bool false, .int .i64 0, .string ⟨#[]⟩, .slice none 0 0, .slice none 0 0])
 have HB := Lib.hid ((Below.refl w.heap.size w).alloc (Nat.le_refl _) (.cells #[.int .i64 0, .bool false, .int .i64 0, .string ⟨#[]⟩, .slice none 0 0, .slice none 0 0] 26))
 go_enter Tryz.func43, Tryz.ntmps43
 go_wp2_with (refine wpList_store_blk rfl 26 _ _ rfl w.heap.size _ _ 26 rfl rfl HK.out rfl jv_size (jv_ones _ _ _ _ _ _ _ _ _ _) ?_)
 exact bodyPost_ret (results_cell_row Tryz.results43 _ _ w.heap.size _ _ _ _ rfl HK.out.setRow Tryz.underlying26 rfl (by kernel_rfl)) rfl ⟨rfl, below_setRow HB.out (Nat.le_refl _) _⟩
theorem o_walk (w : World) (NA : Option Addr) (nn nc : Nat) (A : Option Addr) (m c : Nat) : Calls Tryz.prog 22 #[.slice NA nn nc, .slice A m c] w fun e w' => e = .returned (.agg #[.int .i64 6, .bool false, .int .i64 0, .string ⟨#[]⟩, .slice NA nn nc, .slice A m c]) ∧ Below w.heap.size w w' := by
 have HK := Lib.hid (Blk.new w 26 #[.int .i64 0, .bool false, .int .i64 0, .string ⟨#[]⟩, .slice none 0 0, .slice none 0 0])
 have HB := Lib.hid ((Below.refl w.heap.size w).alloc (Nat.le_refl _) (.cells #[.int .i64 0, .bool false, .int .i64 0, .string ⟨#[]⟩, .slice none 0 0, .slice none 0 0] 26))
 go_enter Tryz.func22, Tryz.ntmps22
 go_wp2_with (refine wpList_store_blk rfl 26 _ _ rfl w.heap.size _ _ 26 rfl rfl HK.out rfl jv_size (jv_ones _ _ _ _ _ _ _ _ _ _) ?_)
 exact bodyPost_ret (results_cell_row Tryz.results22 _ _ w.heap.size _ _ _ _ rfl HK.out.setRow Tryz.underlying26 rfl (by kernel_rfl)) rfl ⟨rfl, below_setRow HB.out (Nat.le_refl _) _⟩
end
end Go.Proofs.YtieppmppdmcleaaGreatDoor

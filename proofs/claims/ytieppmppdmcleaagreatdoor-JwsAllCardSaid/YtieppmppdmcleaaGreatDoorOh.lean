/- countersignref12.Parse, given its reader's value. Condition: a text of at most 1000000 bytes. -/
import Derived.Test.YtieppmppdmcleaaGreatDoorOf
import Derived.Test.YtieppmppdmcleaaGreatDoorLb
set_option linter.unusedVariables false
set_option linter.unusedSimpArgs false
set_option maxRecDepth 20000
namespace Go.Proofs.YtieppmppdmcleaaGreatDoor
open Go.RowKit Go.Maps
theorem rparse_end (l : List UInt8) (er : Nat) (v : Jv) (r : List UInt8) :
  (valW 8 (wordR l).1 (wordR l).2 = .error er → parseL l = (er, jvZ)) ∧ (valW 8 (wordR l).1 (wordR l).2 = .ok (v, r) → parseL l = if skipB r = [] then (0, v) else (5, jvZ)) :=
 ⟨fun h => by unfold parseL; rw [h], fun h => by unfold parseL; rw [h]⟩
set_option maxHeartbeats 16000000 in
theorem rparse_walk (hval : RValOk 8) (s : ByteArray) (l : List UInt8) (hs : s.data.toList = l) (hm : s.size ≤ 1000000) (w : World) : Calls Tryz.prog 35 #[.string s] w (ParseR l w) := by
 have h1 := (Below.refl w.heap.size w).alloc (Nat.le_refl _) (.cells #[.int .i64 0, .bool false, .int .i64 0, .string ⟨#[]⟩, .slice none 0 0, .slice none 0 0] 26)
 have h2 := h1.alloc (by simp) (.cells #[.string s, .int .i64 0, .int .i64 0] 87)
 have hk1 := (Blk.new w 26 #[.int .i64 0, .bool false, .int .i64 0, .string ⟨#[]⟩, .slice none 0 0, .slice none 0 0]).below ((Below.refl (w.heap.size + 1) _).alloc (by simp) (.cells #[.string s, .int .i64 0, .int .i64 0] 87)) (by omega)
 have hk2 : Blk ((w.alloc (.cells #[.int .i64 0, .bool false, .int .i64 0, .string ⟨#[]⟩, .slice none 0 0, .slice none 0 0] 26)).alloc (.cells #[.string s, .int .i64 0, .int .i64 0] 87)) (w.heap.size + 1) 87 #[.string s, .int .i64 0, .int .i64 0] := by
  have := Blk.new (w.alloc (.cells #[.int .i64 0, .bool false, .int .i64 0, .string ⟨#[]⟩, .slice none 0 0, .slice none 0 0] 26)) 87 #[.string s, .int .i64 0, .int .i64 0]
  simpa using this
 have hR0 : RAt ((w.alloc (.cells #[.int .i64 0, .bool false, .int .i64 0, .string ⟨#[]⟩, .slice none 0 0, .slice none 0 0] 26)).alloc (.cells #[.string s, .int .i64 0, .int .i64 0] 87)) (w.heap.size + 1) s 0 0 := ⟨hk2, Nat.zero_le _, hm⟩
 have cv := Lib.hid (hval (w.heap.size + 1) s 0 0 _ hR0 rfl)
 have HB2 := Lib.hid h2
 have HK1 := Lib.hid hk1
 clear h1 h2 hk1 hk2 hR0
 rw [List.drop_zero, hs] at cv
 go_enter Tryz.func35, Tryz.ntmps35
 go_wp2_with fail
 refine (cv.out).mono ?_
 rintro e w2 ⟨hg, hw⟩
 have hb2 := HB2.out.grown hg (by simp; omega) (fun q e => by injection e with e; omega)
 have hk2 := HK1.out.grown hg (by simp)
 cases hr : valW 8 (wordR l).1 (wordR l).2 with
 | error er =>
  rw [hr] at hw
  obtain ⟨k, b, n, st, NA, nn, nc, A, m, c, q, rfl, hR⟩ := hw
  have her := valW_err 8 _ _ er hr
  have hv : Hid (parseL l = (er, jvZ)) := (rparse_end l er jvZ []).1 hr
  have hal := (Below.refl w2.heap.size w2).alloc (Nat.le_refl _) (.cells #[.int .i64 k, .bool b, .int .i64 n, .string st, .slice NA nn nc, .slice A m c] 26)
  have HK2 := Lib.hid (hk2.below hal hk2.lt)
  have HB3 := Lib.hid (below_next hb2 hal)
  have HR2 := Lib.hid (hR.below hal)
  have cb := Lib.hid (rblanks_walk _ s q er _ HR2.out)
  clear hr cv hg hb2 hk2 hal HB2 HK1 hR
  go_wp2_with fail
  refine cb.out.mono ?_
  rintro _ W4 ⟨q3, rfl, hR4, -, hg4⟩
  have hb4 := HB3.out.grown hg4 HB3.out.size (fun q e => by injection e with e; omega)
  have HK4 := Lib.hid (HK2.out.grown hg4 (by simp))
  have HB4 := Lib.hid hb4
  have HR4 := Lib.hid hR4
  have hq3 := hR4.2.1
  obtain ⟨z0, z1, f1, z2, f2⟩ := hR4.facts
  have e1 : ((er : Int) == 0) = false := by simp; omega
  have e2 : ((er : Int) != 0) = true := by simp; omega
  have cf := fail_walk _ s q3 er 5 W4 hR4
  rw [if_neg (by omega)] at cf
  have CF := Lib.hid cf
  clear cf hR4 hg4 hb4 cb HR2 HB3 HK2
  by_cases hq : q3 < s.size
  ·
   have d1 : decide ((q3 : Int) < (s.size : Int)) = true := by simp; omega
   have d2 : decide (q3 < s.size) = true := by simp; omega
   go_wp2_with fail
   refine CF.out.mono ?_
   rintro _ W5 ⟨rfl, hR5, hg5⟩
   obtain ⟨y0, y1, f3, y2, f4⟩ := hR5.facts
   go_wp2_with fail
   have HK5 := Lib.hid (HK4.out.grown hg5 (by simp))
   have hS0 : W5.drew.cell? ⟨w.heap.size + 1, 2, none⟩ = some (.int .i64 (er : Int)) := y2
   refine wp_region_held_drew (S := fun W => W.cell? ⟨w.heap.size + 1, 2, none⟩ = some (.int .i64 (er : Int))) (by kernel_rfl) hS0 (fun hHeld => ?_)
   refine tkr 0 rfl ?_
   try simp only [nrm, Act.put]
   refine tkr 1 rfl ?_
   try simp only [nrm, Act.put]
   refine tkr 2 rfl ?_
   try simp only [nrm, Act.put]
   refine tkr 3 rfl ?_
   try simp only [nrm, Act.put]
   refine tkr 4 rfl ?_
   try simp only [nrm, Act.put]
   refine rd1 5 rfl fun K hK => ?_
   refine wp_store_blk 26 _ _ rfl w.heap.size _ #[.int .i64 0, .bool false, .int .i64 0, .string ⟨#[]⟩, .slice none 0 0, .slice none 0 0] 26 rfl rfl HK5.out.drew rfl jv_size (jv_ones _ _ _ _ _ _ _ _ _ _) ?_
   refine hK.out _ _ ?_ (fun hHeld2 => ?_)
   ·
    exact ((show RAt W5.drew _ s q3 er from hR5).grown (setRow_only _ _ _) (by simp)).facts.2.2.2.1
   clear hK K hHeld hS0
   have hHeld := hHeld2
   clear hHeld2
   try simp only [nrm, Act.put]
   refine tkr 6 rfl ?_
   try simp only [nrm, Act.put]
   refine wpAnyH_done (by kernel_rfl) ?_ _
   clear hHeld
   go_wp2_with fail
   refine bodyPost_ret (results_j_t Tryz.results35 _ _ w.heap.size _ _ _ _ _ _ rfl HK5.out.drew.setRow) rfl ?_
   refine ⟨cells6 0 false 0 [] none 0 0 none 0 0, ?_, ?_, below_setRow ((HB4.out.grown hg5 HB4.out.size (fun y e => by injection e with e; omega)).drew) (Nat.le_refl _) _⟩
   ·
    rw [hv.out]; rfl
   ·
    rw [hv.out]; exact jv_leaf _ _ _ _ _ _
  ·
   have d1 : decide ((q3 : Int) < (s.size : Int)) = false := by simp; omega
   have d2 : decide (q3 < s.size) = false := by simp; omega
   go_wp2_with fail
   have hS0 : W4.drew.cell? ⟨w.heap.size + 1, 2, none⟩ = some (.int .i64 (er : Int)) := z2
   refine wp_region_held_drew (S := fun W => W.cell? ⟨w.heap.size + 1, 2, none⟩ = some (.int .i64 (er : Int))) (by kernel_rfl) hS0 (fun hHeld => ?_)
   refine tkr 0 rfl ?_
   try simp only [nrm, Act.put]
   refine tkr 1 rfl ?_
   try simp only [nrm, Act.put]
   refine tkr 2 rfl ?_
   try simp only [nrm, Act.put]
   refine tkr 3 rfl ?_
   try simp only [nrm, Act.put]
   refine tkr 4 rfl ?_
   try simp only [nrm, Act.put]
   refine rd1 5 rfl fun K hK => ?_
   refine wp_store_blk 26 _ _ rfl w.heap.size _ #[.int .i64 0, .bool false, .int .i64 0, .string ⟨#[]⟩, .slice none 0 0, .slice none 0 0] 26 rfl rfl HK4.out.drew rfl jv_size (jv_ones _ _ _ _ _ _ _ _ _ _) ?_
   refine hK.out _ _ ?_ (fun hHeld2 => ?_)
   ·
    exact ((show RAt W4.drew _ s q3 er from HR4.out).grown (setRow_only _ _ _) (by simp)).facts.2.2.2.1
   clear hK K hHeld hS0
   have hHeld := hHeld2
   clear hHeld2
   try simp only [nrm, Act.put]
   refine tkr 6 rfl ?_
   try simp only [nrm, Act.put]
   refine wpAnyH_done (by kernel_rfl) ?_ _
   clear hHeld
   go_wp2_with fail
   refine bodyPost_ret (results_j_t Tryz.results35 _ _ w.heap.size _ _ _ _ _ _ rfl HK4.out.drew.setRow) rfl ?_
   refine ⟨cells6 0 false 0 [] none 0 0 none 0 0, ?_, ?_, below_setRow (HB4.out.drew) (Nat.le_refl _) _⟩
   ·
    rw [hv.out]; rfl
   ·
    rw [hv.out]; exact jv_leaf _ _ _ _ _ _
 | ok vr =>
  obtain ⟨v, r4⟩ := vr
  rw [hr] at hw
  obtain ⟨cs, q2, rfl, hvv, hR2, hd2⟩ := hw
  obtain ⟨k, b, n, st, NA, nn, nc, A, m, c, rfl⟩ := hvv.form
  have hsz0 : w.heap.size + 2 ≤ w2.heap.size := by have := hg.size; simp at this; omega
  have hal := (Below.refl w2.heap.size w2).alloc (Nat.le_refl _) (.cells #[.int .i64 k, .bool b, .int .i64 n, .string st, .slice NA nn nc, .slice A m c] 26)
  have HK2 := Lib.hid (hk2.below hal hk2.lt)
  have HN := Lib.hid (Blk.new w2 26 #[.int .i64 k, .bool b, .int .i64 n, .string st, .slice NA nn nc, .slice A m c])
  have HB3 := Lib.hid (below_next hb2 hal)
  have HR2 := Lib.hid (hR2.below hal)
  have HV2 := Lib.hid (hvv.below hal)
  have cb := Lib.hid (rblanks_walk _ s q2 0 _ HR2.out)
  have hv : Hid (parseL l = if skipB r4 = [] then (0, v) else (5, jvZ)) := (rparse_end l 0 v r4).2 hr
  have HD2 := Lib.hid hd2
  clear hr cv hg hb2 hk2 hal HB2 HK1 hR2 hvv hd2
  go_wp2_with fail
  refine cb.out.mono ?_
  rintro _ W4 ⟨q3, rfl, hR4, hd4, hg4⟩
  rw [HD2.out] at hd4
  have hb4 := HB3.out.grown hg4 HB3.out.size (fun q e => by injection e with e; omega)
  have HK4 := Lib.hid (HK2.out.grown hg4 (by simp))
  have HN4 := Lib.hid (HN.out.grown hg4 (by simp; omega))
  have HV4 := Lib.hid (HV2.out.grown hg4 (fun q e => by injection e with e; simp; omega))
  have HB4 := Lib.hid hb4
  have hq3 := hR4.2.1
  obtain ⟨z0, z1, f1, z2, f2⟩ := hR4.facts
  have cf := fail_walk _ s q3 0 5 W4 hR4
  rw [if_pos rfl] at cf
  have CF := Lib.hid cf
  clear cf hR4 hg4 hb4 cb HR2 HB3 HK2 HN HV2
  by_cases hq : q3 < s.size
  ·
   have hne : skipB r4 ≠ [] := by
    rw [← hd4]
    intro e
    have := List.drop_eq_nil_iff.1 e
    simp at this
    omega
   have hv2 : Hid (parseL l = (5, jvZ)) := by show _ = _; rw [hv.out, if_neg hne]
   have d1 : decide ((q3 : Int) < (s.size : Int)) = true := by simp; omega
   have d2 : decide (q3 < s.size) = true := by simp; omega
   clear hv hd4 HD2 hne
   go_wp2_with fail
   refine CF.out.mono ?_
   rintro _ W5 ⟨rfl, hR5, hg5⟩
   obtain ⟨y0, y1, f3, y2, f4⟩ := hR5.facts
   go_wp2_with fail
   have HK5 := Lib.hid (HK4.out.grown hg5 (by simp))
   have hS0 : W5.drew.cell? ⟨w.heap.size + 1, 2, none⟩ = some (.int .i64 5) := y2
   refine wp_region_held_drew (S := fun W => W.cell? ⟨w.heap.size + 1, 2, none⟩ = some (.int .i64 5)) (by kernel_rfl) hS0 (fun hHeld => ?_)
   refine tkr 0 rfl ?_
   try simp only [nrm, Act.put]
   refine tkr 1 rfl ?_
   try simp only [nrm, Act.put]
   refine tkr 2 rfl ?_
   try simp only [nrm, Act.put]
   refine tkr 3 rfl ?_
   try simp only [nrm, Act.put]
   refine tkr 4 rfl ?_
   try simp only [nrm, Act.put]
   refine rd1 5 rfl fun K hK => ?_
   refine wp_store_blk 26 _ _ rfl w.heap.size _ #[.int .i64 0, .bool false, .int .i64 0, .string ⟨#[]⟩, .slice none 0 0, .slice none 0 0] 26 rfl rfl HK5.out.drew rfl jv_size (jv_ones _ _ _ _ _ _ _ _ _ _) ?_
   refine hK.out _ _ ?_ (fun hHeld2 => ?_)
   ·
    exact ((show RAt W5.drew _ s q3 5 from hR5).grown (setRow_only _ _ _) (by simp)).facts.2.2.2.1
   clear hK K hHeld hS0
   have hHeld := hHeld2
   clear hHeld2
   try simp only [nrm, Act.put]
   refine tkr 6 rfl ?_
   try simp only [nrm, Act.put]
   refine wpAnyH_done (by kernel_rfl) ?_ _
   clear hHeld
   go_wp2_with fail
   refine bodyPost_ret (results_j_t Tryz.results35 _ _ w.heap.size _ _ _ _ _ _ rfl HK5.out.drew.setRow) rfl ?_
   refine ⟨cells6 0 false 0 [] none 0 0 none 0 0, ?_, ?_, below_setRow ((HB4.out.grown hg5 HB4.out.size (fun y e => by injection e with e; omega)).drew) (Nat.le_refl _) _⟩
   ·
    rw [hv2.out]; rfl
   ·
    rw [hv2.out]; exact jv_leaf _ _ _ _ _ _
  ·
   have hnil : skipB r4 = [] := by
    rw [← hd4]
    exact List.drop_eq_nil_of_le (by simp; omega)
   have hv2 : Hid (parseL l = (0, v)) := by show _ = _; rw [hv.out, if_pos hnil]
   have d1 : decide ((q3 : Int) < (s.size : Int)) = false := by simp; omega
   have d2 : decide (q3 < s.size) = false := by simp; omega
   obtain ⟨l0, l1, l2, l3, l4, l5⟩ := six_cells HN4.out
   clear hv hd4 HD2 hnil
   go_wp2_with (first | refine wpList_load_at rfl 26 _ rfl ⟨w2.heap.size, 0, none⟩ rfl [.int .i64 k, .bool b, .int .i64 n, .string st, .slice NA nn nc, .slice A m c] _ (blk_cells HN4.out) Tryz.underlying26 rfl jv_size ?_ | refine wpList_store_blk rfl 26 _ _ rfl w.heap.size _ #[.int .i64 k, .bool b, .int .i64 n, .string st, .slice NA nn nc, .slice A m c] 26 rfl rfl HK4.out rfl jv_size (jv_ones _ _ _ _ _ _ _ _ _ _) ?_)
   refine bodyPost_ret (results_j_t Tryz.results35 _ _ w.heap.size _ _ _ _ _ _ rfl HK4.out.setRow) rfl ?_
   have hsr := setRow_only W4 w.heap.size #[.int .i64 k, .bool b, .int .i64 n, .string st, .slice NA nn nc, .slice A m c]
   refine ⟨[.int .i64 k, .bool b, .int .i64 n, .string st, .slice NA nn nc, .slice A m c], ?_, ?_, below_setRow HB4.out (Nat.le_refl _) _⟩
   ·
    rw [hv2.out]; rfl
   ·
    rw [hv2.out]
    exact (HV4.out.grown hsr (fun q e => by injection e with e; simp; omega)).low (by simp; omega)
end Go.Proofs.YtieppmppdmcleaaGreatDoor

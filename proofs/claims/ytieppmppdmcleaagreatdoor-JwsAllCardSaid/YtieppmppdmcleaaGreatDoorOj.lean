/- countersignref12's reader: many, a list with levels left. Condition: a text of at most 1000000 bytes. Printed by wip/tools/genOj.py. -/
import Derived.Test.YtieppmppdmcleaaGreatDoorOi
set_option linter.unusedVariables false
set_option linter.unusedSimpArgs false
set_option maxRecDepth 20000
namespace Go.Proofs.YtieppmppdmcleaaGreatDoor
open Go.RowKit Go.Maps
set_option maxHeartbeats 16000000 in
theorem rmany5 (d : Nat) (hval : RValOk d) (g : Nat) (s : ByteArray) (p deep : Nat) (w : World) (hR : RAt w g s p 0) (hps : p < s.size) (hdd : deep + (d + 1) = 8) :
  Calls Tryz.prog 83 #[.pointer (some ⟨g, 0, none⟩), .int .i64 5, .int .i64 (deep : Int)] w (RValR g s (listR (valW d) (s.data.toList.drop (p + 1))) w) := by
 have hsm := hR.2.2
 have HM0 := Lib.hid (MSt.new 5 hR).mb
 have hps2 : p + 1 ≤ s.size := hps
 have g8 : decide ((8 : Int) ≤ (deep : Int)) = false := by simp; omega
 have g8' : decide (8 ≤ deep) = false := by simp; omega
 obtain ⟨dn, hdn⟩ : ∃ dn, deep + 1 = dn := ⟨_, rfl⟩
 have hdw : IntKind.i64.wrap ((deep : Int) + 1) = (dn : Int) := by rw [IntKind.wrap_i64]; omega
 have HDD : Hid (dn + d = 8) := by show _ = _; omega
 have HVAL := Lib.hid hval
 have hlen : ∀ k, (s.data.toList.drop k).length = s.size - k := fun k => by simp
 have HLEN := Lib.hid hlen
 clear hR hdn hval hlen hdd
 obtain ⟨c0, c1, f1, c2, f2⟩ := HM0.out.facts
 have hput := HM0.out.at_.put (p + 1) hps2
 have hp1 : Hid ((p : Int) + 1 = ((p + 1 : Nat) : Int)) := by show _ = _; omega
 rw [← hp1.out] at hput
 have HM2 := Lib.hid (HM0.out.call hput.1 hput.2)
 have cb := Lib.hid (rblanks_walk g s (p + 1) 0 _ HM2.out.at_)
 clear hput
 go_enter Tryz.func83, Tryz.ntmps83
 go_wp2_with fail
 refine cb.out.mono ?_
 rintro _ w2 ⟨q, rfl, hR2, hd2, hg2⟩
 have HM3 := Lib.hid (HM2.out.call hR2 hg2)
 have HD2 := Lib.hid hd2
 clear hR2 hg2 hd2 cb HM2 HM0 c0 c1 f1 c2 f2
 have ca := Lib.hid (at_walk g s q 0 93 _ HM3.out.at_)
 go_wp2_with fail
 refine ca.out.mono ?_
 rintro _ w3 ⟨rfl, n1, rfl⟩
 have HM4 := Lib.hid (HM3.out.dn n1)
 clear ca HM3
 obtain ⟨c0, c1, f1, c2, f2⟩ := HM4.out.facts
 cases hb : atB (s.data.toList.drop q) 93
 ·
  have HST : Hid (∀ W, MB g s q 0 w #[.int .i64 5, .bool false, .int .i64 0, .string ⟨#[]⟩, .slice none 0 0, .slice none 0 0] W → HeadM 5 (stepL d) g s w (listR (valW d) (s.data.toList.drop (p + 1))) W) := by
   intro W h
   have h1 := skipB_le (s.data.toList.drop (p + 1))
   rw [← HD2.out, HLEN.out, HLEN.out] at h1
   have hq := h.at_.2.1
   refine HeadM.good (f := (s.data.toList.drop (p + 1)).length + 1) ⟨h, Kids.nil _ _⟩ (fun _ => rfl) (Nat.zero_le _) (Nat.zero_le _) (by rw [HLEN.out]; omega) ?_
   rw [rd_listR_loop (by rw [← HD2.out]; exact hb), stepL, HD2.out, wordR_skip]
  clear hb
  go_wp2_with fail
  go_loopw [] (fun wr => HeadM 5 (stepL d) g s w (listR (valW d) (s.data.toList.drop (p + 1))) wr) (fun wr => measM g s wr)
  case atStart => exact HST.out _ HM4.out
  case round =>
   clear HST HM4 c0 c1 f1 c2 f2 HD2 q
   obtain ⟨qv, e, NA, nn, nc, A, m, c, HB, hc⟩ := hrel
   replace HB := Lib.hid HB
   rcases hc with ⟨rfl, names, acc, f, hk, hk5, hn, ha, hf, hRR⟩ | ⟨he, hRR⟩
   case inr =>
    have HRR := Lib.hid hRR
    have e1 : ((e : Int) == 0) = false := by simp; omega
    have e2 : ((e : Int) != 0) = true := by simp; omega
    clear hRR
    obtain ⟨c0, c1, f1, c2, f2⟩ := HB.out.facts
    obtain ⟨l0, l1, l2, l3, l4, l5⟩ := six_cells HB.out.b6
    go_wp2_with (first | refine wpList_load_at rfl 26 _ rfl ⟨w.heap.size + 1, 0, none⟩ rfl [.int .i64 5, .bool false, .int .i64 0, .string ⟨#[]⟩, .slice NA nn nc, .slice A m c] _ (blk_cells HB.out.b6) Tryz.underlying26 rfl jv_size ?_ | refine wpList_store_blk rfl 26 _ _ rfl w.heap.size _ #[.int .i64 5, .bool false, .int .i64 0, .string ⟨#[]⟩, .slice NA nn nc, .slice A m c] 26 rfl rfl HB.out.res rfl jv_size (jv_ones _ _ _ _ _ _ _ _ _ _) ?_)
    refine bodyPost_ret (results_cell_row Tryz.results83 _ _ w.heap.size _ _ _ _ rfl HB.out.res.setRow Tryz.underlying26 rfl (by kernel_rfl)) rfl ?_
    exact rval_bad HB.out HRR.out _ _ _ _ _ _ _
   obtain ⟨rfl, rfl⟩ := hk.lens
   obtain rfl := hk5 rfl
   have hqs := HB.out.at_.2.1
   have HL := Lib.hid (show LM g s qv 0 w _ _ _ _ _ wr from ⟨HB.out, hk⟩)
   have HME := Lib.hid HB.out.at_
   have HRR := Lib.hid hRR
   obtain ⟨f, rfl⟩ : ∃ f', f = f' + 1 := ⟨f - 1, by omega⟩
   obtain ⟨c0, c1, f1, c2, f2⟩ := HB.out.facts
   clear hk hk5 hRR HB
   obtain ⟨i0, hi, hz0, hz1, hz2⟩ := infoS4 info_jv
   simp only [List.length_nil] at HL
   cases hv : valW d (wordR (s.data.toList.drop qv)).1 (wordR (s.data.toList.drop qv)).2 with
   | error er =>
    have HV := Lib.hid hv
    have her : er ≠ 0 := fun h => by have := valW_err _ _ _ _ hv; omega
    clear hv
    go_wp2_with fail
    replace HL := Lib.hid HL.out.drew
    have hC : HoldF 9 (fun W => W.cell? ⟨w.heap.size + 1, 5, none⟩ = some (.slice A acc.length c)) (Array.replicate 10 false) wr.drew := fun _ => HL.out.mb.b6.cell 5
    refine region_fin (F := fun a a' W => ∃ (v84 v85 : Value) (A3 : Option Addr) (c3 q2 : Nat), a' = (((((((((a.put (some 79) (.pointer (some ⟨w.heap.size + 1, 5, none⟩))).put (some 80) (.slice A acc.length c)).put (some 81) (.pointer (some ⟨g, 0, none⟩))).put (some 82) (.int .i64 (deep : Int))).put (some 83) (.int .i64 (dn : Int))).put (some 84) v84).put (some 85) v85).put (some 86) (.slice A3 (acc.length + 1) c3)).put (some 87) (.pointer (some ⟨w.heap.size + 1, 5, none⟩))) ∧ Hid (MB g s q2 er w #[.int .i64 5, .bool false, .int .i64 0, .string ⟨#[]⟩, .slice NA 0 nc, .slice A3 (acc.length + 1) c3] W)) ?_ ?_
    ·
     refine wp_region_L (S := HoldF 9 (fun W => W.cell? ⟨w.heap.size + 1, 5, none⟩ = some (.slice A acc.length c))) (by kernel_rfl) ?_
     refine tkl 0 [9] rfl ?_
     try simp only [nrm, Act.put]
     refine tkl 2 [9] rfl ?_
     try simp only [nrm, Act.put]
     refine tkl 3 [9] rfl ?_
     try simp only [nrm, Act.put]
     refine tkl 4 [9] rfl ?_
     try simp only [nrm, Act.put]
     refine tkl 1 [9] rfl ?_
     try simp only [nrm, Act.put]
     generalize wr.drew = U0 at HL ⊢
     clear hC
     refine rdl 5 rfl fun K hK => ?_
     go_simp
     have hown : (∀ q, Value.ownBlock (.slice A acc.length c) = some q → q < U0.heap.size) ∧ (∀ q, Value.ownBlock (.slice NA 0 nc) = some q → q < U0.heap.size) ∧ w.heap.size + 2 ≤ U0.heap.size := by
      obtain ⟨_, h0, h1, _⟩ := HL.out.kids
      exact ⟨fun q e => (h1.lt q e).2, fun q e => (h0.lt q e).2, HL.out.mb.b6.lt⟩
     have HOWN := Lib.hid hown
     have cv := HVAL.out g s qv dn U0 HL.out.mb.at_ HDD.out
     rw [HV.out] at cv
     refine cv.mono ?_
     rintro _ U1 ⟨hg, kx, bx, nx, sx, NX, nnx, ncx, AX, mx, cx, q2, rfl, ht⟩
     have hL := HL.out.call ht hg
     go_simp
     refine hK.out _ _ (fun _ => hL.mb.b6.cell 5) (fun hHeld => ?_)
     clear HL
     have HL := Lib.hid hL
     clear hK K hL hHeld ht hg hown cv
     try simp only [nrm, Act.put]
     refine rdl 6 rfl fun K hK => ?_
     go_simp
     have hb6 := Blk.new U1 26 #[.int .i64 kx, .bool bx, .int .i64 nx, .string sx, .slice NX nnx ncx, .slice AX mx cx]
     have hL := HL.out.alloc (.cells #[.int .i64 kx, .bool bx, .int .i64 nx, .string sx, .slice NX nnx ncx, .slice AX mx cx] 26)
     clear HL
     generalize U1.alloc (.cells #[.int .i64 kx, .bool bx, .int .i64 nx, .string sx, .slice NX nnx ncx, .slice AX mx cx] 26) = U2 at hL hb6 ⊢
     generalize U1.heap.size = bx6 at hb6 ⊢
     refine hK.out _ _ (fun _ => hL.mb.b6.cell 5) (fun hHeld => ?_)
     have HB6 := Lib.hid hb6
     have HL := Lib.hid hL
     clear hK K hL hHeld hb6
     try simp only [nrm, Act.put]
     refine rdl 7 rfl fun K hK => ?_
     obtain ⟨vs0, ho0, ho1, hj0⟩ := HL.out.kids
     refine step_append_any U2 rfl (.tmp 80) (.tmp 85) 24 rfl (w.heap.size + 2) 26 i0 (.agg (cells6 0 false 0 [] none 0 0 none 0 0).toArray) 6 88 Tryz.underlying24 hi hz0 hz1 hz2 rfl (by decide) (.slice A acc.length c) acc.length _ rfl ho1 U2.heap.size (some ⟨bx6, 0, none⟩) 1 1 [.int .i64 kx, .bool bx, .int .i64 nx, .string sx, .slice NX nnx ncx, .slice AX mx cx] rfl (blk_reads HB6.out) (by simp [Value.oneCell']) (by unfold maxLen; omega) (by omega) (by have := HL.out.mb.b6.lt; omega) ?_
     intro av3 U3 ho hg hnn
     have hL := HL.out.junk ho1 hg
     obtain ⟨A3, c3, rfl, _, _⟩ := own_reads ho (Nat.le_refl _)
     refine hK.out _ _ (fun _ => hL.b6.cell 5) (fun hHeld => ?_)
     clear HL HB6 HOWN
     have HL := Lib.hid hL
     clear hK K hL hHeld ho0 ho1 hj0 ho hg hnn
     try simp only [nrm, Act.put]
     refine rdl 8 rfl fun K hK => ?_
     go_simp
     refine hK.out _ _ (fun _ => HL.out.b6.cell 5) (fun hHeld => ?_)
     clear hK K hHeld
     try simp only [nrm, Act.put]
     refine rdl 9 rfl fun K hK => ?_
     have c5 := HL.out.b6.cell 5
     have f5 := HL.out.b6.frozen 5
     simp only [List.getElem?_toArray, List.getElem?_cons_zero, List.getElem?_cons_succ] at c5
     go_simp
     have hL := HL.out.set_ 5 (.slice A3 (acc.length + 1) c3)
     clear HL c5 f5
     generalize U3.setCell ⟨w.heap.size + 1, 5, none⟩ (.slice A3 (acc.length + 1) c3) = U4 at hL ⊢
     refine hK.out _ _ (fun h => nomatch (show true = false from h)) (fun hHeld => ?_)
     have HL := Lib.hid hL
     clear hK K hHeld hL
     try simp only [nrm, Act.put]
     refine wpAnyL_done (by kernel_rfl) ?_ _
     exact ⟨rfl, _, _, A3, c3, q2, rfl, HL⟩
    ·
     rintro a' W8 ⟨v84, v85, A3, c3, q2, rfl, HL⟩
     try simp only [nrm, Act.put]
     have e1 : (((er : Nat) : Int) == 0) = false := by simp; omega
     have e2 : (((er : Nat) : Int) != 0) = true := by simp; omega
     have cb := Lib.hid (rblanks_walk g s q2 er _ HL.out.at_)
     obtain ⟨y0, y1, y2, y3, y4⟩ := HL.out.facts
     go_wp2_with fail
     refine cb.out.mono ?_
     rintro _ W9 ⟨q3, rfl, hR3, -, hg3⟩
     have HB9 := Lib.hid (HL.out.call hR3 hg3)
     clear hR3 hg3 cb y0 y1 y2 y3 y4
     obtain ⟨c0, c1, f1, c2, f2⟩ := HB9.out.facts
     go_wp2_with fail
     exact ⟨HeadM.bad HB9.out (by omega) (by rw [HRR.out, stepL]; exact rd_loopL_err HV.out), measM_lt HME.out HB9.out.at_ (fun h => by omega)⟩
   | ok vr =>
    obtain ⟨v, r1⟩ := vr
    have HV := Lib.hid hv
    have hvl := rd_val_lt hv
    rw [HLEN.out] at hvl
    clear hv
    go_wp2_with fail
    replace HL := Lib.hid HL.out.drew
    have hC : HoldF 9 (fun W => W.cell? ⟨w.heap.size + 1, 5, none⟩ = some (.slice A acc.length c)) (Array.replicate 10 false) wr.drew := fun _ => HL.out.mb.b6.cell 5
    refine region_fin (F := fun a a' W => ∃ (v84 v85 : Value) (A3 : Option Addr) (c3 q2 : Nat), a' = (((((((((a.put (some 79) (.pointer (some ⟨w.heap.size + 1, 5, none⟩))).put (some 80) (.slice A acc.length c)).put (some 81) (.pointer (some ⟨g, 0, none⟩))).put (some 82) (.int .i64 (deep : Int))).put (some 83) (.int .i64 (dn : Int))).put (some 84) v84).put (some 85) v85).put (some 86) (.slice A3 (acc.length + 1) c3)).put (some 87) (.pointer (some ⟨w.heap.size + 1, 5, none⟩))) ∧ Hid (LM g s q2 0 w #[.int .i64 5, .bool false, .int .i64 0, .string ⟨#[]⟩, .slice NA 0 nc, .slice A3 (acc.length + 1) c3] (.slice NA 0 nc) ([]) (.slice A3 (acc.length + 1) c3) (acc ++ [v]) W) ∧ Hid (s.data.toList.drop q2 = r1)) ?_ ?_
    ·
     refine wp_region_L (S := HoldF 9 (fun W => W.cell? ⟨w.heap.size + 1, 5, none⟩ = some (.slice A acc.length c))) (by kernel_rfl) ?_
     refine tkl 0 [9] rfl ?_
     try simp only [nrm, Act.put]
     refine tkl 2 [9] rfl ?_
     try simp only [nrm, Act.put]
     refine tkl 3 [9] rfl ?_
     try simp only [nrm, Act.put]
     refine tkl 4 [9] rfl ?_
     try simp only [nrm, Act.put]
     refine tkl 1 [9] rfl ?_
     try simp only [nrm, Act.put]
     generalize wr.drew = U0 at HL ⊢
     clear hC
     refine rdl 5 rfl fun K hK => ?_
     go_simp
     have hown : (∀ q, Value.ownBlock (.slice A acc.length c) = some q → q < U0.heap.size) ∧ (∀ q, Value.ownBlock (.slice NA 0 nc) = some q → q < U0.heap.size) ∧ w.heap.size + 2 ≤ U0.heap.size := by
      obtain ⟨_, h0, h1, _⟩ := HL.out.kids
      exact ⟨fun q e => (h1.lt q e).2, fun q e => (h0.lt q e).2, HL.out.mb.b6.lt⟩
     have HOWN := Lib.hid hown
     have cv := HVAL.out g s qv dn U0 HL.out.mb.at_ HDD.out
     rw [HV.out] at cv
     refine cv.mono ?_
     rintro _ U1 ⟨hg, cs, q2, rfl, hv, ht, hdq⟩
     obtain ⟨kx, bx, nx, sx, NX, nnx, ncx, AX, mx, cx, rfl⟩ := hv.form
     have hL := HL.out.call ht hg
     have HJ := Lib.hid hv
     have HDQ := Lib.hid hdq
     go_simp
     refine hK.out _ _ (fun _ => hL.mb.b6.cell 5) (fun hHeld => ?_)
     clear HL
     have HL := Lib.hid hL
     clear hK K hL hHeld hv ht hg hown hdq cv
     try simp only [nrm, Act.put]
     refine rdl 6 rfl fun K hK => ?_
     go_simp
     have hb6 := Blk.new U1 26 #[.int .i64 kx, .bool bx, .int .i64 nx, .string sx, .slice NX nnx ncx, .slice AX mx cx]
     have hL := HL.out.alloc (.cells #[.int .i64 kx, .bool bx, .int .i64 nx, .string sx, .slice NX nnx ncx, .slice AX mx cx] 26)
     have hv := HJ.out.below ((Below.refl U1.heap.size U1).alloc (Nat.le_refl _) (.cells #[.int .i64 kx, .bool bx, .int .i64 nx, .string sx, .slice NX nnx ncx, .slice AX mx cx] 26))
     clear HL HJ
     generalize U1.alloc (.cells #[.int .i64 kx, .bool bx, .int .i64 nx, .string sx, .slice NX nnx ncx, .slice AX mx cx] 26) = U2 at hL hb6 hv ⊢
     generalize U1.heap.size = bx6 at hb6 ⊢
     refine hK.out _ _ (fun _ => hL.mb.b6.cell 5) (fun hHeld => ?_)
     have HB6 := Lib.hid hb6
     have HL := Lib.hid hL
     have HJ := Lib.hid hv
     clear hK K hL hHeld hb6 hv
     try simp only [nrm, Act.put]
     refine rdl 7 rfl fun K hK => ?_
     obtain ⟨vs0, ho0, ho1, hj0⟩ := HL.out.kids
     refine step_append_any U2 rfl (.tmp 80) (.tmp 85) 24 rfl (w.heap.size + 2) 26 i0 (.agg (cells6 0 false 0 [] none 0 0 none 0 0).toArray) 6 88 Tryz.underlying24 hi hz0 hz1 hz2 rfl (by decide) (.slice A acc.length c) acc.length _ rfl ho1 U2.heap.size (some ⟨bx6, 0, none⟩) 1 1 [.int .i64 kx, .bool bx, .int .i64 nx, .string sx, .slice NX nnx ncx, .slice AX mx cx] rfl (blk_reads HB6.out) (by simp [Value.oneCell']) (by unfold maxLen; omega) (by omega) (by have := HL.out.mb.b6.lt; omega) ?_
     intro av3 U3 ho hg hnn
     have hL := HL.out.kid ho0 ho1 hj0 HJ.out HOWN.out.2.2 HOWN.out.1 HOWN.out.2.1 ho hg hnn
     obtain ⟨A3, c3, rfl, _, _⟩ := own_reads ho (Nat.le_refl _)
     refine hK.out _ _ (fun _ => hL.mb.b6.cell 5) (fun hHeld => ?_)
     clear HL HB6 HOWN HJ
     have HL := Lib.hid hL
     clear hK K hL hHeld ho0 ho1 hj0 ho hg hnn
     try simp only [nrm, Act.put]
     refine rdl 8 rfl fun K hK => ?_
     go_simp
     refine hK.out _ _ (fun _ => HL.out.mb.b6.cell 5) (fun hHeld => ?_)
     clear hK K hHeld
     try simp only [nrm, Act.put]
     refine rdl 9 rfl fun K hK => ?_
     have c5 := HL.out.mb.b6.cell 5
     have f5 := HL.out.mb.b6.frozen 5
     simp only [List.getElem?_toArray, List.getElem?_cons_zero, List.getElem?_cons_succ] at c5
     go_simp
     have hL := HL.out.set_ 5 (.slice A3 (acc.length + 1) c3)
     clear HL c5 f5
     generalize U3.setCell ⟨w.heap.size + 1, 5, none⟩ (.slice A3 (acc.length + 1) c3) = U4 at hL ⊢
     refine hK.out _ _ (fun h => nomatch (show true = false from h)) (fun hHeld => ?_)
     have HL := Lib.hid hL
     clear hK K hHeld hL
     try simp only [nrm, Act.put]
     refine wpAnyL_done (by kernel_rfl) ?_ _
     exact ⟨rfl, _, _, A3, c3, q2, rfl, HL, HDQ⟩
    ·
     rintro a' W8 ⟨v84, v85, A3, c3, q2, rfl, HL, HDQ⟩
     try simp only [nrm, Act.put]
     have cb := Lib.hid (rblanks_walk g s q2 0 _ HL.out.mb.at_)
     obtain ⟨y0, y1, y2, y3, y4⟩ := HL.out.mb.facts
     go_wp2_with fail
     refine cb.out.mono ?_
     rintro _ W9 ⟨q3, rfl, hR3, hd3, hg3⟩
     have HL3 := Lib.hid (HL.out.call hR3 hg3)
     rw [HDQ.out] at hd3
     have HD3 := Lib.hid hd3
     clear hR3 hg3 hd3 cb HL y0 y1 y2 y3 y4
     obtain ⟨c0, c1, f1, c2, f2⟩ := HL3.out.mb.facts
     have ca := Lib.hid (at_walk g s q3 0 93 _ HL3.out.mb.at_)
     go_wp2_with fail
     refine ca.out.mono ?_
     rintro _ _ ⟨rfl, n1, rfl⟩
     have HL4 := Lib.hid (HL3.out.dn n1)
     clear ca HL3 c0 c1 f1 c2 f2
     obtain ⟨c0, c1, f1, c2, f2⟩ := HL4.out.mb.facts
     cases hb : atB (s.data.toList.drop q3) 93
     ·
      have cw := Lib.hid (want_walk g s q3 44 _ HL4.out.mb.at_)
      have HBF : Hid (atB (skipB r1) 93 = false) := by show _ = _; rw [← HD3.out]; exact hb
      clear hb
      go_wp2_with fail
      refine cw.out.mono ?_
      rintro _ W10 ⟨q4, rfl, hg4, hR4, hd4⟩
      have hsk : skipB (s.data.toList.drop q3) = skipB r1 := by rw [HD3.out, skip_skip]
      rw [hsk] at hR4 hd4
      cases hb2 : atB (skipB r1) 44
      ·
       rw [hb2] at hR4
       go_wp2_with fail
       exact ⟨HeadM.bad (HL4.out.call hR4 hg4).mb (by decide) (by rw [HRR.out, stepL]; exact rd_loopL_bad HV.out HBF.out hb2), measM_lt HME.out hR4 (fun h => by simp at h)⟩
      ·
       rw [hb2] at hR4
       obtain ⟨r2, hr2⟩ := atB_true hb2
       have hd5 := hd4 hb2
       rw [hr2] at hd5
       have hlen := HLEN.out q4
       rw [hd5] at hlen
       have hlr := skipB_le r1
       rw [hr2] at hlr
       simp only [List.length_cons, List.tail_cons] at hlr hlen
       have hq4 := hR4.2.1
       go_wp2_with fail
       refine ⟨HeadM.good (f := f) (HL4.out.call hR4 hg4) (by intro _; rfl) (by simp) (by simp; omega) (by omega) (by rw [HRR.out, stepL, stepL, hd5]; exact rd_loopL_next HV.out hr2), measM_lt HME.out hR4 (fun _ => by omega)⟩
     ·
      obtain ⟨r2, hr2⟩ := atB_true hb
      have hds := drop_succ hr2
      have hq3s : q3 < s.size := hds.1
      have hput := HL4.out.mb.at_.put (q3 + 1) hds.1
      have hp1 : Hid ((q3 : Int) + 1 = ((q3 + 1 : Nat) : Int)) := by show _ = _; omega
      rw [← hp1.out] at hput
      have HL5 := Lib.hid (HL4.out.call hput.1 hput.2)
      have HR2 : Hid (skipB r1 = 93 :: r2) := by show _ = _; rw [← HD3.out, hr2]
      have HDE := Lib.hid hds.2
      clear hput hr2 hds hb
      obtain ⟨l0, l1, l2, l3, l4, l5⟩ := six_cells HL5.out.mb.b6
      go_wp2_with (first | refine wpList_load_at rfl 26 _ rfl ⟨w.heap.size + 1, 0, none⟩ rfl [.int .i64 5, .bool false, .int .i64 0, .string ⟨#[]⟩, .slice NA 0 nc, .slice A3 (acc.length + 1) c3] _ (blk_cells HL5.out.mb.b6) Tryz.underlying26 rfl jv_size ?_ | refine wpList_store_blk rfl 26 _ _ rfl w.heap.size _ #[.int .i64 5, .bool false, .int .i64 0, .string ⟨#[]⟩, .slice NA 0 nc, .slice A3 (acc.length + 1) c3] 26 rfl rfl HL5.out.mb.res rfl jv_size (jv_ones _ _ _ _ _ _ _ _ _ _) ?_)
      refine bodyPost_ret (results_cell_row Tryz.results83 _ _ w.heap.size _ _ _ _ rfl HL5.out.mb.res.setRow Tryz.underlying26 rfl (by kernel_rfl)) rfl ?_
      exact rval_good HL5.out (by rw [HRR.out, stepL]; exact rd_loopL_end HV.out HR2.out) HDE.out _
 ·
  obtain ⟨r, hr⟩ := atB_true hb
  have hds := drop_succ hr
  have hqs3 : q < s.size := hds.1
  have hput := HM4.out.at_.put (q + 1) hds.1
  have hp2 : Hid ((q : Int) + 1 = ((q + 1 : Nat) : Int)) := by show _ = _; omega
  rw [← hp2.out] at hput
  have HM5 := Lib.hid (show LM g s (q + 1) 0 w _ _ _ _ _ _ from ⟨HM4.out.call hput.1 hput.2, Kids.nil _ _⟩)
  have HR2 : Hid (skipB (s.data.toList.drop (p + 1)) = 93 :: r) := by show _ = _; rw [← HD2.out, hr]
  have HDE := Lib.hid hds.2
  clear hput hr hds hb HM4
  obtain ⟨l0, l1, l2, l3, l4, l5⟩ := six_cells HM5.out.mb.b6
  go_wp2_with (first | refine wpList_load_at rfl 26 _ rfl ⟨w.heap.size + 1, 0, none⟩ rfl [.int .i64 5, .bool false, .int .i64 0, .string ⟨#[]⟩, .slice none 0 0, .slice none 0 0] _ (blk_cells HM5.out.mb.b6) Tryz.underlying26 rfl jv_size ?_ | refine wpList_store_blk rfl 26 _ _ rfl w.heap.size _ #[.int .i64 5, .bool false, .int .i64 0, .string ⟨#[]⟩, .slice none 0 0, .slice none 0 0] 26 rfl rfl HM5.out.mb.res rfl jv_size (jv_ones _ _ _ _ _ _ _ _ _ _) ?_)
  refine bodyPost_ret (results_cell_row Tryz.results83 _ _ w.heap.size _ _ _ _ rfl HM5.out.mb.res.setRow Tryz.underlying26 rfl (by kernel_rfl)) rfl ?_
  exact rval_good HM5.out (rd_listR_end HR2.out) HDE.out _
end Go.Proofs.YtieppmppdmcleaaGreatDoor

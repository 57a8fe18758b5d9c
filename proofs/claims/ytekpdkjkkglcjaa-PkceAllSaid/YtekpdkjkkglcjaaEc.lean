import Derived.Test.YtekpdkjkkglcjaaEb
import Derived.Test.YtekpdkjkkglcjaaDh
set_option linter.unusedVariables false
set_option linter.unusedSimpArgs false
set_option maxRecDepth 20000
namespace Go.Proofs.Ytekpdkjkkglcjaa
open Go.RowKit
theorem blk_reads {w : World} {g : Nat} {t : TypeId} {us : List Value} {n m : Nat} (h : Blk w g t us.toArray) (hl : us.length = m * n) : Reads w w.heap.size n (some ⟨g, 0, none⟩) m us := by
  refine ⟨hl, fun _ => ⟨_, rfl, h.lt, fun j u hu => ?_⟩⟩
  rw [add_zero_at, h.cell j]
  simpa using hu
theorem one_kid {w : World} {g lo lo' : Nat} {kind : Int} {t : Tm} {c0 c1 c2 c3 : Value} (h : Blk w g 35 #[c0, c1, c2, c3]) (ht : TmV w lo t [c0, c1, c2, c3]) (h1 : lo' ≤ g) (h2 : lo' ≤ lo) :
    TmV w lo' (.mk kind 0 ⟨#[]⟩ [t]) [.int .i64 kind, .int .i64 0, .string ⟨#[]⟩, .slice (some ⟨g, 0, none⟩) 1 1] :=
  kids_node (ks := [t]) (vs := [[c0, c1, c2, c3]]) (lo := lo') (Nat.le_refl _) (by decide) (blk_reads (us := [c0, c1, c2, c3]) h rfl) (fun _ ad e => by injection e with e; rw [← e]; exact h1)
    (by rw [TmsV]; exact ⟨_, [], rfl, ht.low h2, by rw [TmsV]⟩) (Nat.le_refl _)
theorem two_kids {w : World} {g lo lo1 lo2 : Nat} {kind : Int} {t u : Tm} {c0 c1 c2 c3 d0 d1 d2 d3 : Value} (h : Blk w g 35 #[c0, c1, c2, c3, d0, d1, d2, d3]) (ht : TmV w lo1 t [c0, c1, c2, c3]) (hu : TmV w lo2 u [d0, d1, d2, d3]) (h0 : lo ≤ g) (h1 : lo ≤ lo1) (h2 : lo ≤ lo2) :
    TmV w lo (.mk kind 0 ⟨#[]⟩ [t, u]) [.int .i64 kind, .int .i64 0, .string ⟨#[]⟩, .slice (some ⟨g, 0, none⟩) 2 2] :=
  kids_node (ks := [t, u]) (vs := [[c0, c1, c2, c3], [d0, d1, d2, d3]]) (lo := lo) (Nat.le_refl _) (by decide) (blk_reads (us := [c0, c1, c2, c3, d0, d1, d2, d3]) h rfl) (fun _ ad e => by injection e with e; rw [← e]; exact h0)
    (by rw [TmsV]; exact ⟨_, _, rfl, ht.low h1, by rw [TmsV]; exact ⟨_, [], rfl, hu.low h2, by rw [TmsV]⟩⟩) (Nat.le_refl _)
set_option maxHeartbeats 8000000 in
theorem tape_succ (d : Nat) (hd : d ≤ 100) (hT : TapeOk d) : TapeOk (d + 1) := by
  intro zs g k w ht
  have hst := TSt.start ht
  have cn := Lib.hid (next_walk zs g k 10 _ hst.1 (by omega))
  have hr := nextR_pos zs k 10 (by omega)
  have hv : Hid (tapeT (d + 1) zs k = if nextR zs k 10 < 5 then leafT (nextR zs k 10) zs (nextA zs k 10) else if nextR zs k 10 < 7 then (.mk (3 + (nextR zs k 10 - 5)) 0 ⟨#[]⟩ [(tapeT d zs (nextA zs k 10)).1], (tapeT d zs (nextA zs k 10)).2) else (.mk (5 + (nextR zs k 10 - 7)) 0 ⟨#[]⟩ [(tapeT d zs (nextA zs k 10)).1, (tapeT d zs (tapeT d zs (nextA zs k 10)).2).1], (tapeT d zs (tapeT d zs (nextA zs k 10)).2).2)) := by show _ = _; rw [tapeT]
  generalize nextR zs k 10 = q at cn hr hv
  generalize nextA zs k 10 = k1 at cn hv
  have hq0 : 0 ≤ q := hr.1
  have HST := Lib.hid hst
  have hd0 : (0 : Int) ≤ d := by omega
  rw [show ((d + 1 : Nat) : Int) = (d : Int) + 1 by omega]
  clear hst ht
  by_cases h2 : q < 2
  · have hv2 : Hid (tapeT (d + 1) zs k = (.mk 1 0 (atoms9.getD (nextR zs k1 9).toNat ⟨#[]⟩) [], nextA zs k1 9)) := by show _ = _; rw [hv.out, if_pos (by omega), leafT, if_pos h2]
    clear hv
    go_enter Try.func23, Try.ntmps23
    go_wp2_with fail
    refine cn.out.mono ?_
    rintro _ w1 ⟨rfl, ht1, hg1, hs1⟩
    have hst1 := HST.out.tape ht1 hg1
    have cp := Lib.hid (pick_walk zs g k1 (some ⟨w1.heap.size, 0, none⟩) 9 (w1.heap.size + 1) atoms9 (by decide) (by decide) (by decide) _ (hst1.alloc _).1 (reads_atoms w1 9) (by simp) (fun p e => by injection e with e; rw [← e]; have := hst1.1.lt; simp; omega))
    have HST1 := Lib.hid (hst1.alloc (.cells #[.string ⟨#[]⟩, .string ⟨#[97]⟩, .string ⟨#[98]⟩, .string ⟨#[97, 98]⟩, .string ⟨#[0]⟩, .string ⟨#[126]⟩, .string ⟨#[97, 108, 105, 99, 101]⟩, .string ⟨#[99, 49]⟩, .string ⟨#[126, 65, 103, 65, 65, 65, 65, 69, 126]⟩] 9))
    clear hg1 ht1 hs1 hst1 cn HST
    go_wp2_with fail
    refine cp.out.mono ?_
    rintro _ w2 ⟨rfl, ht2, hg2, hs2⟩
    have hst2 := HST1.out.tape ht2 hg2
    clear ht2 hg2 hs2 HST1 cp
    go_wp2_with fail
    refine (a_walk _ _).mono ?_
    rintro _ w3 ⟨rfl, hb3⟩
    have hst3 := hst2.below hb3
    have hbx := hst3.2.2.1
    have HF := Lib.hid (hst3.store)
    clear hst2 hb3 hst3
    go_wp2_with (refine wpList_store_blk rfl 35 _ _ rfl w.heap.size _ #[.int .i64 1, .int .i64 0, .string _, .slice none 0 0] _ rfl rfl hbx rfl term_size (ones4 _ _ _ _ _ _) ?_)
    refine bodyPost_ret (results_cell_row Try.results23 _ _ w.heap.size _ _ _ _ rfl (HF.out _).2.2 Try.underlying35 rfl (by kernel_rfl)) rfl ?_
    rw [hv2.out]
    exact ⟨_, _, _, _, _, _, rfl, tm_leaf _ _ _ _ _, (HF.out _).1, (HF.out _).2.1⟩
  · by_cases h5 : q < 5
    · have hv2 : Hid (tapeT (d + 1) zs k = (.mk 2 (nums8.getD (nextR zs k1 8).toNat 0) ⟨#[]⟩ [], nextA zs k1 8)) := by show _ = _; rw [hv.out, if_pos h5, leafT, if_neg h2]
      have hn8 := nextR_pos zs k1 8 (by omega)
      clear hv
      go_enter Try.func23, Try.ntmps23
      go_wp2_with fail
      refine cn.out.mono ?_
      rintro _ w1 ⟨rfl, ht1, hg1, hs1⟩
      have hst1 := (HST.out.tape ht1 hg1).alloc (.cells #[.int .i64 1, .int .i64 2, .int .i64 3, .int .i64 4, .int .i64 5, .int .i64 0, .int .i64 300, .int .i64 1073741824] 3)
      have hb1 := Blk.new w1 3 #[.int .i64 1, .int .i64 2, .int .i64 3, .int .i64 4, .int .i64 5, .int .i64 0, .int .i64 300, .int .i64 1073741824]
      have cm := Lib.hid (next_walk zs g k1 8 _ hst1.1 (by omega))
      have HL := hst1.2.2.2
      have HSZ := (HST.out.tape ht1 hg1).size
      have HST1 := Lib.hid hst1
      clear hg1 ht1 hs1 hst1 cn HST
      go_wp2_with fail
      refine cm.out.mono ?_
      rintro _ w2 ⟨rfl, ht2, hg2, hs2⟩
      have hst2 := HST1.out.tape ht2 hg2
      have hb2 := hb1.grown hg2 (fun e => by injection e with e; omega)
      obtain ⟨j, hj⟩ : ∃ j : Nat, nextR zs k1 8 = j := ⟨_, (Int.toNat_of_nonneg hn8.1).symm⟩
      rw [hj] at hn8 hv2 ⊢
      rw [Int.toNat_natCast] at hv2
      have hj8 : j < 8 := by omega
      obtain ⟨v, hvj⟩ := tape_in j hj8
      have hvd : Hid (nums8.getD j 0 = v) := by show _ = _; rw [List.getD_eq_getElem?_getD, hvj]; rfl
      have hcell : w2.cell? ⟨w1.heap.size, j, none⟩ = some (.int .i64 v) := by
        rw [hb2.cell, show (#[.int .i64 1, .int .i64 2, .int .i64 3, .int .i64 4, .int .i64 5, .int .i64 0, .int .i64 300, .int .i64 1073741824] : Array Value) = (nums8.map (Value.int .i64)).toArray from rfl]
        simp [hvj]
      clear ht2 hg2 hs2 HST1 cm hb1 hb2 hvj hj
      go_wp2_with fail
      refine (n_walk _ _).mono ?_
      rintro _ w3 ⟨rfl, hb3⟩
      have hst3 := hst2.below hb3
      have hbx := hst3.2.2.1
      have HF := Lib.hid (hst3.store)
      clear hst2 hb3 hst3
      go_wp2_with (refine wpList_store_blk rfl 35 _ _ rfl w.heap.size _ #[.int .i64 2, .int .i64 _, .string ⟨#[]⟩, .slice none 0 0] _ rfl rfl hbx rfl term_size (ones4 _ _ _ _ _ _) ?_)
      refine bodyPost_ret (results_cell_row Try.results23 _ _ w.heap.size _ _ _ _ rfl (HF.out _).2.2 Try.underlying35 rfl (by kernel_rfl)) rfl ?_
      rw [hv2.out]
      exact ⟨_, _, _, _, _, _, rfl, by rw [hvd.out]; exact tm_leaf _ _ _ _ _, (HF.out _).1, (HF.out _).2.1⟩
    · by_cases h7 : q < 7
      · have hv2 : Hid (tapeT (d + 1) zs k = (.mk (3 + q - 5) 0 ⟨#[]⟩ [(tapeT d zs k1).1], (tapeT d zs k1).2)) := by show _ = _; rw [hv.out, if_neg h5, if_pos h7, show 3 + q - 5 = 3 + (q - 5) by omega]
        clear hv
        go_enter Try.func23, Try.ntmps23
        go_wp2_with fail
        refine cn.out.mono ?_
        rintro _ w1 ⟨rfl, ht1, hg1, hs1⟩
        have hst1 := HST.out.tape ht1 hg1
        have ct := Lib.hid (hT zs g k1 w1 hst1.1)
        have HST1 := Lib.hid hst1
        clear hg1 ht1 hs1 hst1 cn HST
        go_wp2_with fail
        refine ct.out.mono ?_
        rintro _ w2 ⟨kd, nm, s, A, m, c, rfl, htv, ht2, hg2⟩
        have hst2 := HST1.out.tape ht2 hg2
        have hsz1 := HST1.out.size
        have hgl := hg2.size
        have htv3 := htv.below ((Below.refl _ _).alloc (Nat.le_refl _) (.cells #[.int .i64 kd, .int .i64 nm, .string s, .slice A m c] 35))
        have hst3 := hst2.alloc (.cells #[.int .i64 kd, .int .i64 nm, .string s, .slice A m c] 35)
        have hbk := Blk.new w2 35 #[.int .i64 kd, .int .i64 nm, .string s, .slice A m c]
        have HTV := Lib.hid htv3
        have HST3 := Lib.hid hst3
        have HBK := Lib.hid hbk
        clear ht2 hg2 HST1 ct hst2 htv htv3 hst3 hbk
        go_wp2_with fail
        refine (t_walk _ _ _ _ _).mono ?_
        rintro _ w4 ⟨rfl, hb4⟩
        have hst4 := HST3.out.below hb4
        have hbx := hst4.2.2.1
        have HF := Lib.hid (hst4.store)
        have HBK4 := Lib.hid (HBK.out.below hb4 HBK.out.lt)
        have HTV4 := Lib.hid (HTV.out.below hb4)
        clear hb4 hst4 HST3 HBK HTV
        go_wp2_with (refine wpList_store_blk rfl 35 _ _ rfl w.heap.size _ #[.int .i64 _, .int .i64 0, .string ⟨#[]⟩, .slice _ _ _] _ rfl rfl hbx rfl term_size (ones4 _ _ _ _ _ _) ?_)
        refine bodyPost_ret (results_cell_row Try.results23 _ _ w.heap.size _ _ _ _ rfl (HF.out _).2.2 Try.underlying35 rfl (by kernel_rfl)) rfl ?_
        rw [hv2.out]
        refine ⟨_, _, _, _, _, _, rfl, one_kid (HBK4.out.setOther (by omega) _) (HTV4.out.grown (setRow_only _ w.heap.size _) (fun q e => by injection e with e; omega)) (by omega) (by omega), (HF.out _).1, (HF.out _).2.1⟩
      · have hv2 : Hid (tapeT (d + 1) zs k = (.mk (5 + q - 7) 0 ⟨#[]⟩ [(tapeT d zs k1).1, (tapeT d zs (tapeT d zs k1).2).1], (tapeT d zs (tapeT d zs k1).2).2)) := by show _ = _; rw [hv.out, if_neg h5, if_neg h7, show 5 + q - 7 = 5 + (q - 7) by omega]
        clear hv
        obtain ⟨t1, et1⟩ : ∃ t, tapeT d zs k1 = t := ⟨_, rfl⟩
        rw [et1] at hv2
        obtain ⟨t1, k2⟩ := t1
        obtain ⟨t2, et2⟩ : ∃ t, tapeT d zs k2 = t := ⟨_, rfl⟩
        simp only at hv2
        rw [et2] at hv2
        obtain ⟨t2, k3⟩ := t2
        simp only at hv2
        go_enter Try.func23, Try.ntmps23
        go_wp2_with fail
        refine cn.out.mono ?_
        rintro _ w1 ⟨rfl, ht1, hg1, hs1⟩
        have hst1 := HST.out.tape ht1 hg1
        have ct := hT zs g k1 w1 hst1.1
        rw [et1] at ct
        have CT := Lib.hid ct
        have HST1 := Lib.hid hst1
        have ET2 := Lib.hid et2
        clear hg1 ht1 hs1 hst1 cn HST ct et1 et2
        go_wp2_with fail
        refine CT.out.mono ?_
        rintro _ w2 ⟨kd, nm, s, A, m, c, rfl, htv, ht2, hg2⟩
        have hst2 := HST1.out.tape ht2 hg2
        have hsz1 := HST1.out.size
        have hgl := hg2.size
        have hst3 := hst2.alloc (.cells #[.int .i64 kd, .int .i64 nm, .string s, .slice A m c] 35)
        have hbk := Blk.new w2 35 #[.int .i64 kd, .int .i64 nm, .string s, .slice A m c]
        have htv3 := htv.below ((Below.refl _ _).alloc (Nat.le_refl _) (.cells #[.int .i64 kd, .int .i64 nm, .string s, .slice A m c] 35))
        have hgw : g < w2.heap.size := hst2.1.lt
        clear ht2 hg2 HST1 CT hst2 htv
        go_wp2_with (refine wpList_store_fresh w2 rfl 35 _ _ rfl _ #[.int .i64 kd, .int .i64 nm, .string s, .slice A m c] _ rfl rfl rfl term_size (ones4 _ _ _ _ _ _) ?_)
        have hsz3 : (w2.alloc (.cells #[.int .i64 kd, .int .i64 nm, .string s, .slice A m c] 35)).heap.size = w2.heap.size + 1 := by simp
        generalize (w2.alloc (.cells #[.int .i64 kd, .int .i64 nm, .string s, .slice A m c] 35)) = w3 at hst3 hbk htv3 hsz3 ⊢
        have ct2 := hT zs g k2 w3.drew hst3.1
        rw [ET2.out] at ct2
        have CT2 := Lib.hid ct2
        have HST3 : Hid (TSt w g zs k2 w3.drew) := hst3.drewN 1
        have HTV3 : Hid (TmV w3.drew _ _ _) := htv3.below (below_drewN (Below.refl _ _) 1)
        clear hst3 htv3 ct2 ET2
        have hwd : IntKind.i64.wrap (d : Int) = (d : Int) := by rw [IntKind.wrap_i64]; omega
        have hwq : IntKind.i64.wrap (5 + q) = 5 + q := by rw [IntKind.wrap_i64]; omega
        have hwr : IntKind.i64.wrap (5 + q - 7) = 5 + q - 7 := by rw [IntKind.wrap_i64]; omega
        refine wp_region_held_drew (S := fun X => Blk X w2.heap.size 35 #[.int .i64 kd, .int .i64 nm, .string s, .slice A m c]) (by kernel_rfl) hbk.drew (fun hHeld => ?_)
        first | (refine wpAnyH_take (i := 0) (v := _) rfl (by kernel_rfl) (by kernel_rfl) (by kernel_rfl) (fun _ _ _ h => h) (Or.inr ⟨?_, rfl⟩) (by assumption) ?_; rfl) | (refine wpAnyH_take (i := 0) (v := ?_) rfl (by kernel_rfl) (by kernel_rfl) (by kernel_rfl) (fun _ _ _ h => h) (Or.inl ⟨?_, ?_⟩) (by assumption) ?_; rotate_left; rfl; focus (intro w hSw; (try dsimp only at hSw); go_simp; all_goals (with_reducible rfl)))
        (try simp only [List.getElem_toArray, List.getElem_cons_zero, List.getElem_cons_succ, Act.put, List.setIfInBounds_toArray, List.set_cons_zero, List.set_cons_succ])
        first | (refine wpAnyH_take (i := 1) (v := _) rfl (by kernel_rfl) (by kernel_rfl) (by kernel_rfl) (fun _ _ _ h => h) (Or.inr ⟨?_, rfl⟩) (by assumption) ?_; rfl) | (refine wpAnyH_take (i := 1) (v := ?_) rfl (by kernel_rfl) (by kernel_rfl) (by kernel_rfl) (fun _ _ _ h => h) (Or.inl ⟨?_, ?_⟩) (by assumption) ?_; rotate_left; rfl; focus (intro w hSw; (try dsimp only at hSw); go_simp; all_goals (with_reducible rfl)))
        (try simp only [List.getElem_toArray, List.getElem_cons_zero, List.getElem_cons_succ, Act.put, List.setIfInBounds_toArray, List.set_cons_zero, List.set_cons_succ])
        first | (refine wpAnyH_take (i := 2) (v := _) rfl (by kernel_rfl) (by kernel_rfl) (by kernel_rfl) (fun _ _ _ h => h) (Or.inr ⟨?_, rfl⟩) (by assumption) ?_; rfl) | (refine wpAnyH_take (i := 2) (v := ?_) rfl (by kernel_rfl) (by kernel_rfl) (by kernel_rfl) (fun _ _ _ h => h) (Or.inl ⟨?_, ?_⟩) (by assumption) ?_; rotate_left; rfl; focus (intro w hSw; (try dsimp only at hSw); go_simp; all_goals (with_reducible rfl)))
        (try simp only [List.getElem_toArray, List.getElem_cons_zero, List.getElem_cons_succ, Act.put, List.setIfInBounds_toArray, List.set_cons_zero, List.set_cons_succ])
        refine wpAnyH_take (i := 3) (v := _) rfl (by kernel_rfl) (by kernel_rfl) (by kernel_rfl) (fun _ _ _ h => h) (yieldsIf_load_term (by rfl) _ rfl ⟨w2.heap.size, 0, none⟩ rfl _ _ _ _ (fun w h => blk_cells h)) (by assumption) ?_
        (try simp only [List.getElem_toArray, List.getElem_cons_zero, List.getElem_cons_succ, Act.put, List.setIfInBounds_toArray, List.set_cons_zero, List.set_cons_succ])
        first | (refine wpAnyH_take (i := 4) (v := _) rfl (by kernel_rfl) (by kernel_rfl) (by kernel_rfl) (fun _ _ _ h => h) (Or.inr ⟨?_, rfl⟩) (by assumption) ?_; rfl) | (refine wpAnyH_take (i := 4) (v := ?_) rfl (by kernel_rfl) (by kernel_rfl) (by kernel_rfl) (fun _ _ _ h => h) (Or.inl ⟨?_, ?_⟩) (by assumption) ?_; rotate_left; rfl; focus (intro w hSw; (try dsimp only at hSw); go_simp; all_goals (with_reducible rfl)))
        (try simp only [List.getElem_toArray, List.getElem_cons_zero, List.getElem_cons_succ, Act.put, List.setIfInBounds_toArray, List.set_cons_zero, List.set_cons_succ])
        first | (refine wpAnyH_take (i := 5) (v := _) rfl (by kernel_rfl) (by kernel_rfl) (by kernel_rfl) (fun _ _ _ h => h) (Or.inr ⟨?_, rfl⟩) (by assumption) ?_; rfl) | (refine wpAnyH_take (i := 5) (v := ?_) rfl (by kernel_rfl) (by kernel_rfl) (by kernel_rfl) (fun _ _ _ h => h) (Or.inl ⟨?_, ?_⟩) (by assumption) ?_; rotate_left; rfl; focus (intro w hSw; (try dsimp only at hSw); go_simp; all_goals (with_reducible rfl)))
        (try simp only [List.getElem_toArray, List.getElem_cons_zero, List.getElem_cons_succ, Act.put, List.setIfInBounds_toArray, List.set_cons_zero, List.set_cons_succ])
        first | (refine wpAnyH_take (i := 6) (v := _) rfl (by kernel_rfl) (by kernel_rfl) (by kernel_rfl) (fun _ _ _ h => h) (Or.inr ⟨?_, rfl⟩) (by assumption) ?_; rfl) | (refine wpAnyH_take (i := 6) (v := ?_) rfl (by kernel_rfl) (by kernel_rfl) (by kernel_rfl) (fun _ _ _ h => h) (Or.inl ⟨?_, ?_⟩) (by assumption) ?_; rotate_left; rfl; focus (intro w hSw; (try dsimp only at hSw); go_simp; all_goals (with_reducible rfl)))
        (try simp only [List.getElem_toArray, List.getElem_cons_zero, List.getElem_cons_succ, Act.put, List.setIfInBounds_toArray, List.set_cons_zero, List.set_cons_succ])
        refine wpAnyH_ready (rs := [7]) (by kernel_rfl) (by simp) ?_
        refine AllReadyH.cons rfl (fun K hK => ?_) AllReadyH.nil
        go_simp
        go_at_call 23
        with_reducible refine CT2.out.mono ?_
        rintro _ w4 ⟨kd', nm', s', A', m', c', rfl, htv', ht4, hg4⟩
        have hne4 : some w2.heap.size ≠ some g := fun e => by injection e with e; omega
        refine hK.out _ _ (hHeld.grown hg4 hne4) (fun hHeld => ?_)
        clear hK K CT2
        have hst4 := HST3.out.tape (W' := w4) ht4 hg4
        have htv4 := HTV3.out.grown (w' := w4) hg4 (fun q e => by injection e with e; have := HST3.out.2.2.2; omega)
        have hsz4 := hg4.size
        have HSZ4 : Hid (w3.heap.size ≤ w4.heap.size) := hsz4
        have HST4 := Lib.hid hst4
        have HTV4 := Lib.hid htv4
        have HTU4 : Hid (TmV w4 w3.heap.size t2 [.int .i64 kd', .int .i64 nm', .string s', .slice A' m' c']) := htv'
        clear HST3 HTV3 hst4 htv4 htv' ht4 hg4 hsz4
        (try simp only [List.getElem_toArray, List.getElem_cons_zero, List.getElem_cons_succ, Act.put, List.setIfInBounds_toArray, List.set_cons_zero, List.set_cons_succ])
        refine wpAnyH_ready (rs := [8]) (by kernel_rfl) (by simp) ?_
        refine AllReadyH.cons rfl (fun K hK => ?_) AllReadyH.nil
        go_simp
        refine hK.out _ _ (hHeld.alloc _) (fun hHeld => ?_)
        clear hK K
        (try simp only [List.getElem_toArray, List.getElem_cons_zero, List.getElem_cons_succ, Act.put, List.setIfInBounds_toArray, List.set_cons_zero, List.set_cons_succ])
        have hb5 : Below w4.heap.size w4 (w4.alloc (.cells #[.int .i64 kd, .int .i64 nm, .string s, .slice A m c, .int .i64 kd', .int .i64 nm', .string s', .slice A' m' c'] 35)) := (Below.refl _ _).alloc (Nat.le_refl _) _
        have HST5 := Lib.hid (HST4.out.below hb5)
        have HTV5 := Lib.hid (HTV4.out.below hb5)
        have HTU5 := Lib.hid (HTU4.out.below hb5)
        have HBK5 : Hid (Blk (w4.alloc (.cells #[.int .i64 kd, .int .i64 nm, .string s, .slice A m c, .int .i64 kd', .int .i64 nm', .string s', .slice A' m' c'] 35)) w4.heap.size 35 #[.int .i64 kd, .int .i64 nm, .string s, .slice A m c, .int .i64 kd', .int .i64 nm', .string s', .slice A' m' c']) := Blk.new _ _ _
        clear HST4 HTV4 HTU4 hb5
        refine wpAnyH_ready (rs := [9]) (by kernel_rfl) (by simp) ?_
        refine AllReadyH.cons rfl (fun K hK => ?_) AllReadyH.nil
        go_simp
        go_at_call 19
        with_reducible refine (t_walk _ _ _ _ _).mono ?_
        rintro _ w6 ⟨rfl, hb6⟩
        have hbl6 := hHeld.below hb6 hHeld.lt
        refine hK.out _ _ hbl6 (fun hHeld => ?_)
        clear hK K
        have HST6 := HST5.out.below hb6
        have HTV6 := Lib.hid (HTV5.out.below hb6)
        have HTU6 := Lib.hid (HTU5.out.below hb6)
        have HBK6 := Lib.hid (HBK5.out.below hb6 HBK5.out.lt)
        clear HST5 HTV5 HTU5 HBK5 hb6
        (try simp only [List.getElem_toArray, List.getElem_cons_zero, List.getElem_cons_succ, Act.put, List.setIfInBounds_toArray, List.set_cons_zero, List.set_cons_succ])
        refine wpAnyH_ready (rs := [10]) (by kernel_rfl) (by simp) ?_
        refine AllReadyH.cons rfl (fun K hK => ?_) AllReadyH.nil
        rw [if_pos (by rfl)]
        have hbx := HST6.2.2.1
        have HF := Lib.hid (HST6.store)
        refine wp_store_blk 35 _ _ rfl w.heap.size _ #[.int .i64 (5 + q - 7), .int .i64 0, .string ⟨#[]⟩, .slice (some ⟨w4.heap.size, 0, none⟩) 2 2] _ rfl rfl hbx rfl term_size (ones4 _ _ _ _ _ _) ?_
        have hne : w2.heap.size ≠ w.heap.size := by omega
        refine hK.out _ _ (hHeld.setOther hne _) (fun hHeld2 => ?_)
        clear hK K HST6
        (try simp only [List.getElem_toArray, List.getElem_cons_zero, List.getElem_cons_succ, Act.put, List.setIfInBounds_toArray, List.set_cons_zero, List.set_cons_succ])
        refine wpAnyH_done (by kernel_rfl) ?_ _
        go_wp2_with fail
        have hz4 := HSZ4.out
        refine bodyPost_ret (results_cell_row Try.results23 _ _ w.heap.size _ _ _ _ rfl (HF.out _).2.2 Try.underlying35 rfl (by kernel_rfl)) rfl ?_
        rw [hv2.out]
        exact ⟨_, _, _, _, _, _, rfl, two_kids (HBK6.out.setOther (by omega) _) (HTV6.out.grown (setRow_only _ w.heap.size _) (fun q e => by injection e with e; omega)) (HTU6.out.grown (setRow_only _ w.heap.size _) (fun q e => by injection e with e; omega)) (by omega) (by omega) (by omega), (HF.out _).1, (HF.out _).2.1⟩
theorem tape_all : ∀ d, d ≤ 100 → TapeOk d
  | 0, _ => tape_zero
  | d + 1, h => tape_succ d (by omega) (tape_all d (by omega))
end Go.Proofs.Ytekpdkjkkglcjaa

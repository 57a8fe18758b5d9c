/- JwsParts: it has three parts; the last is the mark of what the key signed, and that is the other two. Condition: the laid variables. -/
import Derived.Test.YtieppmppdmcleaaGreatDoorZi
import Derived.Test.YtieppmppdmcleaaGreatDoorWs
import Derived.Test.YtieppmppdmcleaaGreatDoorSq
set_option linter.unusedVariables false
set_option linter.unusedSimpArgs false
set_option maxRecDepth 20000
namespace Go.Proofs.YtieppmppdmcleaaGreatDoor
namespace K9
open Go.RowKit
theorem a_walk15p (s : ByteArray) (w : World) : Calls Tryz.prog 21 #[.string s] w fun e w' => e = .returned (.agg #[.int .i64 1, .int .i64 0, .string s, .slice none 0 0]) ∧ Below w.heap.size w w' := by
  have hb := (Below.refl w.heap.size w).alloc (Nat.le_refl _) (.cells #[.int .i64 0, .int .i64 0, .string ⟨#[]⟩, .slice none 0 0] 41)
  have hbr := Blk.new w 41 #[.int .i64 0, .int .i64 0, .string ⟨#[]⟩, .slice none 0 0]
  go_enter Tryz.func21, Tryz.ntmps21
  go_wp2_with (refine wpList_store_blk rfl 41 _ _ rfl w.heap.size _ #[.int .i64 1, .int .i64 0, .string s, .slice none 0 0] _ rfl rfl hbr rfl term_size (ones4 _ _ _ _ _ _) ?_)
  refine bodyPost_ret (results_cell_row Tryz.results21 _ _ w.heap.size _ _ _ _ rfl hbr.setRow Tryz.underlying41 rfl (by kernel_rfl)) rfl ⟨rfl, below_setRow hb (Nat.le_refl _) _⟩
theorem t_walk15p (kd : Int) (A : Option Addr) (m c : Nat) (w : World) : Calls Tryz.prog 19 #[.int .i64 kd, .slice A m c] w fun e w' => e = .returned (.agg #[.int .i64 kd, .int .i64 0, .string ⟨#[]⟩, .slice A m c]) ∧ Below w.heap.size w w' := by
  have hb := (Below.refl w.heap.size w).alloc (Nat.le_refl _) (.cells #[.int .i64 0, .int .i64 0, .string ⟨#[]⟩, .slice none 0 0] 41)
  have hbr := Blk.new w 41 #[.int .i64 0, .int .i64 0, .string ⟨#[]⟩, .slice none 0 0]
  go_enter Tryz.func19, Tryz.ntmps19
  go_wp2_with (refine wpList_store_blk rfl 41 _ _ rfl w.heap.size _ #[.int .i64 kd, .int .i64 0, .string ⟨#[]⟩, .slice A m c] _ rfl rfl hbr rfl term_size (ones4 _ _ _ _ _ _) ?_)
  refine bodyPost_ret (results_cell_row Tryz.results19 _ _ w.heap.size _ _ _ _ rfl hbr.setRow Tryz.underlying41 rfl (by kernel_rfl)) rfl ⟨rfl, below_setRow hb (Nat.le_refl _) _⟩
end K9
open Go.RowKit Go.Maps
set_option maxHeartbeats 16000000 in
theorem parts15_law (zs : List Int) (A : Option Addr) (c : Nat) (key : Int) (w : World) (hr : IntsIn w A c zs) (hk0 : -9223372036854775808 ≤ key ∧ key ≤ 9223372036854775807) (hL : LaidB w w.heap.size) :
    Calls Tryz.prog 5 #[.slice A zs.length c, .int .i64 key] w fun e w' => e = .returned (.bool true) ∧ Below w.heap.size w w' := by
  have ck := Lib.hid (known15_walk w hL)
  have HR := Lib.hid hr
  have cwk := Lib.hid (fun W => within15_walk key 1000 W (by decide) (by decide) hk0)
  obtain ⟨K, hK, hK1, hK2⟩ : ∃ K, key % 1000 = K ∧ 0 ≤ K ∧ K < 1000 := ⟨_, rfl, Int.emod_nonneg _ (by decide), Int.emod_lt_of_pos _ (by decide)⟩
  rw [hK] at cwk
  have HK3 : Hid (0 ≤ K ∧ K ≤ 1073741824) := ⟨hK1, by omega⟩
  clear hL hr hk0 hK hK1 hK2
  go_enter Tryz.func5, Tryz.ntmps5
  go_wp2_with fail
  refine ck.out.mono ?_
  rintro _ w1 ⟨rfl, hS1⟩
  have HA := Lib.hid (show StA w [] [] w1 from ⟨hS1.laid, hS1.below, fun p hp => by simp at hp, fun p hp => by simp at hp⟩)
  clear hS1 ck
  go_wp2_with fail
  refine (cwk.out _).mono ?_
  rintro _ _ ⟨rfl, rfl⟩
  clear cwk
  go_wp2_with fail
  refine (claims_walk zs A c w1 (HR.out.below HA.out.below)).mono ?_
  rintro _ w2 ⟨u, v, cs, rfl, hcl, hfu, hfv, hb⟩
  obtain ⟨k1, b1, n1, s1, N1, nn1, nc1, A1, m1, c1, rfl⟩ := hcl.form
  have hsm := cl_sm hfu hfv
  have hsz := cl_sz hfu hfv
  have hne := cl_sign hfu hfv HK3.out.1 HK3.out.2
  have HA2 := Lib.hid (HA.out.next hb)
  have HC2 := Lib.hid (hcl.low (Nat.zero_le _))
  generalize clJ u v = C at hsm hsz hne HC2
  clear hfu hfv hcl hb HA HR
  obtain ⟨S, hS⟩ : ∃ S, signL K C = S := ⟨_, rfl⟩
  have hSl := sign_len K C
  have hparts := sign_parts hne
  have hform := sign_form hne
  rw [hS] at hSl hparts
  obtain ⟨zs', hzs, hzl⟩ := mk_name S (n := 3000) hSl
  have hzd : zs'.data.toList = S := by rw [← hzs]
  have csg := Lib.hid (fun W (hT : Tab W) cs (hv : JvV W 0 C cs) => sign_w K C cs zs' (by rw [hS]; exact hzs) W hsm (by omega) hT hv)
  have hfr : frontL (printJ C) = K9.B64.enc hdL ++ [46] ++ K9.B64.enc (printJ C) := rfl
  have hmay := hform.2.2.1
  have hlens := congrArg List.length hform.2.2.2
  rw [hS] at hlens
  simp only [List.length_append, List.length_cons, List.length_nil] at hlens
  generalize frontL (printJ C) = fr at hparts hfr hmay hlens
  generalize K9.B64.enc hdL = p0 at hparts hfr hlens
  generalize K9.B64.enc (printJ C) = p1 at hparts hfr hlens
  have hread := K9.read_markZ hmay
  generalize K9.markT (K9.sigT K fr) = p2 at hparts hread hlens
  have HSM := Lib.hid hsm
  have cpp := Lib.hid (fun W => parts_walk zs' S hzd 46 W (by omega))
  rw [hparts] at cpp
  have HREAD := Lib.hid hread
  have HFR := Lib.hid hfr
  clear hsm hsz hne hS hzd hzs hparts hform hmay hread hfr
  go_wp2_with fail
  refine (csg.out w2 HA2.out.laid.tab _ HC2.out).mono ?_
  rintro _ W3 ⟨rfl, hb⟩
  have HA3 := Lib.hid (HA2.out.next hb)
  clear hb HA2 HC2 csg
  go_wp2_with fail
  refine (cpp.out W3).mono ?_
  rintro _ W4 ⟨pv, rfl, hown, hb⟩
  have HA4 := Lib.hid (HA3.out.next hb)
  obtain ⟨A4, cp, rfl, hcp, hrd⟩ := own_reads hown (Nat.le_refl _)
  simp only [List.length_cons, List.length_nil] at hrd hcp
  obtain ⟨b0, o0, rfl, hb0, hc0⟩ := reads_spot hrd (by omega)
  have q0 : W4.cell? ⟨b0, o0, none⟩ = some (strV p0) := hc0 0 _ rfl
  have q1 : W4.cell? ⟨b0, o0 + 1, none⟩ = some (strV p1) := hc0 1 _ rfl
  have q2 : W4.cell? ⟨b0, o0 + 2, none⟩ = some (strV p2) := hc0 2 _ rfl
  rw [strV] at q0 q1 q2
  clear hb hown hrd HA3 cpp hc0
  obtain ⟨z0, hz0, hz0l⟩ := mk_name p0 (n := 3000) (by omega)
  obtain ⟨z1, hz1, hz1l⟩ := mk_name p1 (n := 3000) (by omega)
  obtain ⟨z2, hz2, hz2l⟩ := mk_name p2 (n := 3000) (by omega)
  have hz2d : z2.data.toList = p2 := by rw [← hz2]
  rw [hz0] at q0
  rw [hz1] at q1
  rw [hz2] at q2
  have HCE := Lib.hid (show ∀ W, Below W4.heap.size W4 W → W.cell? ⟨b0, o0, none⟩ = some (.string z0) ∧ W.cell? ⟨b0, o0 + 1, none⟩ = some (.string z1) from fun W h => ⟨(h.cell hb0).trans q0, (h.cell hb0).trans q1⟩)
  go_wp2_with fail
  refine (K9.rread_walk z2 p2 hz2d W4 (by omega)).mono ?_
  rintro _ W5 ⟨kd, nm, st, A5, m5, c5, rfl, htv, hb⟩
  rw [HREAD.out] at htv ⊢
  simp only [Option.getD_some] at htv
  have hb5 := alloc_below W5 (.cells #[.int .i64 kd, .int .i64 nm, .string st, .slice A5 m5 c5] 41)
  have HBX := Lib.hid (Blk.new W5 41 #[.int .i64 kd, .int .i64 nm, .string st, .slice A5 m5 c5])
  have HTV := Lib.hid ((htv.below hb5).low (Nat.zero_le _))
  have HA6 := Lib.hid ((HA4.out.next hb).next hb5)
  have HB4 := Lib.hid (below_next hb hb5)
  clear htv hb hb5 HA4
  have q5 : ¬ 9223372036854775807 < z0.size + 1 := by omega
  have q6 : ¬ 9223372036854775807 < z0.size + 1 + z1.size := by omega
  have hzfe : (⟨fr.toArray⟩ : ByteArray) = z0 ++ ⟨#[46]⟩ ++ z1 := by
    rw [HFR.out, ← hz0, ← hz1, show (⟨#[46]⟩ : ByteArray) = ⟨([46] : List UInt8).toArray⟩ from rfl, cat_mk, cat_mk]
  have HZFE := Lib.hid hzfe
  clear hzfe hz0 hz1 hz2 q0 q1 q2 hz2d
  go_upto_region 8 with fail
  generalize W5.heap.size = g5 at HBX ⊢
  generalize W5.alloc (.cells #[.int .i64 kd, .int .i64 nm, .string st, .slice A5 m5 c5] 41) = W6 at HBX HTV HA6 HB4 ⊢
  have HSA : Hid (∀ W, Below W6.heap.size W6 W → (∀ j t, ([.int .i64 kd, .int .i64 nm, .string st, .slice A5 m5 c5] : List Value)[j]? = some t → W.cell? ((⟨g5, 0, none⟩ : Addr).add j) = some t) ∧ W.cell? ⟨b0, o0, none⟩ = some (.string z0) ∧ W.cell? ⟨b0, o0 + 1, none⟩ = some (.string z1)) := fun W h => ⟨blk_cells (cs := [.int .i64 kd, .int .i64 nm, .string st, .slice A5 m5 c5]) (HBX.out.below h HBX.out.lt), HCE.out W (below_next HB4.out h)⟩
  have HB7 := Lib.hid (Below.refl W6.heap.size W6).drew
  have hS0 := HSA.out W6.drew HB7.out
  generalize hWd : W6.drew = Wd at HB7
  refine wp_region_held_drew (S := fun W => (∀ j t, ([.int .i64 kd, .int .i64 nm, .string st, .slice A5 m5 c5] : List Value)[j]? = some t → W.cell? ((⟨g5, 0, none⟩ : Addr).add j) = some t) ∧ W.cell? ⟨b0, o0, none⟩ = some (.string z0) ∧ W.cell? ⟨b0, o0 + 1, none⟩ = some (.string z1)) (by kernel_rfl) hS0 (fun hHeld => ?_)
  rw [hWd]
  have hHeld := HSA.out Wd HB7.out
  clear hS0 hWd
  first | (refine tk 0 rfl (Or.inr ⟨?_, rfl⟩) ?_; rfl) | (refine tk 0 rfl (v := ?_) (Or.inl ⟨?_, ?_⟩) ?_; rotate_left; rfl; focus (intro w hSw; (try dsimp only at hSw); go_simp; all_goals (with_reducible rfl)))
  (try simp only [nrm, Act.put])
  first | (refine tk 1 rfl (Or.inr ⟨?_, rfl⟩) ?_; rfl) | (refine tk 1 rfl (v := ?_) (Or.inl ⟨?_, ?_⟩) ?_; rotate_left; rfl; focus (intro w hSw; (try dsimp only at hSw); go_simp; all_goals (with_reducible rfl)))
  (try simp only [nrm, Act.put])
  refine tk 2 rfl (v := _) (K9.yieldsIf_load_term (by rfl) _ rfl ⟨g5, 0, none⟩ rfl _ _ _ _ (fun w h => h.1)) ?_
  (try simp only [nrm, Act.put])
  first | (refine tk 3 rfl (Or.inr ⟨?_, rfl⟩) ?_; rfl) | (refine tk 3 rfl (v := ?_) (Or.inl ⟨?_, ?_⟩) ?_; rotate_left; rfl; focus (intro w hSw; (try dsimp only at hSw); go_simp; all_goals (with_reducible rfl)))
  (try simp only [nrm, Act.put])
  first | (refine tk 5 rfl (Or.inr ⟨?_, rfl⟩) ?_; rfl) | (refine tk 5 rfl (v := ?_) (Or.inl ⟨?_, ?_⟩) ?_; rotate_left; rfl; focus (intro w hSw; (try dsimp only at hSw); go_simp; all_goals (with_reducible rfl)))
  (try simp only [nrm, Act.put])
  first | (refine tk 9 rfl (Or.inr ⟨?_, rfl⟩) ?_; rfl) | (refine tk 9 rfl (v := ?_) (Or.inl ⟨?_, ?_⟩) ?_; rotate_left; rfl; focus (intro w hSw; (try dsimp only at hSw); go_simp; all_goals (with_reducible rfl)))
  (try simp only [nrm, Act.put])
  first | (refine tk 6 rfl (Or.inr ⟨?_, rfl⟩) ?_; rfl) | (refine tk 6 rfl (v := ?_) (Or.inl ⟨?_, ?_⟩) ?_; rotate_left; rfl; focus (intro w hSw; (try dsimp only at hSw); go_simp; all_goals (with_reducible rfl)))
  (try simp only [nrm, Act.put])
  first | (refine tk 7 rfl (Or.inr ⟨?_, rfl⟩) ?_; rfl) | (refine tk 7 rfl (v := ?_) (Or.inl ⟨?_, ?_⟩) ?_; rotate_left; rfl; focus (intro w hSw; (try dsimp only at hSw); go_simp; all_goals (with_reducible rfl)))
  (try simp only [nrm, Act.put])
  first | (refine tk 8 rfl (Or.inr ⟨?_, rfl⟩) ?_; rfl) | (refine tk 8 rfl (v := ?_) (Or.inl ⟨?_, ?_⟩) ?_; rotate_left; rfl; focus (intro w hSw; (try dsimp only at hSw); go_simp; all_goals (with_reducible rfl)))
  (try simp only [nrm, Act.put])
  first | (refine tk 10 rfl (Or.inr ⟨?_, rfl⟩) ?_; rfl) | (refine tk 10 rfl (v := ?_) (Or.inl ⟨?_, ?_⟩) ?_; rotate_left; rfl; focus (intro w hSw; (try dsimp only at hSw); go_simp; all_goals (with_reducible rfl)))
  (try simp only [nrm, Act.put])
  first | (refine tk 11 rfl (Or.inr ⟨?_, rfl⟩) ?_; rfl) | (refine tk 11 rfl (v := ?_) (Or.inl ⟨?_, ?_⟩) ?_; rotate_left; rfl; focus (intro w hSw; (try dsimp only at hSw); go_simp; all_goals (with_reducible rfl)))
  (try simp only [nrm, Act.put])
  first | (refine tk 12 rfl (Or.inr ⟨?_, rfl⟩) ?_; rfl) | (refine tk 12 rfl (v := ?_) (Or.inl ⟨?_, ?_⟩) ?_; rotate_left; rfl; focus (intro w hSw; (try dsimp only at hSw); go_simp; all_goals (with_reducible rfl)))
  (try simp only [nrm, Act.put])
  refine wpAnyH_ready (rs := [4]) (by kernel_rfl) (by simp) ?_
  refine AllReadyH.cons rfl (fun K hK => ?_) AllReadyH.nil
  go_simp
  refine (K9.n_walk _ Wd).mono ?_
  rintro _ W8 ⟨rfl, hb⟩
  have HB8 := Lib.hid (below_next HB7.out hb)
  clear hb HB7
  go_simp
  refine hK.out _ _ (HSA.out _ HB8.out) (fun hHeld2 => ?_)
  clear hK K hHeld
  have hHeld := hHeld2
  clear hHeld2
  (try simp only [nrm, Act.put])
  have hsame := (K9.sameB_iff (t := K9.sigT K fr) (u := K9.sigT K fr)).2 rfl
  have HSAME := Lib.hid hsame
  have hsa := Lib.hid (fun W b tt (h : Blk W b tt #[.int .i64 2, .int .i64 K, .string ⟨#[]⟩, .slice none 0 0, .int .i64 1, .int .i64 0, .string ⟨fr.toArray⟩, .slice none 0 0]) => sig_at h)
  rw [HZFE.out] at hsa
  generalize hT : K9.sigT K fr = T at hsame HSAME hsa HTV
  clear hsame hT
  refine wpAnyH_ready (rs := [13]) (by kernel_rfl) (by simp) ?_
  refine AllReadyH.cons rfl (fun K hK => ?_) AllReadyH.nil
  go_simp
  refine (K9.a_walk15p _ W8).mono ?_
  rintro _ W9 ⟨rfl, hb⟩
  have HB9 := Lib.hid (below_next HB8.out hb)
  clear hb HB8
  go_simp
  refine hK.out _ _ (HSA.out _ HB9.out) (fun hHeld2 => ?_)
  clear hK K hHeld
  have hHeld := hHeld2
  clear hHeld2
  (try simp only [nrm, Act.put])
  obtain ⟨Kv, hKv⟩ : ∃ Kv, K = Kv := ⟨_, rfl⟩
  subst hKv
  have HBK := Lib.hid (Blk.new W9 41 #[.int .i64 2, .int .i64 K, .string ⟨#[]⟩, .slice none 0 0, .int .i64 1, .int .i64 0, .string (z0 ++ ⟨#[46]⟩ ++ z1), .slice none 0 0])
  have HB10 := Lib.hid (below_next HB9.out (alloc_below W9 (.cells #[.int .i64 2, .int .i64 K, .string ⟨#[]⟩, .slice none 0 0, .int .i64 1, .int .i64 0, .string (z0 ++ ⟨#[46]⟩ ++ z1), .slice none 0 0] 41)))
  have HTM := Lib.hid (hsa.out _ _ _ HBK.out)
  generalize hW10 : W9.alloc (.cells #[.int .i64 2, .int .i64 K, .string ⟨#[]⟩, .slice none 0 0, .int .i64 1, .int .i64 0, .string (z0 ++ ⟨#[46]⟩ ++ z1), .slice none 0 0] 41) = W10 at HBK HB10 HTM
  generalize hzz : z0 ++ ⟨#[46]⟩ ++ z1 = zz at *
  refine wpAnyH_ready (rs := [14]) (by kernel_rfl) (by simp) ?_
  refine AllReadyH.cons rfl (fun K hK => ?_) AllReadyH.nil
  go_simp
  refine hK.out _ _ (HSA.out _ HB10.out) (fun hHeld2 => ?_)
  clear hK K hHeld
  have hHeld := hHeld2
  clear hHeld2
  (try simp only [nrm, Act.put])
  refine wpAnyH_ready (rs := [15]) (by kernel_rfl) (by simp) ?_
  refine AllReadyH.cons rfl (fun K hK => ?_) AllReadyH.nil
  go_simp
  refine (K9.t_walk15p 6 _ 2 2 W10).mono ?_
  rintro _ W11 ⟨rfl, hb⟩
  have HB11 := Lib.hid (below_next HB10.out hb)
  have HTM2 := Lib.hid (HTM.out.below hb)
  clear hb
  go_simp
  refine hK.out _ _ (HSA.out _ HB11.out) (fun hHeld2 => ?_)
  clear hK K hHeld
  have hHeld := hHeld2
  clear hHeld2
  (try simp only [nrm, Act.put])
  refine wpAnyH_ready (rs := [16]) (by kernel_rfl) (by simp) ?_
  refine AllReadyH.cons rfl (fun K hK => ?_) AllReadyH.nil
  go_simp
  refine (K9.same_walk T T _ _ _ _ _ _ _ _ _ _ _ _ W11 ((HTV.out.below HB11.out).low (Nat.zero_le _)) (HTM2.out.low (Nat.zero_le _))).mono ?_
  rintro _ W12 ⟨rfl, hb⟩
  have HB12 := Lib.hid (below_next HB11.out hb)
  clear hb
  rw [HSAME.out]
  go_simp
  refine hK.out _ _ (HSA.out _ HB12.out) (fun hHeld2 => ?_)
  clear hK K hHeld
  have hHeld := hHeld2
  clear hHeld2
  (try simp only [nrm, Act.put])
  first | (refine tk 17 rfl (Or.inr ⟨?_, rfl⟩) ?_; rfl) | (refine tk 17 rfl (v := ?_) (Or.inl ⟨?_, ?_⟩) ?_; rotate_left; rfl; focus (intro w hSw; (try dsimp only at hSw); go_simp; all_goals (with_reducible rfl)))
  (try simp only [nrm, Act.put])
  first | (refine tk 18 rfl (Or.inr ⟨?_, rfl⟩) ?_; rfl) | (refine tk 18 rfl (v := ?_) (Or.inl ⟨?_, ?_⟩) ?_; rotate_left; rfl; focus (intro w hSw; (try dsimp only at hSw); go_simp; all_goals (with_reducible rfl)))
  (try simp only [nrm, Act.put])
  refine wpAnyH_done (by kernel_rfl) ?_ _
  clear hHeld
  go_wp2_with fail
  go_ret
  exact ⟨rfl, (HA6.out.next HB12.out).below⟩
end Go.Proofs.YtieppmppdmcleaaGreatDoor

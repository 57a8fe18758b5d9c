/- countersignref15: head, Sign, Verify. Condition: claims that are small; a text of at most 6000 bytes; the laid table. -/
import Derived.Test.YtieppmppdmcleaaGreatDoorB7
import Derived.Test.YtieppmppdmcleaaGreatDoorOk
import Derived.Test.YtieppmppdmcleaaGreatDoorOj
import Derived.Test.YtieppmppdmcleaaGreatDoorOh
set_option linter.unusedVariables false
set_option linter.unusedSimpArgs false
set_option maxRecDepth 20000
set_option maxHeartbeats 8000000
namespace Go.Proofs.YtieppmppdmcleaaGreatDoor
namespace K9
open Go.RowKit
theorem a_walk15 (s : ByteArray) (w : World) : Calls Tryz.prog 21 #[.string s] w fun e w' => e = .returned (.agg #[.int .i64 1, .int .i64 0, .string s, .slice none 0 0]) ∧ Below w.heap.size w w' := by
 have hb := (Below.refl w.heap.size w).alloc (Nat.le_refl _) (.cells #[.int .i64 0, .int .i64 0, .string ⟨#[]⟩, .slice none 0 0] 41)
 have hbr := Blk.new w 41 #[.int .i64 0, .int .i64 0, .string ⟨#[]⟩, .slice none 0 0]
 go_enter Tryz.func21, Tryz.ntmps21
 go_wp2_with (refine wpList_store_blk rfl 41 _ _ rfl w.heap.size _ #[.int .i64 1, .int .i64 0, .string s, .slice none 0 0] _ rfl rfl hbr rfl term_size (ones4 _ _ _ _ _ _) ?_)
 refine bodyPost_ret (results_cell_row Tryz.results21 _ _ w.heap.size _ _ _ _ rfl hbr.setRow Tryz.underlying41 rfl (by kernel_rfl)) rfl ⟨rfl, below_setRow hb (Nat.le_refl _) _⟩
theorem t_walk15 (kd : Int) (A : Option Addr) (m c : Nat) (w : World) : Calls Tryz.prog 19 #[.int .i64 kd, .slice A m c] w fun e w' => e = .returned (.agg #[.int .i64 kd, .int .i64 0, .string ⟨#[]⟩, .slice A m c]) ∧ Below w.heap.size w w' := by
 have hb := (Below.refl w.heap.size w).alloc (Nat.le_refl _) (.cells #[.int .i64 0, .int .i64 0, .string ⟨#[]⟩, .slice none 0 0] 41)
 have hbr := Blk.new w 41 #[.int .i64 0, .int .i64 0, .string ⟨#[]⟩, .slice none 0 0]
 go_enter Tryz.func19, Tryz.ntmps19
 go_wp2_with (refine wpList_store_blk rfl 41 _ _ rfl w.heap.size _ #[.int .i64 kd, .int .i64 0, .string ⟨#[]⟩, .slice A m c] _ rfl rfl hbr rfl term_size (ones4 _ _ _ _ _ _) ?_)
 refine bodyPost_ret (results_cell_row Tryz.results19 _ _ w.heap.size _ _ _ _ rfl hbr.setRow Tryz.underlying41 rfl (by kernel_rfl)) rfl ⟨rfl, below_setRow hb (Nat.le_refl _) _⟩
end K9
open Go.RowKit Go.Maps
theorem rhead_walk (w : World) : Calls Tryz.prog 27 #[] w fun e w' => e = .returned (.string ⟨(K9.B64.enc hdL).toArray⟩) ∧ Below w.heap.size w w' := by
 have kc := Lib.run_convert_bytes_const (P := Tryz.prog) w 31 5 #[.int .u8 123, .int .u8 34, .int .u8 97, .int .u8 108, .int .u8 103, .int .u8 34, .int .u8 58, .int .u8 34, .int .u8 83, .int .u8 89, .int .u8 77, .int .u8 34, .int .u8 125] 13 13 Tryz.underlying31 Tryz.underlying5
 have hr := hd_reads w
 have HB := Lib.hid (alloc_below w (.cells #[.int .u8 123, .int .u8 34, .int .u8 97, .int .u8 108, .int .u8 103, .int .u8 34, .int .u8 58, .int .u8 34, .int .u8 83, .int .u8 89, .int .u8 77, .int .u8 34, .int .u8 125] 5 (13, 14)))
 have HR := Lib.hid hr
 clear hr
 go_enter Tryz.func27, Tryz.ntmps27
 go_wp2_with fail
 refine (K9.renc_walk _ 13 13 hdL _ HR.out (by decide)).mono ?_
 rintro _ W2 ⟨rfl, hb⟩
 have HB2 := Lib.hid (below_next HB.out hb)
 clear hb
 go_wp2_with fail
 go_ret
 exact ⟨rfl, HB2.out⟩
theorem rsign_walk (key : Int) (v : Jv) (cs : List Value) (w : World) (hsm : smJ v) (hsz : szJ v ≤ 10000) (hT : Tab w) (hv : JvV w 0 v cs) :
  Calls Tryz.prog 11 #[.int .i64 key, .agg cs.toArray] w (SignR key v w) := by
 obtain ⟨k1, b1, n1, s1, NA1, nn1, nc1, A1, m1, c1, rfl⟩ := hv.form
 have hk := jv_kind hv
 have hb1 := alloc_below w (.cells #[.int .i64 k1, .bool b1, .int .i64 n1, .string s1, .slice NA1 nn1 nc1, .slice A1 m1 c1] 26)
 have HKB := Lib.hid (Blk.new w 26 #[.int .i64 k1, .bool b1, .int .i64 n1, .string s1, .slice NA1 nn1 nc1, .slice A1 m1 c1])
 have HB := Lib.hid hb1
 have HV := Lib.hid hv
 have HT := Lib.hid hT
 have HSM := Lib.hid hsm
 have HS := Lib.hid (sign_ref key v)
 have hfl : (frontL (printJ v)).length ≤ 400000 := by
  have h1 := print_le v hsm hsz
  have h2 := K9.B64.enc_length (printJ v)
  have h3 := enc_hd
  rw [frontL]
  simp only [List.length_append, List.length_cons, List.length_nil]
  omega
 have hml := K9.mark_le (K9.sigT key (frontL (printJ v)))
 have hpl := print_le v hsm hsz
 clear hb1 hv hT hsm
 obtain ⟨l0, l1, l2, l3, l4, l5⟩ := six_cells HKB.out
 by_cases hlo : key < 0
 ·
  have e1 : decide (key < 0) = true := by simpa using hlo
  have hv : Hid (signL key v = []) := by show _ = _; rw [HS.out, if_neg (by omega)]
  clear hlo hk
  go_enter Tryz.func11, Tryz.ntmps11
  go_wp2_with fail
  go_ret
  exact ⟨by rw [hv.out]; rfl, HB.out⟩
 have g1 : decide (key < 0) = false := by simpa using hlo
 by_cases hhi : 1073741824 < key
 ·
  have e1 : decide (1073741824 < key) = true := by simpa using hhi
  have hv : Hid (signL key v = []) := by show _ = _; rw [HS.out, if_neg (by omega)]
  clear hlo hhi hk
  go_enter Tryz.func11, Tryz.ntmps11
  go_wp2_with fail
  go_ret
  exact ⟨by rw [hv.out]; rfl, HB.out⟩
 have g2 : decide (1073741824 < key) = false := by simpa using hhi
 by_cases hk6 : k1 = 6
 case neg =>
  have e1 : (k1 != 6) = true := by simp [hk6]
  have e2 : (k1 == 6) = false := by simp [hk6]
  have hv : Hid (signL key v = []) := by show _ = _; rw [HS.out, if_neg (fun h => hk6 (by rw [hk]; exact h.2.2.1))]
  clear hk6 hk hlo hhi
  go_enter Tryz.func11, Tryz.ntmps11
  go_wp2_with fail
  go_ret
  exact ⟨by rw [hv.out]; rfl, HB.out⟩
 subst hk6
 have hk' : v.kind = 6 := hk.symm
 have cm := Lib.hid (fun W (hb : Below w.heap.size w W) => rmaym_walk v _ W HSM.out (HV.out.below hb))
 cases hm : mayB v
 ·
  have hv : Hid (signL key v = []) := by show _ = _; rw [HS.out, if_neg (by rw [hm]; simp)]
  rw [hm] at cm
  clear hk hk' hm hlo hhi
  go_enter Tryz.func11, Tryz.ntmps11
  go_wp2_with fail
  refine (cm.out _ HB.out).mono ?_
  rintro _ W2 ⟨rfl, hb⟩
  have HB2 := Lib.hid (below_next HB.out hb)
  clear hb
  go_wp2_with fail
  go_ret
  exact ⟨by rw [hv.out]; rfl, HB2.out⟩
 have hv : Hid (signL key v = if (frontL (printJ v)).length ≤ 1024 then frontL (printJ v) ++ [46] ++ K9.markT (K9.sigT key (frontL (printJ v))) else []) := by
  show _ = _
  rw [HS.out]
  by_cases hf : (frontL (printJ v)).length ≤ 1024
  ·
   rw [if_pos hf, if_pos ⟨by omega, by omega, hk', hm, hf⟩]
  ·
   rw [if_neg hf, if_neg (fun h => hf h.2.2.2.2)]
 rw [hm] at cm
 have HF : Hid (frontL (printJ v) = K9.B64.enc hdL ++ [46] ++ K9.B64.enc (printJ v)) := rfl
 have cpr := Lib.hid (fun W (hb : Below w.heap.size w W) => rprintm_walk v _ W HSM.out (by omega) (HT.out.below hb) (HV.out.below hb))
 have hel := K9.B64.enc_length (printJ v)
 have hhl := enc_hd
 have ct := Lib.hid (fun W b t (h : Blk W b t #[.int .i64 2, .int .i64 key, .string ⟨#[]⟩, .slice none 0 0, .int .i64 1, .int .i64 0, .string ⟨(frontL (printJ v)).toArray⟩, .slice none 0 0]) => K9.rtext_walk (K9.sigT key (frontL (printJ v))) 6 0 ⟨#[]⟩ _ _ _ W (sig_at h))
 generalize frontL (printJ v) = fr at ct hv HF hfl hml
 generalize printJ v = p at cpr hel HF hpl
 generalize heh : K9.B64.enc hdL = eh at HF hhl
 have HEH := Lib.hid heh
 clear heh
 have hfrl : fr.length = eh.length + 1 + (K9.B64.enc p).length := by rw [HF.out]; simp; omega
 have HFRL := Lib.hid hfrl
 clear hk hk' hm hlo hhi HS l0 l1 l2 l3 l4 l5
 obtain ⟨l0, l1, l2, l3, l4, l5⟩ := six_cells HKB.out
 go_enter Tryz.func11, Tryz.ntmps11
 go_wp2_with fail
 refine (cm.out _ HB.out).mono ?_
 rintro _ W2 ⟨rfl, hb⟩
 have HB2 := Lib.hid (below_next HB.out hb)
 have HK2 := Lib.hid (HKB.out.below hb HKB.out.lt)
 clear hb l0 l1 l2 l3 l4 l5 HB cm
 go_wp2_with fail
 have HC : Hid (∀ W, Below W2.heap.size W2 W → ∀ j t, ([.int .i64 6, .bool b1, .int .i64 n1, .string s1, .slice NA1 nn1 nc1, .slice A1 m1 c1] : List Value)[j]? = some t → W.cell? ((⟨w.heap.size, 0, none⟩ : Addr).add j) = some t) := fun W hb => blk_cells (cs := [.int .i64 6, .bool b1, .int .i64 n1, .string s1, .slice NA1 nn1 nc1, .slice A1 m1 c1]) (HK2.out.below hb HK2.out.lt)
 have HB3 := Lib.hid (Below.refl W2.heap.size W2).drew
 have hS0 := HC.out W2.drew HB3.out
 generalize hWd : W2.drew = Wd at HB3
 refine wp_region_held_drew (S := fun W => (∀ j t, ([.int .i64 6, .bool b1, .int .i64 n1, .string s1, .slice NA1 nn1 nc1, .slice A1 m1 c1] : List Value)[j]? = some t → W.cell? ((⟨w.heap.size, 0, none⟩ : Addr).add j) = some t)) (by kernel_rfl) hS0 (fun hHeld => ?_)
 rw [hWd]
 have hHeld := HC.out Wd HB3.out
 clear hS0 hWd
 refine tk 2 rfl (v := _) (yieldsIf_load_jv (by rfl) _ rfl ⟨w.heap.size, 0, none⟩ rfl _ _ _ _ _ _ (fun w h => h)) ?_
 try simp only [nrm, Act.put]
 refine rd1 0 rfl fun K hK => ?_
 go_simp
 refine (rhead_walk Wd).mono ?_
 rintro _ W4 ⟨rfl, hb⟩
 have HB4 := Lib.hid (below_next HB3.out hb)
 clear hb HB3
 rw [HEH.out]
 obtain ⟨ze, hze, hzel⟩ := mk_name eh (n := 18) (by omega)
 rw [hze]
 go_simp
 refine hK.out _ _ (HC.out _ HB4.out) (fun hHeld2 => ?_)
 clear hK K hHeld
 have hHeld := hHeld2
 clear hHeld2
 try simp only [nrm, Act.put]
 have q1 : ¬ 9223372036854775807 < ze.size + 1 := by omega
 refine tkr 1 rfl ?_
 try simp only [nrm, Act.put]
 refine rd1 3 rfl fun K hK => ?_
 go_simp
 refine (cpr.out W4 (below_next HB2.out HB4.out)).mono ?_
 rintro _ W5 ⟨rfl, hb⟩
 have HB5 := Lib.hid (below_next HB4.out hb)
 clear hb HB4
 go_simp
 refine hK.out _ _ (HC.out _ HB5.out) (fun hHeld2 => ?_)
 clear hK K hHeld
 have hHeld := hHeld2
 clear hHeld2
 try simp only [nrm, Act.put]
 have hcv := fun w => Lib.run_convert_string_bytes (P := Tryz.prog) w 9 31 5 ⟨p.toArray⟩ Tryz.underlying9 Tryz.underlying31 Tryz.underlying5
 refine rd1 4 rfl fun K hK => ?_
 go_simp
 have HR6 := Lib.hid (BRow.new 5 W5 p).reads
 have HB6 := Lib.hid (below_next HB5.out (below_bytes 5 W5 p))
 refine hK.out _ _ (HC.out _ HB6.out) (fun hHeld2 => ?_)
 clear hK K hHeld HB5 hcv
 have hHeld := hHeld2
 clear hHeld2
 generalize grownCap W5 p.length 0 5 = cp
 generalize Lib.bytesWorld W5 5 ⟨p.toArray⟩ = W6 at HB6 HR6 hHeld ⊢
 try simp only [nrm, Act.put]
 refine rd1 5 rfl fun K hK => ?_
 go_simp
 refine (K9.renc_walk _ p.length cp p W6 HR6.out (by omega)).mono ?_
 rintro _ W7 ⟨rfl, hb⟩
 have HB7 := Lib.hid (below_next HB6.out hb)
 clear hb HB6 HR6
 obtain ⟨zp, hzp, hzpl⟩ := mk_name (K9.B64.enc p) (n := 400000) (by omega)
 rw [hzp]
 go_simp
 refine hK.out _ _ (HC.out _ HB7.out) (fun hHeld2 => ?_)
 clear hK K hHeld
 have hHeld := hHeld2
 clear hHeld2
 try simp only [nrm, Act.put]
 have q2 : ¬ 9223372036854775807 < ze.size + 1 + zp.size := by omega
 refine tkr 6 rfl ?_
 try simp only [nrm, Act.put]
 refine tkr 7 rfl ?_
 try simp only [nrm, Act.put]
 refine wpAnyH_done (by kernel_rfl) ?_ _
 clear hHeld
 obtain ⟨zf, hzf⟩ : ∃ zf, ze ++ ⟨#[46]⟩ ++ zp = zf := ⟨_, rfl⟩
 have hzfe : (⟨fr.toArray⟩ : ByteArray) = zf := by
  rw [HF.out, ← hzf, ← hze, ← hzp, show (⟨#[46]⟩ : ByteArray) = ⟨([46] : List UInt8).toArray⟩ from rfl, cat_mk, cat_mk]
 have hzfl : zf.size = fr.length := by rw [← hzfe, size_mks]
 rw [hzfe] at ct
 have HZF := Lib.hid hzfe
 have hzb : zf.size ≤ 400000 := by omega
 have hzfr : zf.size ≤ 1024 ↔ fr.length ≤ 1024 := by omega
 have HZR := Lib.hid hzfr
 clear hzfr hzfl hel hhl hfrl hfl HFRL
 have HB8 := Lib.hid (below_next HB2.out HB7.out)
 rw [hzf]
 clear hzf hzfe hze hzp q1 q2 HC cpr HK2 HKB HB2 HB7
 by_cases hf : zf.size ≤ 1024
 case neg =>
  have e1 : decide ((1024 : Int) < (zf.size : Int)) = true := by simp; omega
  have e2 : decide (1024 < zf.size) = true := by simp; omega
  have hv2 : Hid (signL key v = []) := by show _ = _; rw [hv.out, if_neg (fun h => hf (HZR.out.2 h))]
  clear hf
  go_wp2_with fail
  go_ret
  exact ⟨by rw [hv2.out]; rfl, HB8.out⟩
 have e1 : decide ((1024 : Int) < (zf.size : Int)) = false := by simp; omega
 have e2 : decide (1024 < zf.size) = false := by simp; omega
 have hv2 : Hid (signL key v = fr ++ [46] ++ K9.markT (K9.sigT key fr)) := by show _ = _; rw [hv.out, if_pos (HZR.out.1 hf)]
 generalize K9.markT (K9.sigT key fr) = mk at ct hv2 hml
 have q3 : ¬ 9223372036854775807 < zf.size + 1 := by omega
 clear hv hf
 go_wp2_with fail
 refine (K9.n_walk key W7).mono ?_
 rintro _ W8 ⟨rfl, hb⟩
 have HB9 := Lib.hid (below_next HB8.out hb)
 clear hb HB8
 go_wp2_with fail
 refine (K9.a_walk15 zf W8).mono ?_
 rintro _ W9 ⟨rfl, hb⟩
 have HB10 := Lib.hid (below_next HB9.out hb)
 clear hb HB9
 go_wp2_with fail
 have hbn := Blk.new W9 41 #[.int .i64 2, .int .i64 key, .string ⟨#[]⟩, .slice none 0 0, .int .i64 1, .int .i64 0, .string zf, .slice none 0 0]
 have HBN := Lib.hid hbn
 have HB11 := Lib.hid (below_next HB10.out (alloc_below W9 (.cells #[.int .i64 2, .int .i64 key, .string ⟨#[]⟩, .slice none 0 0, .int .i64 1, .int .i64 0, .string zf, .slice none 0 0] 41)))
 clear hbn HB10
 refine (K9.t_walk15 6 _ 2 2 _).mono ?_
 rintro _ W10 ⟨rfl, hb⟩
 have HB12 := Lib.hid (below_next HB11.out hb)
 have HBN2 := Lib.hid (HBN.out.below hb HBN.out.lt)
 clear hb HB11 HBN
 go_wp2_with fail
 refine (ct.out _ _ _ HBN2.out).mono ?_
 rintro _ W11 ⟨rfl, hb⟩
 have HB13 := Lib.hid (below_next HB12.out hb)
 clear hb HB12 HBN2 ct
 obtain ⟨zm, hzm, hzml⟩ := mk_name mk hml
 rw [hzm]
 have HZM := Lib.hid hzm
 have q4 : ¬ 9223372036854775807 < zf.size + 1 + zm.size := by omega
 clear hzm
 go_wp2_with fail
 go_ret
 refine ⟨?_, HB13.out⟩
 rw [hv2.out, ← cat_mk, ← cat_mk, HZF.out, HZM.out]
 rfl
end Go.Proofs.YtieppmppdmcleaaGreatDoor
/- countersignref15.Verify. Condition: a text of at most 6000 bytes; the laid table. -/
namespace Go.Proofs.YtieppmppdmcleaaGreatDoor
open Go.RowKit Go.Maps
theorem rmany_step15 (d : Nat) (h : RValOk d) : RManyOk (d + 1) := by
 intro g s p deep kind w hR hps hdd hk
 rcases hk with rfl | rfl
 ·
  exact rmany5 d h g s p deep w hR hps hdd
 ·
  exact rmany6 d h g s p deep w hR hps hdd
theorem rval_all15 : ∀ d, RValOk d
 | 0 => rvalue_step 0 rmany0
 | d + 1 => rvalue_step (d + 1) (rmany_step15 d (rval_all15 d))
theorem rparse_er15 (s : ByteArray) (l : List UInt8) (er : Nat) (v : Jv) (hs : s.data.toList = l) (hp : parseL l = (er, v)) (hm : s.size ≤ 1000000) (w : World) : Calls Tryz.prog 35 #[.string s] w fun e w' => ∃ cs, e = .returned (.tuple #[.agg cs.toArray, .int .i64 (er : Int)]) ∧ JvV w' w.heap.size v cs ∧ Below w.heap.size w w' := by
 refine (rparse_walk (rval_all15 8) s l hs hm w).mono ?_
 rintro e w' ⟨cs, he, hv, hb⟩
 rw [hp] at he hv
 exact ⟨cs, he, hv, hb⟩
theorem rver_fail {key : Int} {l : List UInt8} {w W : World} (h : Below w.heap.size w W) (hn : verO key l = none) :
  VerR key l w (.returned (.tuple #[.agg #[.int .i64 0, .bool false, .int .i64 0, .string ⟨#[]⟩, .slice none 0 0, .slice none 0 0], .bool false])) (W.setRow w.heap.size #[.int .i64 0, .bool false, .int .i64 0, .string ⟨#[]⟩, .slice none 0 0, .slice none 0 0]) := ver_fail2 h hn
theorem rver_walk (key : Int) (s : ByteArray) (l : List UInt8) (hs : s.data.toList = l) (hm : s.size ≤ 6000) (w : World) (hT : Tab w) :
  Calls Tryz.prog 13 #[.int .i64 key, .string s] w (VerR key l w) := by
 have hb1 := alloc_below w (.cells #[.int .i64 0, .bool false, .int .i64 0, .string ⟨#[]⟩, .slice none 0 0, .slice none 0 0] 26)
 have HB1 := Lib.hid hb1
 have HK1 := Lib.hid (Blk.new w 26 #[.int .i64 0, .bool false, .int .i64 0, .string ⟨#[]⟩, .slice none 0 0, .slice none 0 0])
 have HT := Lib.hid hT
 have csp := Lib.hid (fun W => parts_walk s l hs 46 W (by omega))
 have hll : l.length = s.size := by rw [← hs, Lib.size_eq]
 have HSL := Lib.hid hs
 clear hb1 hT hs
 go_enter Tryz.func13, Tryz.ntmps13
 go_wp2_with fail
 refine (csp.out _).mono ?_
 rintro _ w2 ⟨pv, rfl, hown, hb⟩
 have HB2 := Lib.hid (below_next HB1.out hb)
 have HK2 := Lib.hid (HK1.out.below hb HK1.out.lt)
 obtain ⟨A, cp, rfl, hcp, hrd⟩ := own_reads hown (Nat.le_refl _)
 have HR2 := Lib.hid hrd
 clear hb hown csp HK1 HB1 hrd
 by_cases h3 : (splitC 46 l).length = 3
 case neg =>
  have HN : Hid (verO key l = none) := ver_no0 h3
  have e1 : (((splitC 46 l).length : Int) != 3) = true := by simp; omega
  have e2 : (((splitC 46 l).length : Int) == 3) = false := by simp; omega
  clear h3
  go_wp2_with (refine wpList_store_blk rfl 26 _ _ rfl w.heap.size _ #[.int .i64 0, .bool false, .int .i64 0, .string ⟨#[]⟩, .slice none 0 0, .slice none 0 0] 26 rfl rfl HK2.out rfl jv_size (jv_ones _ _ _ _ _ _ _ _ _ _) ?_)
  refine bodyPost_ret (results_j_t Tryz.results13 _ _ w.heap.size _ _ _ _ _ _ rfl HK2.out.setRow) rfl ?_
  exact rver_fail HB2.out HN.out
 obtain ⟨a, b, c, habc⟩ := list_three h3
 have hlen := split_lens habc
 have HABC := Lib.hid habc
 rw [habc] at HR2 hcp ⊢
 simp only [List.length_cons, List.length_nil] at HR2 hcp
 obtain ⟨b0, o0, rfl, hb0, hc0⟩ := reads_spot HR2.out (by omega)
 have cb : w2.cell? ⟨b0, o0 + 1, none⟩ = some (strV b) := hc0 1 _ rfl
 rw [strV] at cb
 obtain ⟨zb, hzb, hzbl⟩ := mk_name b (n := 6000) (by omega)
 have hzd : zb.data.toList = b := by rw [← hzb]
 rw [hzb] at cb
 have cd := Lib.hid (K9.rdec_walk zb b hzd w2 (by omega))
 clear h3 habc hc0 HR2 hzb hzd
 go_wp2_with fail
 refine cd.out.mono ?_
 rintro _ w3 ⟨hb, hc⟩
 rw [K9.B64.rdec_eq] at hc
 have HB3 := Lib.hid (below_next HB2.out hb)
 have HK3 := Lib.hid (HK2.out.below hb HK2.out.lt)
 have HT3 := Lib.hid (HT.out.below HB3.out)
 rcases hc with ⟨x, vv, hx, rfl, hown⟩ | ⟨hn, rfl⟩
 case inr =>
  have HN : Hid (verO key l = none) := ver_no1 HABC.out (by rw [hn]; trivial)
  have hcs := str_string (w := w3) (B := w3.heap.size) (n := 0) (c := 0) (A := none) (l := []) Reads.none_
  have cpa := Lib.hid (rparse_er15 ⟨#[]⟩ [] 3 jvZ rfl (by unfold parseL; rw [wordR_nil rfl]; rfl) (by decide) w3)
  clear hn hb cd
  go_wp2_with fail
  refine cpa.out.mono ?_
  rintro _ w4 ⟨cs, rfl, hv, hb⟩
  obtain ⟨k5, b5, n5, s5, N5, nn5, nc5, A5, m5, c5, rfl⟩ := hv.form
  have HB4 := Lib.hid (below_next (below_next HB3.out hb) (alloc_below w4 (.cells #[.int .i64 k5, .bool b5, .int .i64 n5, .string s5, .slice N5 nn5 nc5, .slice A5 m5 c5] 26)))
  have HK4 := Lib.hid ((HK3.out.below hb HK3.out.lt).alloc (.cells #[.int .i64 k5, .bool b5, .int .i64 n5, .string s5, .slice N5 nn5 nc5, .slice A5 m5 c5] 26))
  clear hb hv cpa
  go_wp2_with (refine wpList_store_blk rfl 26 _ _ rfl w.heap.size _ #[.int .i64 0, .bool false, .int .i64 0, .string ⟨#[]⟩, .slice none 0 0, .slice none 0 0] 26 rfl rfl HK4.out rfl jv_size (jv_ones _ _ _ _ _ _ _ _ _ _) ?_)
  refine bodyPost_ret (results_j_t Tryz.results13 _ _ w.heap.size _ _ _ _ _ _ rfl HK4.out.setRow) rfl ?_
  exact rver_fail HB4.out HN.out
 have hxl := dec_len hx
 have HX := Lib.hid hx
 obtain ⟨A2, cc, rfl, hcc, hrd⟩ := own_reads hown (Nat.le_refl _)
 have hcs := str_string (c := cc) hrd
 obtain ⟨zx, hzx, hzxl⟩ := mk_name x (n := 6000) (by omega)
 have hzd : zx.data.toList = x := by rw [← hzx]
 rw [hzx] at hcs
 obtain ⟨er, v, hpz⟩ : ∃ er z, parseL x = (er, z) := ⟨_, _, rfl⟩
 have HP := Lib.hid hpz
 have cpa := Lib.hid (rparse_er15 zx x er v hzd hpz (by omega) w3)
 clear hx hb hown hrd hzx hzd cd
 go_wp2_with fail
 refine cpa.out.mono ?_
 rintro _ w4 ⟨cs, rfl, hv, hb⟩
 obtain ⟨k5, b5, n5, s5, N5, nn5, nc5, A5, m5, c5, rfl⟩ := hv.form
 have HB4 := Lib.hid (below_next (below_next HB3.out hb) (alloc_below w4 (.cells #[.int .i64 k5, .bool b5, .int .i64 n5, .string s5, .slice N5 nn5 nc5, .slice A5 m5 c5] 26)))
 have HK4 := Lib.hid ((HK3.out.below hb HK3.out.lt).alloc (.cells #[.int .i64 k5, .bool b5, .int .i64 n5, .string s5, .slice N5 nn5 nc5, .slice A5 m5 c5] 26))
 by_cases her : er = 0
 case neg =>
  have e1 : ((er : Int) != 0) = true := by simp; omega
  have e2 : ((er : Int) == 0) = false := by simp; omega
  have HN : Hid (verO key l = none) := ver_no1 HABC.out (by rw [HX.out]; show (parseL x).1 ≠ 0; rw [HP.out]; exact her)
  clear her hb hv cpa hpz
  go_wp2_with (refine wpList_store_blk rfl 26 _ _ rfl w.heap.size _ #[.int .i64 0, .bool false, .int .i64 0, .string ⟨#[]⟩, .slice none 0 0, .slice none 0 0] 26 rfl rfl HK4.out rfl jv_size (jv_ones _ _ _ _ _ _ _ _ _ _) ?_)
  refine bodyPost_ret (results_j_t Tryz.results13 _ _ w.heap.size _ _ _ _ _ _ rfl HK4.out.setRow) rfl ?_
  exact rver_fail HB4.out HN.out
 subst her
 have hmz := parse_may hpz
 have hsz := parse_sz hpz
 have hsm := smJ_of_may v 0 hmz (by omega)
 have hyes := ver_yes (key := key) HABC.out HX.out (by rw [hpz])
 rw [hpz] at hyes
 have HYES := Lib.hid hyes
 have hvn := hv.below (alloc_below w4 (.cells #[.int .i64 k5, .bool b5, .int .i64 n5, .string s5, .slice N5 nn5 nc5, .slice A5 m5 c5] 26))
 have HBN := Lib.hid (Blk.new w4 26 #[.int .i64 k5, .bool b5, .int .i64 n5, .string s5, .slice N5 nn5 nc5, .slice A5 m5 c5])
 have HJ := Lib.hid (hvn.low (show w.heap.size + 1 ≤ w3.heap.size from HK3.out.lt))
 have csg := Lib.hid (rsign_walk key v _ _ hsm (by omega) (HT.out.below HB4.out) (hvn.low (Nat.zero_le _)))
 have hs4 := w4.heap.size
 clear hb hv cpa hpz hmz hsz hsm hyes hvn hs4
 obtain ⟨l0, l1, l2, l3, l4, l5⟩ := six_cells HBN.out
 go_wp2_with fail
 generalize w4.heap.size = gv at HBN l0 l1 l2 l3 l4 l5 ⊢
 generalize w4.alloc (.cells #[.int .i64 k5, .bool b5, .int .i64 n5, .string s5, .slice N5 nn5 nc5, .slice A5 m5 c5] 26) = W4 at HB4 HK4 HBN HJ csg l0 l1 l2 l3 l4 l5 ⊢
 refine csg.out.mono ?_
 rintro _ w5 ⟨rfl, hb⟩
 have HB5 := Lib.hid (below_next HB4.out hb)
 have HK5 := Lib.hid (HK4.out.below hb HK4.out.lt)
 have HBN5 := Lib.hid (HBN.out.below hb HBN.out.lt)
 have HJ5 := Lib.hid (HJ.out.below hb)
 clear hb csg l0 l1 l2 l3 l4 l5 HB4 HK4 HBN HJ
 obtain ⟨sl, hsl⟩ : ∃ sl, signL key v = sl := ⟨_, rfl⟩
 have HSG := Lib.hid hsl
 rw [hsl]
 obtain ⟨zs, hzs⟩ : ∃ z : ByteArray, (⟨sl.toArray⟩ : ByteArray) = z := ⟨_, rfl⟩
 have hzsl : zs.toList = sl := by rw [← hzs, ByteArray.toList_eq]
 have hsl2 : s.toList = l := by rw [ByteArray.toList_eq, HSL.out]
 rw [hzs]
 clear hsl hzs
 by_cases he : sl = l
 case neg =>
  have e1 : (zs.toList == s.toList) = false := by rw [hzsl, hsl2]; simpa using he
  have e2 : (zs.toList != s.toList) = true := by rw [hzsl, hsl2]; simpa using he
  have HN : Hid (verO key l = none) := by show _ = _; rw [HYES.out, if_neg (fun h => he (by rw [← HSG.out]; exact h.1))]
  clear hzsl hsl2 he
  go_wp2_with (refine wpList_store_blk rfl 26 _ _ rfl w.heap.size _ #[.int .i64 0, .bool false, .int .i64 0, .string ⟨#[]⟩, .slice none 0 0, .slice none 0 0] 26 rfl rfl HK5.out rfl jv_size (jv_ones _ _ _ _ _ _ _ _ _ _) ?_)
  refine bodyPost_ret (results_j_t Tryz.results13 _ _ w.heap.size _ _ _ _ _ _ rfl HK5.out.setRow) rfl ?_
  exact rver_fail HB5.out HN.out
 have e1 : (zs.toList == s.toList) = true := by rw [hzsl, hsl2, he]; simp
 have e2 : (zs.toList != s.toList) = false := by rw [hzsl, hsl2, he]; simp
 by_cases h0 : l = []
 ·
  have e3 : (s.toList == []) = true := by rw [hsl2, h0]; rfl
  have HN : Hid (verO key l = none) := by show _ = _; rw [HYES.out, if_neg (fun h => h.2 (by rw [HSG.out, he, h0]))]
  clear hzsl hsl2 he h0
  go_wp2_with (refine wpList_store_blk rfl 26 _ _ rfl w.heap.size _ #[.int .i64 0, .bool false, .int .i64 0, .string ⟨#[]⟩, .slice none 0 0, .slice none 0 0] 26 rfl rfl HK5.out rfl jv_size (jv_ones _ _ _ _ _ _ _ _ _ _) ?_)
  refine bodyPost_ret (results_j_t Tryz.results13 _ _ w.heap.size _ _ _ _ _ _ rfl HK5.out.setRow) rfl ?_
  exact rver_fail HB5.out HN.out
 ·
  have e3 : (s.toList == []) = false := by rw [hsl2]; simpa using h0
  have HV : Hid (verO key l = some v) := by show _ = _; rw [HYES.out, if_pos ⟨by rw [HSG.out, he], by rw [HSG.out, he]; exact h0⟩]
  clear hzsl hsl2 he h0
  go_wp2_with (first | refine wpList_load_at rfl 26 _ rfl ⟨gv, 0, none⟩ rfl [.int .i64 k5, .bool b5, .int .i64 n5, .string s5, .slice N5 nn5 nc5, .slice A5 m5 c5] _ (blk_cells HBN5.out) Tryz.underlying26 rfl jv_size ?_ | refine wpList_store_blk rfl 26 _ _ rfl w.heap.size _ #[.int .i64 k5, .bool b5, .int .i64 n5, .string s5, .slice N5 nn5 nc5, .slice A5 m5 c5] 26 rfl rfl HK5.out rfl jv_size (jv_ones _ _ _ _ _ _ _ _ _ _) ?_)
  refine bodyPost_ret (results_j_t Tryz.results13 _ _ w.heap.size _ _ _ _ _ _ rfl HK5.out.setRow) rfl ?_
  refine ⟨[.int .i64 k5, .bool b5, .int .i64 n5, .string s5, .slice N5 nn5 nc5, .slice A5 m5 c5], ?_, ?_, below_setRow HB5.out (Nat.le_refl _) _⟩
  ·
   rw [HV.out]; rfl
  ·
   rw [HV.out]
   exact (HJ5.out.grown (setRow_only w5 w.heap.size _) (fun q e => by injection e with e; omega)).low (Nat.le_succ _)
theorem rver_w (key : Int) (s : ByteArray) (l : List UInt8) (o : Option Jv) (ho : verO key l = o) (hs : s.data.toList = l) (hm : s.size ≤ 6000) (w : World) (hT : Tab w) :
  Calls Tryz.prog 13 #[.int .i64 key, .string s] w fun e w' => ∃ cs : List Value, e = .returned (.tuple #[.agg cs.toArray, .bool o.isSome]) ∧ JvV w' w.heap.size (o.getD jvZ) cs ∧ Below w.heap.size w w' := by
 subst ho
 exact rver_walk key s l hs hm w hT
end Go.Proofs.YtieppmppdmcleaaGreatDoor

/- jws.front, jws.Sign; countersignref15.head, countersignref15.Sign. Condition: claims that are small; the laid table. -/
import Derived.Test.YtieppmppdmcleaaGreatDoorZa
import Derived.Test.YtieppmppdmcleaaGreatDoorB6
import Derived.Lib.SmallJoins
set_option linter.unusedVariables false
set_option linter.unusedSimpArgs false
set_option maxRecDepth 20000
set_option maxHeartbeats 4000000
namespace Go.Proofs.YtieppmppdmcleaaGreatDoor
open Go.RowKit Go.Maps
theorem hd_reads (w : World) : Reads (w.alloc (.cells #[.int .u8 123, .int .u8 34, .int .u8 97, .int .u8 108, .int .u8 103, .int .u8 34, .int .u8 58, .int .u8 34, .int .u8 83, .int .u8 89, .int .u8 77, .int .u8 34, .int .u8 125] 5 (13, 14))) (w.alloc (.cells #[.int .u8 123, .int .u8 34, .int .u8 97, .int .u8 108, .int .u8 103, .int .u8 34, .int .u8 58, .int .u8 34, .int .u8 83, .int .u8 89, .int .u8 77, .int .u8 34, .int .u8 125] 5 (13, 14))).heap.size 1 (some ⟨w.heap.size, 0, none⟩) 13 (Lib.byteCells hdL) := by
 refine ⟨rfl, fun _ => ⟨_, rfl, by simp, fun j u hu => ?_⟩⟩
 rw [show ((⟨w.heap.size, 0, none⟩ : Addr).add j) = ⟨w.heap.size, j, none⟩ by unfold Addr.add; split <;> simp_all, World.cell?_alloc_mark w _ _ _ j]
 rw [show Lib.byteCells hdL = [.int .u8 123, .int .u8 34, .int .u8 97, .int .u8 108, .int .u8 103, .int .u8 34, .int .u8 58, .int .u8 34, .int .u8 83, .int .u8 89, .int .u8 77, .int .u8 34, .int .u8 125] from rfl] at hu
 simpa using hu
theorem enc_hd : (K9.B64.enc hdL).length = 18 := by rw [K9.B64.enc_length]; rfl
theorem print_le (v : Jv) (hsm : smJ v) (hsz : szJ v ≤ 10000) : (printJ v).length ≤ 280000 := by
 have := jprint_le v hsm
 unfold printJ
 split
 ·
  omega
 ·
  simp
theorem front_walk (v : Jv) (cs : List Value) (w : World) (hsm : smJ v) (hsz : szJ v ≤ 10000) (hT : Tab w) (hv : JvV w 0 v cs) :
  Calls Tryz.prog 37 #[.agg cs.toArray] w fun e w' => e = .returned (.string ⟨(frontL (printJ v)).toArray⟩) ∧ Below w.heap.size w w' := by
 obtain ⟨k1, b1, n1, s1, NA1, nn1, nc1, A1, m1, c1, rfl⟩ := hv.form
 have hb1 := alloc_below w (.cells #[.int .i64 k1, .bool b1, .int .i64 n1, .string s1, .slice NA1 nn1 nc1, .slice A1 m1 c1] 26)
 have HK := Lib.hid (blk_cells (cs := [.int .i64 k1, .bool b1, .int .i64 n1, .string s1, .slice NA1 nn1 nc1, .slice A1 m1 c1]) (Blk.new w 26 #[.int .i64 k1, .bool b1, .int .i64 n1, .string s1, .slice NA1 nn1 nc1, .slice A1 m1 c1]))
 have HKB := Lib.hid (Blk.new w 26 #[.int .i64 k1, .bool b1, .int .i64 n1, .string s1, .slice NA1 nn1 nc1, .slice A1 m1 c1])
 have HB := Lib.hid hb1
 have hpl := print_le v hsm hsz
 have cpr := Lib.hid (fun W (hb : Below w.heap.size w W) => print_walk v _ W hsm (by omega) (hT.below hb) (hv.below hb))
 have HF : Hid (frontL (printJ v) = K9.B64.enc hdL ++ [46] ++ K9.B64.enc (printJ v)) := rfl
 have hel := K9.B64.enc_length (printJ v)
 have hhl := enc_hd
 generalize frontL (printJ v) = fr at HF ⊢
 generalize printJ v = p at cpr hpl hel HF
 generalize heh : K9.B64.enc hdL = eh at HF hhl
 have HEH := Lib.hid heh
 clear hb1 hv hT hsm heh
 go_enter Tryz.func37, Tryz.ntmps37
 go_wp2_with fail
 have hcells : ∀ W, Below (w.alloc (.cells #[.int .i64 k1, .bool b1, .int .i64 n1, .string s1, .slice NA1 nn1 nc1, .slice A1 m1 c1] 26)).heap.size (w.alloc (.cells #[.int .i64 k1, .bool b1, .int .i64 n1, .string s1, .slice NA1 nn1 nc1, .slice A1 m1 c1] 26)) W → ∀ j t, ([.int .i64 k1, .bool b1, .int .i64 n1, .string s1, .slice NA1 nn1 nc1, .slice A1 m1 c1] : List Value)[j]? = some t → W.cell? ((⟨w.heap.size, 0, none⟩ : Addr).add j) = some t := fun W hb => blk_cells (cs := [.int .i64 k1, .bool b1, .int .i64 n1, .string s1, .slice NA1 nn1 nc1, .slice A1 m1 c1]) (HKB.out.below hb (by simp))
 have HC := Lib.hid hcells
 clear hcells HK
 generalize (w.alloc (.cells #[.int .i64 k1, .bool b1, .int .i64 n1, .string s1, .slice NA1 nn1 nc1, .slice A1 m1 c1] 26)) = W1 at HC HB HKB ⊢
 have HB1 := Lib.hid (Below.refl W1.heap.size W1).drew
 have hS0 := HC.out W1.drew HB1.out
 generalize hWd : W1.drew = Wd at HB1
 refine wp_region_held_drew (S := fun W => (∀ j t, ([.int .i64 k1, .bool b1, .int .i64 n1, .string s1, .slice NA1 nn1 nc1, .slice A1 m1 c1] : List Value)[j]? = some t → W.cell? ((⟨w.heap.size, 0, none⟩ : Addr).add j) = some t)) (by kernel_rfl) hS0 (fun hHeld => ?_)
 rw [hWd]
 have hHeld := HC.out Wd HB1.out
 clear hS0 hWd
 refine tk 4 rfl (v := _) (yieldsIf_load_jv (by rfl) _ rfl ⟨w.heap.size, 0, none⟩ rfl _ _ _ _ _ _ (fun w h => h)) ?_
 try simp only [nrm, Act.put]
 refine rd1 0 rfl fun K hK => ?_
 go_simp
 refine hK.out _ _ (HC.out _ (below_next HB1.out (alloc_below Wd (.cells #[.int .u8 123, .int .u8 34, .int .u8 97, .int .u8 108, .int .u8 103, .int .u8 34, .int .u8 58, .int .u8 34, .int .u8 83, .int .u8 89, .int .u8 77, .int .u8 34, .int .u8 125] 5)))) (fun hHeld2 => ?_)
 clear hK K hHeld
 have hHeld := hHeld2
 clear hHeld2
 try simp only [nrm, Act.put]
 have kc := Lib.run_convert_bytes_const (P := Tryz.prog) Wd 31 5 #[.int .u8 123, .int .u8 34, .int .u8 97, .int .u8 108, .int .u8 103, .int .u8 34, .int .u8 58, .int .u8 34, .int .u8 83, .int .u8 89, .int .u8 77, .int .u8 34, .int .u8 125] 13 13 Tryz.underlying31 Tryz.underlying5
 refine rd1 1 rfl fun K hK => ?_
 go_simp
 have HR13 := Lib.hid (hd_reads Wd)
 have HB2 := Lib.hid (below_next HB1.out (alloc_below Wd (.cells #[.int .u8 123, .int .u8 34, .int .u8 97, .int .u8 108, .int .u8 103, .int .u8 34, .int .u8 58, .int .u8 34, .int .u8 83, .int .u8 89, .int .u8 77, .int .u8 34, .int .u8 125] 5 (13, 14))))
 clear kc HB1
 refine hK.out _ _ (HC.out _ HB2.out) (fun hHeld2 => ?_)
 clear hK K hHeld
 have hHeld := hHeld2
 clear hHeld2
 try simp only [nrm, Act.put]
 generalize Wd.alloc (.cells #[.int .u8 123, .int .u8 34, .int .u8 97, .int .u8 108, .int .u8 103, .int .u8 34, .int .u8 58, .int .u8 34, .int .u8 83, .int .u8 89, .int .u8 77, .int .u8 34, .int .u8 125] 5 (13, 14)) = W2 at HB2 HR13 hHeld ⊢
 refine rd1 2 rfl fun K hK => ?_
 go_simp
 refine (K9.enc_walk _ 13 13 hdL W2 HR13.out (by decide) (by decide)).mono ?_
 rintro _ W3 ⟨rfl, hb⟩
 have HB3 := Lib.hid (below_next HB2.out hb)
 clear hb HB2 HR13
 rw [HEH.out]
 go_simp
 refine hK.out _ _ (HC.out _ HB3.out) (fun hHeld2 => ?_)
 clear hK K hHeld
 have hHeld := hHeld2
 clear hHeld2
 try simp only [nrm, Act.put]
 obtain ⟨ze, hze, hzel⟩ := mk_name eh (n := 18) (by omega)
 rw [hze]
 have q1 : ¬ 9223372036854775807 < ze.size + 1 := by omega
 refine tkr 3 rfl ?_
 try simp only [nrm, Act.put]
 refine rd1 5 rfl fun K hK => ?_
 go_simp
 refine (cpr.out W3 (below_next HB.out HB3.out)).mono ?_
 rintro _ W4 ⟨rfl, hb⟩
 have HB4 := Lib.hid (below_next HB3.out hb)
 clear hb HB3
 go_simp
 refine hK.out _ _ (HC.out _ HB4.out) (fun hHeld2 => ?_)
 clear hK K hHeld
 have hHeld := hHeld2
 clear hHeld2
 try simp only [nrm, Act.put]
 have hcv := fun w => Lib.run_convert_string_bytes (P := Tryz.prog) w 9 31 5 ⟨p.toArray⟩ Tryz.underlying9 Tryz.underlying31 Tryz.underlying5
 refine rd1 6 rfl fun K hK => ?_
 go_simp
 have HR6 := Lib.hid (BRow.new 5 W4 p).reads
 have HB5 := Lib.hid (below_next HB4.out (below_bytes 5 W4 p))
 refine hK.out _ _ (HC.out _ HB5.out) (fun hHeld2 => ?_)
 clear hK K hHeld HB4 hcv
 have hHeld := hHeld2
 clear hHeld2
 have hcp := grownCap_ge W4 p.length 0 5
 generalize grownCap W4 p.length 0 5 = cp at hcp ⊢
 generalize Lib.bytesWorld W4 5 ⟨p.toArray⟩ = W5 at HB5 HR6 hHeld ⊢
 try simp only [nrm, Act.put]
 refine rd1 7 rfl fun K hK => ?_
 go_simp
 refine (K9.enc_walk _ p.length cp p W5 HR6.out (by omega) hcp).mono ?_
 rintro _ W6 ⟨rfl, hb⟩
 have HB6 := Lib.hid (below_next HB5.out hb)
 clear hb HB5 HR6
 go_simp
 refine hK.out _ _ (HC.out _ HB6.out) (fun hHeld2 => ?_)
 clear hK K hHeld
 have hHeld := hHeld2
 clear hHeld2
 try simp only [nrm, Act.put]
 obtain ⟨zp, hzp, hzpl⟩ := mk_name (K9.B64.enc p) (n := 400000) (by omega)
 rw [hzp]
 have q2 : ¬ 9223372036854775807 < ze.size + 1 + zp.size := by omega
 refine tkr 8 rfl ?_
 try simp only [nrm, Act.put]
 refine tkr 9 rfl ?_
 try simp only [nrm, Act.put]
 refine wpAnyH_done (by kernel_rfl) ?_ _
 clear hHeld
 go_wp2_with fail
 go_ret
 refine ⟨?_, below_next HB.out HB6.out⟩
 rw [HF.out, ← hze, ← hzp]
 rw [show (⟨#[46]⟩ : ByteArray) = ⟨([46] : List UInt8).toArray⟩ from rfl, cat_mk, cat_mk]
 rfl
theorem sig_at {W : World} {b : Nat} {t : TypeId} {key : Int} {f : List UInt8} (h : Blk W b t #[.int .i64 2, .int .i64 key, .string ⟨#[]⟩, .slice none 0 0, .int .i64 1, .int .i64 0, .string ⟨f.toArray⟩, .slice none 0 0]) :
  K9.TmV W 0 (K9.sigT key f) [.int .i64 6, .int .i64 0, .string ⟨#[]⟩, .slice (some ⟨b, 0, none⟩) 2 2] := by
 rw [K9.sigT, K9.TmV]
 refine ⟨some ⟨b, 0, none⟩, 2, [[.int .i64 2, .int .i64 key, .string ⟨#[]⟩, .slice none 0 0], [.int .i64 1, .int .i64 0, .string ⟨f.toArray⟩, .slice none 0 0]], rfl, by simp, by decide, ⟨rfl, fun _ => ⟨_, rfl, h.lt, ?_⟩⟩, fun _ _ _ => Nat.zero_le _, ?_⟩
 ·
  exact blk_cells (cs := [.int .i64 2, .int .i64 key, .string ⟨#[]⟩, .slice none 0 0, .int .i64 1, .int .i64 0, .string ⟨f.toArray⟩, .slice none 0 0]) h
 ·
  rw [K9.TmsV]
  refine ⟨_, _, rfl, K9.tm_leaf _ _ _ _ _, ?_⟩
  rw [K9.TmsV]
  refine ⟨_, _, rfl, K9.tm_leaf _ _ _ _ _, ?_⟩
  rw [K9.TmsV]
theorem jv_kind {w : World} {lo : Nat} {v : Jv} {k : Int} {b : Bool} {n : Int} {s : ByteArray} {NA A : Option Addr} {nn nc m c : Nat} (h : JvV w lo v [.int .i64 k, .bool b, .int .i64 n, .string s, .slice NA nn nc, .slice A m c]) : k = v.kind := by
 cases v
 rw [JvV] at h
 obtain ⟨_, _, _, _, _, e, _⟩ := h
 injection e with e _
 injection e with _ e
def SignR (key : Int) (v : Jv) (w : World) (e : Ending) (w' : World) : Prop := e = .returned (.string ⟨(signL key v).toArray⟩) ∧ Below w.heap.size w w'
theorem sign_walk (key : Int) (v : Jv) (cs : List Value) (w : World) (hsm : smJ v) (hsz : szJ v ≤ 10000) (hT : Tab w) (hv : JvV w 0 v cs) :
  Calls Tryz.prog 15 #[.int .i64 key, .agg cs.toArray] w (SignR key v w) := by
 obtain ⟨k1, b1, n1, s1, NA1, nn1, nc1, A1, m1, c1, rfl⟩ := hv.form
 have hk := jv_kind hv
 have hb1 := alloc_below w (.cells #[.int .i64 k1, .bool b1, .int .i64 n1, .string s1, .slice NA1 nn1 nc1, .slice A1 m1 c1] 26)
 have HKB := Lib.hid (Blk.new w 26 #[.int .i64 k1, .bool b1, .int .i64 n1, .string s1, .slice NA1 nn1 nc1, .slice A1 m1 c1])
 have HB := Lib.hid hb1
 have HV := Lib.hid hv
 have HT := Lib.hid hT
 have HSM := Lib.hid hsm
 have HS : Hid (signL key v = if v.kind = 6 ∧ mayB v = true then (if K9.markT (K9.sigT key (frontL (printJ v))) = [] then [] else frontL (printJ v) ++ [46] ++ K9.markT (K9.sigT key (frontL (printJ v)))) else []) := rfl
 have hfl : (frontL (printJ v)).length ≤ 400000 := by
  have h1 := print_le v hsm hsz
  have h2 := K9.B64.enc_length (printJ v)
  have h3 := enc_hd
  rw [frontL]
  simp only [List.length_append, List.length_cons, List.length_nil]
  omega
 have hml := K9.mark_le (K9.sigT key (frontL (printJ v)))
 clear hb1 hv hT hsm
 by_cases hk6 : k1 = 6
 case neg =>
  have e1 : (k1 != 6) = true := by simp [hk6]
  have e2 : (k1 == 6) = false := by simp [hk6]
  have hv : Hid (signL key v = []) := by show _ = _; rw [HS.out, if_neg (fun h => hk6 (by rw [hk]; exact h.1))]
  obtain ⟨l0, l1, l2, l3, l4, l5⟩ := six_cells HKB.out
  clear hk6 hk
  go_enter Tryz.func15, Tryz.ntmps15
  go_wp2_with fail
  go_ret
  exact ⟨by rw [hv.out]; rfl, HB.out⟩
 subst hk6
 have hk' : v.kind = 6 := hk.symm
 have cm := Lib.hid (fun W (hb : Below w.heap.size w W) => may_walk v _ W HSM.out (HV.out.below hb))
 obtain ⟨l0, l1, l2, l3, l4, l5⟩ := six_cells HKB.out
 cases hm : mayB v
 ·
  have hv : Hid (signL key v = []) := by show _ = _; rw [HS.out, if_neg (by rw [hm]; simp)]
  rw [hm] at cm
  clear hk hk' hm
  go_enter Tryz.func15, Tryz.ntmps15
  go_wp2_with fail
  refine (cm.out _ HB.out).mono ?_
  rintro _ W2 ⟨rfl, hb⟩
  have HB2 := Lib.hid (below_next HB.out hb)
  clear hb
  go_wp2_with fail
  go_ret
  exact ⟨by rw [hv.out]; rfl, HB2.out⟩
 ·
  have hv : Hid (signL key v = if K9.markT (K9.sigT key (frontL (printJ v))) = [] then [] else frontL (printJ v) ++ [46] ++ K9.markT (K9.sigT key (frontL (printJ v)))) := by show _ = _; rw [HS.out, if_pos ⟨hk', hm⟩]
  rw [hm] at cm
  have cf := Lib.hid (fun W (hb : Below w.heap.size w W) => front_walk v _ W HSM.out hsz (HT.out.below hb) (HV.out.below hb))
  generalize frontL (printJ v) = fr at cf hv hfl hml
  obtain ⟨zf, hzf, hzfl⟩ := mk_name fr hfl
  rw [hzf] at cf
  have HZF := Lib.hid hzf
  have ct := Lib.hid (fun W b t (h : Blk W b t #[.int .i64 2, .int .i64 key, .string ⟨#[]⟩, .slice none 0 0, .int .i64 1, .int .i64 0, .string ⟨fr.toArray⟩, .slice none 0 0]) => K9.text_walk (K9.sigT key fr) 6 0 ⟨#[]⟩ _ _ _ W (sig_at h))
  rw [hzf] at ct
  generalize K9.markT (K9.sigT key fr) = mk at ct hv hml
  clear hk hk' hm HS hzf
  go_enter Tryz.func15, Tryz.ntmps15
  go_wp2_with fail
  refine (cm.out _ HB.out).mono ?_
  rintro _ W2 ⟨rfl, hb⟩
  have HB2 := Lib.hid (below_next HB.out hb)
  have HK2 := Lib.hid (HKB.out.below hb HKB.out.lt)
  clear hb l0 l1 l2 l3 l4 l5
  obtain ⟨l0, l1, l2, l3, l4, l5⟩ := six_cells HK2.out
  go_wp2_with fail
  refine (cf.out _ HB2.out).mono ?_
  rintro _ W3 ⟨rfl, hb⟩
  have HB3 := Lib.hid (below_next HB2.out hb)
  clear hb l0 l1 l2 l3 l4 l5
  go_wp2_with fail
  have hbn := Blk.new W3 41 #[.int .i64 2, .int .i64 key, .string ⟨#[]⟩, .slice none 0 0, .int .i64 1, .int .i64 0, .string zf, .slice none 0 0]
  refine (ct.out _ _ _ hbn).mono ?_
  rintro _ W4 ⟨rfl, hb⟩
  have HB4 := Lib.hid (below_next (HB3.out.alloc HB3.out.size _) hb)
  clear hb hbn
  obtain ⟨zm, hzm, hzml⟩ := mk_name mk hml
  rw [hzm]
  have HZM := Lib.hid hzm
  by_cases hmk : mk = []
  ·
   have hv2 : Hid (signL key v = []) := by show _ = _; rw [hv.out, if_pos hmk]
   have hz : zm = ⟨#[]⟩ := by rw [← hzm, hmk]
   subst hz
   clear hzm hmk
   go_wp2_with fail
   go_ret
   exact ⟨by rw [hv2.out]; rfl, HB4.out⟩
  ·
   have hv2 : Hid (signL key v = fr ++ [46] ++ mk) := by show _ = _; rw [hv.out, if_neg hmk]
   have e1 : (zm.toList == []) = false := by rw [← hzm, ByteArray.toList_eq]; simpa using hmk
   have q1 : ¬ 9223372036854775807 < zf.size + 1 := by omega
   have q2 : ¬ 9223372036854775807 < zf.size + 1 + zm.size := by omega
   clear hzm hmk
   go_wp2_with fail
   go_ret
   refine ⟨?_, HB4.out⟩
   rw [hv2.out, ← HZF.out, ← HZM.out]
   rw [← cat_mk, ← cat_mk]
   rfl
end Go.Proofs.YtieppmppdmcleaaGreatDoor

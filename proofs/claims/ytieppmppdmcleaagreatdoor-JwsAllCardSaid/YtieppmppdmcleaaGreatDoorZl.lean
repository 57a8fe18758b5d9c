/- JwsAll: of any claims and key the text; of any text the claims that it says by a key. Condition: the laid variables. -/
import Derived.Test.YtieppmppdmcleaaGreatDoorBA
import Derived.Test.YtieppmppdmcleaaGreatDoorB8
import Derived.Test.YtieppmppdmcleaaGreatDoorZn
set_option linter.unusedVariables false
set_option linter.unusedSimpArgs false
set_option maxRecDepth 20000
namespace Go.Proofs.YtieppmppdmcleaaGreatDoor
open Go.RowKit Go.Maps
theorem rsign_w (key : Int) (v : Jv) (cs : List Value) (z : ByteArray) (hz : (⟨(signL key v).toArray⟩ : ByteArray) = z) (w : World) (hsm : smJ v) (hsz : szJ v ≤ 10000) (hT : Tab w) (hv : JvV w 0 v cs) :
  Calls Tryz.prog 11 #[.int .i64 key, .agg cs.toArray] w fun e w' => e = .returned (.string z) ∧ Below w.heap.size w w' := by
 subst hz
 exact rsign_walk key v cs w hsm hsz hT hv
theorem five_at {a0 a1 a2 a3 a4 : ByteArray} (i : Nat) (hi : i < 5) (h0 : a0.size ≤ 6000) (h1 : a1.size ≤ 6000) (h2 : a2.size ≤ 6000) (h3 : a3.size ≤ 6000) (h4 : a4.size ≤ 6000) :
  ∃ y : ByteArray, (#[.string a0, .string a1, .string a2, .string a3, .string a4] : Array Value)[i]? = some (.string y) ∧ y.size ≤ 6000 := by
 match i, hi with
 | 0, _ => exact ⟨a0, rfl, h0⟩
 | 1, _ => exact ⟨a1, rfl, h1⟩
 | 2, _ => exact ⟨a2, rfl, h2⟩
 | 3, _ => exact ⟨a3, rfl, h3⟩
 | 4, _ => exact ⟨a4, rfl, h4⟩
set_option maxHeartbeats 40000000 in
theorem all15_law (raw : Jv) (csr : List Value) (zs : List Int) (A : Option Addr) (c : Nat) (key : Int) (s : ByteArray) (at_ yb : Int) (w : World) (hraw : JvV w 0 raw csr) (hok : okJ raw) (hr : IntsIn w A c zs) (hk0 : -9223372036854775808 ≤ key ∧ key ≤ 9223372036854775807) (ha0 : -9223372036854775808 ≤ at_ ∧ at_ ≤ 9223372036854775807) (hby : 0 ≤ yb ∧ yb ≤ 255) (hL : LaidB w w.heap.size) :
  Calls Tryz.prog 3 #[.slice A zs.length c, .agg csr.toArray, .int .i64 key, .string s, .int .i64 at_, .int .u8 yb] w fun e w' => e = .returned (.bool true) ∧ Below w.heap.size w w' := by
 obtain ⟨k0, b0, n0, s0, N0, nn0, nc0, A0, m0, c0, rfl⟩ := hraw.form
 have HR := Lib.hid hr
 have HOK := Lib.hid hok
 obtain ⟨yn, rfl⟩ := Int.eq_ofNat_of_zero_le hby.1
 have hyn : yn ≤ 255 := by omega
 have cwk := Lib.hid (fun W => within15_walk key 50 W (by decide) (by decide) hk0)
 have HA0 := Lib.hid ha0
 obtain ⟨K, hK, hK1, hK2⟩ : ∃ K, key % 50 = K ∧ 0 ≤ K ∧ K < 50 := ⟨_, rfl, Int.emod_nonneg _ (by decide), Int.emod_lt_of_pos _ (by decide)⟩
 rw [hK] at cwk
 have hK3 : 0 ≤ K ∧ K ≤ 1073741824 := by omega
 have HK3 := Lib.hid hK3
 have HA := Lib.hid ((show StA w [] [] w from ⟨hL, Below.refl _ _, fun p hp => by simp at hp, fun p hp => by simp at hp⟩).value hraw)
 clear hL hr hby hk0 ha0 hK hK1 hK2 hK3 hraw hok
 go_enter Tryz.func3, Tryz.ntmps3
 go_wp2_with fail
 generalize w.heap.size = g0 at HA ⊢
 generalize w.alloc (.cells #[.int .i64 k0, .bool b0, .int .i64 n0, .string s0, .slice N0 nn0 nc0, .slice A0 m0 c0] 26) = W0 at HA ⊢
 refine (known15_walk W0 HA.out.laid).mono ?_
 rintro _ w1 ⟨rfl, hS1⟩
 have HA1 := Lib.hid (HA.out.next hS1.below)
 clear hS1 HA
 go_wp2_with (refine wpList_load_at rfl 26 _ rfl ⟨g0, 0, none⟩ rfl [.int .i64 k0, .bool b0, .int .i64 n0, .string s0, .slice N0 nn0 nc0, .slice A0 m0 c0] _ (HA1.out.cells (g := g0) (v := raw) (cs := [.int .i64 k0, .bool b0, .int .i64 n0, .string s0, .slice N0 nn0 nc0, .slice A0 m0 c0]) (by simp)) Tryz.underlying26 rfl jv_size ?_)
 refine (fewj_all raw _ 2000 w1 (by decide) HOK.out (HA1.out.vals (g0, raw, [.int .i64 k0, .bool b0, .int .i64 n0, .string s0, .slice N0 nn0 nc0, .slice A0 m0 c0]) (by simp)).2).mono ?_
 rintro _ w2 ⟨⟨n, rfl, hn3, hn⟩, hb2⟩
 have HA2 := Lib.hid (HA1.out.next hb2)
 clear hb2 HA1
 by_cases hn0 : n < 0
 ·
  go_wp2_with fail
  go_ret
  exact ⟨rfl, HA2.out.below⟩
 have hsz := hn (by omega)
 have HSR := Lib.hid (smJ_ok raw HOK.out (by omega))
 have hszr : szJ raw ≤ 2000 := by omega
 clear hn hsz
 by_cases hx : s.size ≤ 400
 case neg =>
  have d1 : decide ((400 : Int) < (s.size : Int)) = true := by simp; omega
  have d2 : decide (400 < s.size) = true := by simp; omega
  have d3 : 400 < s.size := by omega
  go_wp2_with fail
  go_ret
  exact ⟨rfl, HA2.out.below⟩
 have d1 : decide ((400 : Int) < (s.size : Int)) = false := by simp; omega
 have d2 : decide (400 < s.size) = false := by simp; omega
 have d3 : ¬ 400 < s.size := by omega
 go_wp2_with fail
 refine (claims_walk zs A c w2 (HR.out.below HA2.out.below)).mono ?_
 rintro _ w3 ⟨u, v, cs, rfl, hcl, hfu, hfv, hb⟩
 obtain ⟨k1, b1, n1, s1, N1, nn1, nc1, A1, m1, c1, rfl⟩ := hcl.form
 have hsm := cl_sm hfu hfv
 have hsz := cl_sz hfu hfv
 have hne := cl_sign hfu hfv HK3.out.1 HK3.out.2
 have HA3 := Lib.hid ((HA2.out.next hb).value hcl)
 generalize clJ u v = C at hsm hsz hne HA3
 clear hfu hfv hcl hb HA2 HR
 obtain ⟨S, hS⟩ : ∃ S, signL K C = S := ⟨_, rfl⟩
 have hSl := sign_len K C
 have hS0 : 0 < S.length := by rw [← hS]; exact List.length_pos_iff.2 hne
 rw [hS] at hSl
 obtain ⟨zs', hzs, hzl⟩ := mk_name S (n := 3000) hSl
 obtain ⟨zk, hzk, hzkl⟩ := mk_name (signL key C) (n := 3000) (sign_len key C)
 obtain ⟨zr, hzr, hzrl⟩ := mk_name (signL K raw) (n := 3000) (sign_len K raw)
 have hzz : zs'.size = S.length := by rw [← hzs, size_mks]
 have Cs1 := Lib.hid (fun W (hT : Tab W) cs (hv : JvV W 0 C cs) => sign_w K C cs zs' (by rw [hS]; exact hzs) W hsm (by omega) hT hv)
 have Rs1 := Lib.hid (fun W (hT : Tab W) cs (hv : JvV W 0 C cs) => rsign_w K C cs zs' (by rw [hS]; exact hzs) W hsm (by omega) hT hv)
 have Cs2 := Lib.hid (fun W (hT : Tab W) cs (hv : JvV W 0 C cs) => sign_w key C cs zk hzk W hsm (by omega) hT hv)
 have Rs2 := Lib.hid (fun W (hT : Tab W) cs (hv : JvV W 0 C cs) => rsign_w key C cs zk hzk W hsm (by omega) hT hv)
 have Cs3 := Lib.hid (fun W (hT : Tab W) cs (hv : JvV W 0 raw cs) => sign_w K raw cs zr hzr W HSR.out (by omega) hT hv)
 have Rs3 := Lib.hid (fun W (hT : Tab W) cs (hv : JvV W 0 raw cs) => rsign_w K raw cs zr hzr W HSR.out (by omega) hT hv)
 have HZS := Lib.hid hzs
 clear hsm hsz hne hS hzs hzk hzr
 go_wp2_with fail
 refine (cwk.out _).mono ?_
 rintro _ _ ⟨rfl, rfl⟩
 clear cwk
 generalize w3.heap.size = gc at HA3 ⊢
 generalize w3.alloc (.cells #[.int .i64 k1, .bool b1, .int .i64 n1, .string s1, .slice N1 nn1 nc1, .slice A1 m1 c1] 26) = W3 at HA3 ⊢
 go_wp2_with (refine wpList_load_at rfl 26 _ rfl ⟨gc, 0, none⟩ rfl [.int .i64 k1, .bool b1, .int .i64 n1, .string s1, .slice N1 nn1 nc1, .slice A1 m1 c1] _ (HA3.out.cells (g := gc) (v := C) (cs := [.int .i64 k1, .bool b1, .int .i64 n1, .string s1, .slice N1 nn1 nc1, .slice A1 m1 c1]) (by simp)) Tryz.underlying26 rfl jv_size ?_)
 refine (Rs1.out W3 HA3.out.laid.tab _ (HA3.out.vals (gc, C, [.int .i64 k1, .bool b1, .int .i64 n1, .string s1, .slice N1 nn1 nc1, .slice A1 m1 c1]) (by simp)).2).mono ?_
 rintro _ W6 ⟨rfl, hb⟩
 have HA6 := Lib.hid (HA3.out.next hb)
 clear hb HA3
 have hcv := fun w => Lib.run_convert_string_bytes (P := Tryz.prog) w 9 31 5 zs' Tryz.underlying9 Tryz.underlying31 Tryz.underlying5
 obtain ⟨k, hk, ek⟩ : ∃ k : Nat, k < S.length ∧ at_ % (S.length : Int) = k := ⟨(at_ % (S.length : Int)).toNat, by have := Int.emod_nonneg at_ (show (S.length : Int) ≠ 0 by omega); have := Int.emod_lt_of_pos at_ (show (0 : Int) < (S.length : Int) by omega); omega, by have := Int.emod_nonneg at_ (show (S.length : Int) ≠ 0 by omega); have := Int.emod_lt_of_pos at_ (show (0 : Int) < (S.length : Int) by omega); omega⟩
 have cw := Lib.hid (fun W => within15_walk at_ (S.length : Int) W (by omega) (by omega) HA0.out)
 rw [ek] at cw
 have hbr := BRow.new 5 W6 S
 have hbb := below_bytes 5 W6 S
 rw [HZS.out] at hbr hbb
 have HA7 : Hid (∀ x : Int, StA w [(gc, C, [.int .i64 k1, .bool b1, .int .i64 n1, .string s1, .slice N1 nn1 nc1, .slice A1 m1 c1]), (g0, raw, [.int .i64 k0, .bool b0, .int .i64 n0, .string s0, .slice N0 nn0 nc0, .slice A0 m0 c0])] [] ((Lib.bytesWorld W6 5 zs').setCell ⟨W6.heap.size, k, none⟩ (.int .u8 x))) := fun x => HA6.out.next (hbb.setCell (Nat.le_refl _) _)
 have HBR := Lib.hid hbr
 have hgl : W6.heap.size < (Lib.bytesWorld W6 5 zs').heap.size := hbr.lt
 clear hbr hbb HA6 ek
 have hkz : k < zs'.size := by omega
 go_upto_region 8 with fail
 generalize Lib.bytesWorld W6 5 zs' = W7 at HA7 HBR hgl ⊢
 generalize grownCap W6 S.length 0 5 = cp
 generalize W6.heap.size = gb at HBR hgl HA7 ⊢
 clear hcv
 obtain ⟨x0, hx0⟩ : ∃ x0 : Nat, (S.getD k 0).toNat = x0 := ⟨_, rfl⟩
 have hx2 : x0 < 256 := by rw [← hx0]; exact (S.getD k 0).toNat_lt
 have hcx := HBR.out.cell hk
 have hfx := HBR.out.frozen hk
 rw [hx0] at hcx
 obtain ⟨z, hz, hzl'⟩ : ∃ z : Nat, bits .xor .u8 (x0 : Int) (yn : Int) = (z : Int) ∧ z < 256 := ⟨_, u8_xor_nat x0 yn hx2 (by omega), Nat.xor_lt_two_pow (n := 8) hx2 (by omega)⟩
 have hbs := HBR.out.set_ hk z hzl'
 have hrd := hbs.reads
 have hyl : (S.set k (UInt8.ofNat z)).length = S.length := by simp
 generalize S.set k (UInt8.ofNat z) = Y at hrd hyl
 obtain ⟨zy, hzy, hzyl⟩ := mk_name Y (n := 3000) (by omega)
 rw [hyl] at hrd
 have HSB : Hid (∀ W, Below (W7.setCell ⟨gb, k, none⟩ (.int .u8 (z : Int))).heap.size (W7.setCell ⟨gb, k, none⟩ (.int .u8 (z : Int))) W → (convert 31 9 (.slice (some ⟨gb, 0, none⟩) S.length cp)).run Tryz.prog W = .ok (.string zy) W) := fun W h => by
  rw [← hzy]
  exact str_string (c := cp) (hrd.below h)
 have HA8 := Lib.hid (HA7.out (z : Int))
 clear hrd hbs hx0 hzy HA7 HBR hyl
 go_wp2_with fail
 refine (cw.out _).mono ?_
 rintro _ _ ⟨rfl, rfl⟩
 go_upto_region 9 with fail
 generalize W7.setCell ⟨gb, k, none⟩ (.int .u8 (z : Int)) = W8 at HA8 HSB ⊢
 clear hcx hfx hz cw
 have HA9 := Lib.hid (HA8.out.next (Below.refl W8.heap.size W8).drew)
 have HB9 := Lib.hid (Below.refl W8.heap.size W8).drew
 generalize hW9 : W8.drew = W9 at HA9 HB9
 have HH : Hid (∀ M W, StA w [(gc, C, [.int .i64 k1, .bool b1, .int .i64 n1, .string s1, .slice N1 nn1 nc1, .slice A1 m1 c1]), (g0, raw, [.int .i64 k0, .bool b0, .int .i64 n0, .string s0, .slice N0 nn0 nc0, .slice A0 m0 c0])] M W → Below W8.heap.size W8 W → ((convert 31 9 (.slice (some ⟨gb, 0, none⟩) S.length cp)).run Tryz.prog W = .ok (.string zy) W) ∧ (∀ j t, ([.int .i64 k1, .bool b1, .int .i64 n1, .string s1, .slice N1 nn1 nc1, .slice A1 m1 c1] : List Value)[j]? = some t → W.cell? ((⟨gc, 0, none⟩ : Addr).add j) = some t) ∧ (∀ j t, ([.int .i64 k0, .bool b0, .int .i64 n0, .string s0, .slice N0 nn0 nc0, .slice A0 m0 c0] : List Value)[j]? = some t → W.cell? ((⟨g0, 0, none⟩ : Addr).add j) = some t)) := fun M W h hb => ⟨HSB.out W hb, h.cells (g := gc) (v := C) (by simp), h.cells (g := g0) (v := raw) (by simp)⟩
 have HVC : Hid (∀ M W, StA w [(gc, C, [.int .i64 k1, .bool b1, .int .i64 n1, .string s1, .slice N1 nn1 nc1, .slice A1 m1 c1]), (g0, raw, [.int .i64 k0, .bool b0, .int .i64 n0, .string s0, .slice N0 nn0 nc0, .slice A0 m0 c0])] M W → JvV W 0 C [.int .i64 k1, .bool b1, .int .i64 n1, .string s1, .slice N1 nn1 nc1, .slice A1 m1 c1]) := fun M W h => (h.vals (gc, C, [.int .i64 k1, .bool b1, .int .i64 n1, .string s1, .slice N1 nn1 nc1, .slice A1 m1 c1]) (by simp)).2
 have HVR : Hid (∀ M W, StA w [(gc, C, [.int .i64 k1, .bool b1, .int .i64 n1, .string s1, .slice N1 nn1 nc1, .slice A1 m1 c1]), (g0, raw, [.int .i64 k0, .bool b0, .int .i64 n0, .string s0, .slice N0 nn0 nc0, .slice A0 m0 c0])] M W → JvV W 0 raw [.int .i64 k0, .bool b0, .int .i64 n0, .string s0, .slice N0 nn0 nc0, .slice A0 m0 c0]) := fun M W h => (h.vals (g0, raw, [.int .i64 k0, .bool b0, .int .i64 n0, .string s0, .slice N0 nn0 nc0, .slice A0 m0 c0]) (by simp)).2
 have hS0 := HH.out _ _ HA9.out HB9.out
 rw [← hW9] at hS0
 refine wp_region_held_drew (S := fun W => ((convert 31 9 (.slice (some ⟨gb, 0, none⟩) S.length cp)).run Tryz.prog W = .ok (.string zy) W) ∧ (∀ j t, ([.int .i64 k1, .bool b1, .int .i64 n1, .string s1, .slice N1 nn1 nc1, .slice A1 m1 c1] : List Value)[j]? = some t → W.cell? ((⟨gc, 0, none⟩ : Addr).add j) = some t) ∧ (∀ j t, ([.int .i64 k0, .bool b0, .int .i64 n0, .string s0, .slice N0 nn0 nc0, .slice A0 m0 c0] : List Value)[j]? = some t → W.cell? ((⟨g0, 0, none⟩ : Addr).add j) = some t)) (by kernel_rfl) hS0 (fun hHeld => ?_)
 rw [hW9]
 clear hS0 hW9
 have hHeld := HH.out _ _ HA9.out HB9.out
 refine tk 2 rfl (v := _) (yieldsIf_load_jv (by rfl) _ rfl ⟨gc, 0, none⟩ rfl _ _ _ _ _ _ (fun w h => h.2.1)) ?_
 try simp only [nrm, Act.put]
 refine tk 7 rfl (v := _) (yieldsIf_load_jv (by rfl) _ rfl ⟨gc, 0, none⟩ rfl _ _ _ _ _ _ (fun w h => h.2.1)) ?_
 try simp only [nrm, Act.put]
 refine tk 12 rfl (v := _) (yieldsIf_load_jv (by rfl) _ rfl ⟨g0, 0, none⟩ rfl _ _ _ _ _ _ (fun w h => h.2.2)) ?_
 try simp only [nrm, Act.put]
 refine tkr 0 rfl ?_
 try simp only [nrm, Act.put]
 refine tkr 1 rfl ?_
 try simp only [nrm, Act.put]
 refine tkr 4 rfl ?_
 try simp only [nrm, Act.put]
 refine tkr 6 rfl ?_
 try simp only [nrm, Act.put]
 refine tkr 9 rfl ?_
 try simp only [nrm, Act.put]
 refine tkr 11 rfl ?_
 try simp only [nrm, Act.put]
 refine tkr 5 rfl ?_
 try simp only [nrm, Act.put]
 refine rd1 3 rfl fun K hK => ?_
 go_simp
 refine (Rs1.out W9 HA9.out.laid.tab _ (HVC.out _ _ HA9.out)).mono ?_
 rintro _ W10 ⟨rfl, hb⟩
 go_simp
 replace HA9 := Lib.hid (HA9.out.next hb)
 replace HB9 := Lib.hid (below_next HB9.out hb)
 have hS1 := HH.out _ _ HA9.out HB9.out
 refine hK.out _ _ hS1 (fun hHeld2 => ?_)
 clear hK K hb hS1 hHeld
 have hHeld := hHeld2
 clear hHeld2
 try simp only [nrm, Act.put]
 refine rd1 8 rfl fun K hK => ?_
 go_simp
 refine (Rs1.out W10 HA9.out.laid.tab _ (HVC.out _ _ HA9.out)).mono ?_
 rintro _ W11 ⟨rfl, hb⟩
 go_simp
 replace HA9 := Lib.hid (HA9.out.next hb)
 replace HB9 := Lib.hid (below_next HB9.out hb)
 have hS1 := HH.out _ _ HA9.out HB9.out
 refine hK.out _ _ hS1 (fun hHeld2 => ?_)
 clear hK K hb hS1 hHeld
 have hHeld := hHeld2
 clear hHeld2
 try simp only [nrm, Act.put]
 have u1 : ¬ 9223372036854775807 < zs'.size + s.size := by omega
 have u2 : ¬ 9223372036854775807 < S.length + s.size := by omega
 refine tkr 10 rfl ?_
 try simp only [nrm, Act.put]
 refine rd1 13 rfl fun K hK => ?_
 go_simp
 refine (Rs3.out W11 HA9.out.laid.tab _ (HVR.out _ _ HA9.out)).mono ?_
 rintro _ W12 ⟨rfl, hb⟩
 go_simp
 replace HA9 := Lib.hid (HA9.out.next hb)
 replace HB9 := Lib.hid (below_next HB9.out hb)
 have hS1 := HH.out _ _ HA9.out HB9.out
 refine hK.out _ _ hS1 (fun hHeld2 => ?_)
 clear hK K hb hS1 hHeld
 have hHeld := hHeld2
 clear hHeld2
 try simp only [nrm, Act.put]
 refine rd1 14 rfl fun K hK => ?_
 go_simp
 obtain ⟨y3, hy3, hy3s⟩ : ∃ y : ByteArray, zs' ++ s = y ∧ y.size ≤ 6000 := ⟨_, rfl, by simp only [ByteArray.size_append]; omega⟩
 rw [hy3]
 clear hy3
 have HB := Lib.hid (HA9.out.block 9 #[.string s, .string zs', .string zy, .string y3, .string zr])
 replace HB9 := Lib.hid (HB9.out.alloc HB9.out.size (.cells #[.string s, .string zs', .string zy, .string y3, .string zr] 9))
 have hS1 := HH.out _ _ HB.out HB9.out
 refine hK.out _ _ hS1 (fun hHeld2 => ?_)
 clear hK K hS1 hHeld HA9 HB9 HSB HH
 have hHeld := hHeld2
 clear hHeld2
 try simp only [nrm, Act.put]
 refine tkr 15 rfl ?_
 try simp only [nrm, Act.put]
 refine wpAnyH_done (by kernel_rfl) ?_ _
 generalize W12.alloc (.cells #[.string s, .string zs', .string zy, .string y3, .string zr] 9) = W13 at HB ⊢
 generalize W12.heap.size = gl at HB ⊢
 clear u1 u2 hHeld
 go_wp2_with fail
 go_loopw [17] (fun iv wr => ∃ i : Nat, i ≤ 5 ∧ iv = .int .i64 i ∧ Hid (StA w [(gc, C, [.int .i64 k1, .bool b1, .int .i64 n1, .string s1, .slice N1 nn1 nc1, .slice A1 m1 c1]), (g0, raw, [.int .i64 k0, .bool b0, .int .i64 n0, .string s0, .slice N0 nn0 nc0, .slice A0 m0 c0])] [(gl, 9, #[.string s, .string zs', .string zy, .string y3, .string zr])] wr)) (fun iv _ => 5 - (intOf iv).toNat)
 case atStart => exact ⟨0, by omega, rfl, HB⟩
 case round =>
  clear HB
  obtain ⟨i, hi8, rfl, HA⟩ := hrel
  by_cases hi' : i < 5
  case neg =>
   have gi : decide ((i : Int) < 5) = false := by simp; omega
   have gi' : decide (i < 5) = false := by simp; omega
   go_upto_region 19 with fail
   have HA8 := Lib.hid (HA.out.next (Below.refl wr.heap.size wr).drew)
   clear HA
   generalize hW8 : wr.drew = W8 at HA8
   have HH : Hid (∀ M W, StA w [(gc, C, [.int .i64 k1, .bool b1, .int .i64 n1, .string s1, .slice N1 nn1 nc1, .slice A1 m1 c1]), (g0, raw, [.int .i64 k0, .bool b0, .int .i64 n0, .string s0, .slice N0 nn0 nc0, .slice A0 m0 c0])] M W → (∀ j t, ([.int .i64 k1, .bool b1, .int .i64 n1, .string s1, .slice N1 nn1 nc1, .slice A1 m1 c1] : List Value)[j]? = some t → W.cell? ((⟨gc, 0, none⟩ : Addr).add j) = some t) ∧ (∀ j t, ([.int .i64 k0, .bool b0, .int .i64 n0, .string s0, .slice N0 nn0 nc0, .slice A0 m0 c0] : List Value)[j]? = some t → W.cell? ((⟨g0, 0, none⟩ : Addr).add j) = some t)) := fun M W h => ⟨h.cells (g := gc) (v := C) (by simp), h.cells (g := g0) (v := raw) (by simp)⟩
   have hS0 := HH.out _ _ HA8.out
   rw [← hW8] at hS0
   refine wp_region_held_drew (S := fun W => (∀ j t, ([.int .i64 k1, .bool b1, .int .i64 n1, .string s1, .slice N1 nn1 nc1, .slice A1 m1 c1] : List Value)[j]? = some t → W.cell? ((⟨gc, 0, none⟩ : Addr).add j) = some t) ∧ (∀ j t, ([.int .i64 k0, .bool b0, .int .i64 n0, .string s0, .slice N0 nn0 nc0, .slice A0 m0 c0] : List Value)[j]? = some t → W.cell? ((⟨g0, 0, none⟩ : Addr).add j) = some t)) (by kernel_rfl) hS0 (fun hHeld => ?_)
   rw [hW8]
   clear hS0 hW8
   have hHeld := HH.out _ _ HA8.out
   refine tk 1 rfl (v := _) (yieldsIf_load_jv (by rfl) _ rfl ⟨gc, 0, none⟩ rfl _ _ _ _ _ _ (fun w h => h.1)) ?_
   try simp only [nrm, Act.put]
   refine tk 4 rfl (v := _) (yieldsIf_load_jv (by rfl) _ rfl ⟨gc, 0, none⟩ rfl _ _ _ _ _ _ (fun w h => h.1)) ?_
   try simp only [nrm, Act.put]
   refine tkr 0 rfl ?_
   try simp only [nrm, Act.put]
   refine tkr 3 rfl ?_
   try simp only [nrm, Act.put]
   refine rd1 2 rfl fun K hK => ?_
   go_simp
   refine (Cs1.out W8 HA8.out.laid.tab _ (HVC.out _ _ HA8.out)).mono ?_
   rintro _ W9e ⟨rfl, hb⟩
   go_simp
   replace HA8 := Lib.hid (HA8.out.next hb)
   have hS1 := HH.out _ _ HA8.out
   refine hK.out _ _ hS1 (fun hHeld2 => ?_)
   clear hK K hb hS1 hHeld
   have hHeld := hHeld2
   clear hHeld2
   try simp only [nrm, Act.put]
   refine rd1 5 rfl fun K hK => ?_
   go_simp
   refine (Rs1.out W9e HA8.out.laid.tab _ (HVC.out _ _ HA8.out)).mono ?_
   rintro _ W10e ⟨rfl, hb⟩
   go_simp
   replace HA8 := Lib.hid (HA8.out.next hb)
   have hS1 := HH.out _ _ HA8.out
   refine hK.out _ _ hS1 (fun hHeld2 => ?_)
   clear hK K hb hS1 hHeld
   have hHeld := hHeld2
   clear hHeld2
   try simp only [nrm, Act.put]
   refine tkr 6 rfl ?_
   try simp only [nrm, Act.put]
   refine tkr 7 rfl ?_
   try simp only [nrm, Act.put]
   refine tk 9 rfl (v := _) (yieldsIf_load_jv (by rfl) _ rfl ⟨gc, 0, none⟩ rfl _ _ _ _ _ _ (fun w h => h.1)) ?_
   try simp only [nrm, Act.put]
   refine tk 12 rfl (v := _) (yieldsIf_load_jv (by rfl) _ rfl ⟨gc, 0, none⟩ rfl _ _ _ _ _ _ (fun w h => h.1)) ?_
   try simp only [nrm, Act.put]
   refine tkr 8 rfl ?_
   try simp only [nrm, Act.put]
   refine tkr 11 rfl ?_
   try simp only [nrm, Act.put]
   refine rd1 10 rfl fun K hK => ?_
   go_simp
   refine (Cs2.out W10e HA8.out.laid.tab _ (HVC.out _ _ HA8.out)).mono ?_
   rintro _ W11e ⟨rfl, hb⟩
   go_simp
   replace HA8 := Lib.hid (HA8.out.next hb)
   have hS1 := HH.out _ _ HA8.out
   refine hK.out _ _ hS1 (fun hHeld2 => ?_)
   clear hK K hb hS1 hHeld
   have hHeld := hHeld2
   clear hHeld2
   try simp only [nrm, Act.put]
   refine rd1 13 rfl fun K hK => ?_
   go_simp
   refine (Rs2.out W11e HA8.out.laid.tab _ (HVC.out _ _ HA8.out)).mono ?_
   rintro _ W12e ⟨rfl, hb⟩
   go_simp
   replace HA8 := Lib.hid (HA8.out.next hb)
   have hS1 := HH.out _ _ HA8.out
   refine hK.out _ _ hS1 (fun hHeld2 => ?_)
   clear hK K hb hS1 hHeld
   have hHeld := hHeld2
   clear hHeld2
   try simp only [nrm, Act.put]
   refine tkr 14 rfl ?_
   try simp only [nrm, Act.put]
   refine tkr 15 rfl ?_
   try simp only [nrm, Act.put]
   refine tkr 16 rfl ?_
   try simp only [nrm, Act.put]
   refine tk 18 rfl (v := _) (yieldsIf_load_jv (by rfl) _ rfl ⟨g0, 0, none⟩ rfl _ _ _ _ _ _ (fun w h => h.2)) ?_
   try simp only [nrm, Act.put]
   refine tk 21 rfl (v := _) (yieldsIf_load_jv (by rfl) _ rfl ⟨g0, 0, none⟩ rfl _ _ _ _ _ _ (fun w h => h.2)) ?_
   try simp only [nrm, Act.put]
   refine tkr 17 rfl ?_
   try simp only [nrm, Act.put]
   refine tkr 20 rfl ?_
   try simp only [nrm, Act.put]
   refine rd1 19 rfl fun K hK => ?_
   go_simp
   refine (Cs3.out W12e HA8.out.laid.tab _ (HVR.out _ _ HA8.out)).mono ?_
   rintro _ W13e ⟨rfl, hb⟩
   go_simp
   replace HA8 := Lib.hid (HA8.out.next hb)
   have hS1 := HH.out _ _ HA8.out
   refine hK.out _ _ hS1 (fun hHeld2 => ?_)
   clear hK K hb hS1 hHeld
   have hHeld := hHeld2
   clear hHeld2
   try simp only [nrm, Act.put]
   refine rd1 22 rfl fun K hK => ?_
   go_simp
   refine (Rs3.out W13e HA8.out.laid.tab _ (HVR.out _ _ HA8.out)).mono ?_
   rintro _ W14e ⟨rfl, hb⟩
   go_simp
   replace HA8 := Lib.hid (HA8.out.next hb)
   have hS1 := HH.out _ _ HA8.out
   refine hK.out _ _ hS1 (fun hHeld2 => ?_)
   clear hK K hb hS1 hHeld
   have hHeld := hHeld2
   clear hHeld2
   try simp only [nrm, Act.put]
   refine tkr 23 rfl ?_
   try simp only [nrm, Act.put]
   refine tkr 24 rfl ?_
   try simp only [nrm, Act.put]
   refine tkr 25 rfl ?_
   try simp only [nrm, Act.put]
   refine wpAnyH_done (by kernel_rfl) ?_ _
   clear hHeld
   go_wp2_with fail
   go_ret
   exact ⟨rfl, HA8.out.below⟩
  have gi : decide ((i : Int) < 5) = true := by simp; omega
  have gi' : decide (i < 5) = true := by simp; omega
  have giI : (i : Int) < 5 := by omega
  obtain ⟨y, hy, hys⟩ := five_at i hi' (a0 := s) (a1 := zs') (a2 := zy) (a3 := y3) (a4 := zr) (by omega) (by omega) (by omega) (by omega) (by omega)
  have HY := Lib.hid hy
  obtain ⟨o1, ho1⟩ : ∃ o, verO K y.data.toList = o := ⟨_, rfl⟩
  obtain ⟨o2, ho2⟩ : ∃ o, verO key y.data.toList = o := ⟨_, rfl⟩
  obtain ⟨q1, hq1⟩ : ∃ q, o1.isSome = q := ⟨_, rfl⟩
  obtain ⟨q2, hq2⟩ : ∃ q, o2.isSome = q := ⟨_, rfl⟩
  obtain ⟨x1, hx1⟩ : ∃ q, o1.getD jvZ = q := ⟨_, rfl⟩
  obtain ⟨x2, hx2'⟩ : ∃ q, o2.getD jvZ = q := ⟨_, rfl⟩
  have V1 := Lib.hid (fun W hL => ver_w K y _ _ ho1 rfl hys W hL)
  have U1 := Lib.hid (fun W hT => rver_w K y _ _ ho1 rfl hys W hT)
  have V2 := Lib.hid (fun W hL => ver_w key y _ _ ho2 rfl hys W hL)
  have U2 := Lib.hid (fun W hT => rver_w key y _ _ ho2 rfl hys W hT)
  rw [hq1, hx1] at V1 U1
  rw [hq2, hx2'] at V2 U2
  clear hy ho1 ho2 hq1 hq2 hx1 hx2'
  have hcy : wr.cell? ⟨gl, i, none⟩ = some (.string y) := ((HA.out.blks (gl, 9, #[.string s, .string zs', .string zy, .string y3, .string zr]) (by simp)).cell i).trans HY.out
  go_wp2_with fail
  refine (V1.out wr HA.out.laid).mono ?_
  rintro _ v2 ⟨cs2, rfl, hv2, hb2⟩
  obtain ⟨k2, b2, n2, s2, N2, nn2, nc2, A2, m2, c2, rfl⟩ := hv2.form
  have HV2 := Lib.hid ((HA.out.next hb2).value hv2)
  clear hb2 hv2 HA hcy V1
  have hcy : (v2.alloc (.cells #[.int .i64 k2, .bool b2, .int .i64 n2, .string s2, .slice N2 nn2 nc2, .slice A2 m2 c2] 26)).cell? ⟨gl, i, none⟩ = some (.string y) := ((HV2.out.blks (gl, 9, #[.string s, .string zs', .string zy, .string y3, .string zr]) (by simp)).cell i).trans HY.out
  go_upto_region 14 with fail
  generalize v2.heap.size = h2 at HV2 hcy ⊢
  generalize v2.alloc (.cells #[.int .i64 k2, .bool b2, .int .i64 n2, .string s2, .slice N2 nn2 nc2, .slice A2 m2 c2] 26) = W2v at HV2 hcy ⊢
  go_wp2_with fail
  refine (U1.out W2v HV2.out.laid.tab).mono ?_
  rintro _ v3 ⟨cs3, rfl, hv3, hb3⟩
  obtain ⟨k3, b3, n3, s3, N3, nn3, nc3, A3, m3, c3, rfl⟩ := hv3.form
  have HV3 := Lib.hid ((HV2.out.next hb3).value hv3)
  clear hb3 hv3 HV2 hcy U1
  have hcy : (v3.alloc (.cells #[.int .i64 k3, .bool b3, .int .i64 n3, .string s3, .slice N3 nn3 nc3, .slice A3 m3 c3] 26)).cell? ⟨gl, i, none⟩ = some (.string y) := ((HV3.out.blks (gl, 9, #[.string s, .string zs', .string zy, .string y3, .string zr]) (by simp)).cell i).trans HY.out
  go_upto_region 15 with fail
  generalize v3.heap.size = h3 at HV3 hcy ⊢
  generalize v3.alloc (.cells #[.int .i64 k3, .bool b3, .int .i64 n3, .string s3, .slice N3 nn3 nc3, .slice A3 m3 c3] 26) = W3v at HV3 hcy ⊢
  go_wp2_with fail
  refine (V2.out W3v HV3.out.laid).mono ?_
  rintro _ v4 ⟨cs4, rfl, hv4, hb4⟩
  obtain ⟨k4, b4, n4, s4, N4, nn4, nc4, A4, m4, c4, rfl⟩ := hv4.form
  have HV4 := Lib.hid ((HV3.out.next hb4).value hv4)
  clear hb4 hv4 HV3 hcy V2
  have hcy : (v4.alloc (.cells #[.int .i64 k4, .bool b4, .int .i64 n4, .string s4, .slice N4 nn4 nc4, .slice A4 m4 c4] 26)).cell? ⟨gl, i, none⟩ = some (.string y) := ((HV4.out.blks (gl, 9, #[.string s, .string zs', .string zy, .string y3, .string zr]) (by simp)).cell i).trans HY.out
  go_upto_region 16 with fail
  generalize v4.heap.size = h4 at HV4 hcy ⊢
  generalize v4.alloc (.cells #[.int .i64 k4, .bool b4, .int .i64 n4, .string s4, .slice N4 nn4 nc4, .slice A4 m4 c4] 26) = W4v at HV4 hcy ⊢
  go_wp2_with fail
  refine (U2.out W4v HV4.out.laid.tab).mono ?_
  rintro _ v5 ⟨cs5, rfl, hv5, hb5⟩
  obtain ⟨k5, b5, n5, s5, N5, nn5, nc5, A5, m5, c5, rfl⟩ := hv5.form
  have HV5 := Lib.hid ((HV4.out.next hb5).value hv5)
  clear hb5 hv5 HV4 hcy U2
  have hcy : (v5.alloc (.cells #[.int .i64 k5, .bool b5, .int .i64 n5, .string s5, .slice N5 nn5 nc5, .slice A5 m5 c5] 26)).cell? ⟨gl, i, none⟩ = some (.string y) := ((HV5.out.blks (gl, 9, #[.string s, .string zs', .string zy, .string y3, .string zr]) (by simp)).cell i).trans HY.out
  clear hcy
  go_upto_region 17 with fail
  generalize v5.heap.size = h5 at HV5 ⊢
  generalize v5.alloc (.cells #[.int .i64 k5, .bool b5, .int .i64 n5, .string s5, .slice N5 nn5 nc5, .slice A5 m5 c5] 26) = W5v at HV5 ⊢
  obtain ⟨l0, l1, l2, l3, l4, l5⟩ := six_cells (HV5.out.vals (h2, x1, [.int .i64 k2, .bool b2, .int .i64 n2, .string s2, .slice N2 nn2 nc2, .slice A2 m2 c2]) (by simp)).1
  obtain ⟨r0, r1, r2, r3, r4, r5⟩ := six_cells (HV5.out.vals (h3, x1, [.int .i64 k3, .bool b3, .int .i64 n3, .string s3, .slice N3 nn3 nc3, .slice A3 m3 c3]) (by simp)).1
  have hne1 : (q1 != q1) = false := by simp
  have hne2 : (q2 != q2) = false := by simp
  go_wp2_with fail
  refine (rsame_all x1 x1 [.int .i64 k2, .bool b2, .int .i64 n2, .string s2, .slice N2 nn2 nc2, .slice A2 m2 c2] [.int .i64 k3, .bool b3, .int .i64 n3, .string s3, .slice N3 nn3 nc3, .slice A3 m3 c3] W5v (HV5.out.vals (h2, x1, [.int .i64 k2, .bool b2, .int .i64 n2, .string s2, .slice N2 nn2 nc2, .slice A2 m2 c2]) (by simp)).2 (HV5.out.vals (h3, x1, [.int .i64 k3, .bool b3, .int .i64 n3, .string s3, .slice N3 nn3 nc3, .slice A3 m3 c3]) (by simp)).2).mono ?_
  rintro _ W6v ⟨rfl, hb⟩
  rw [(sameJ_iff x1 x1).2 rfl]
  have HV6 := Lib.hid (HV5.out.next hb)
  clear hb HV5 l0 r0 l1 r1 l2 r2 l3 r3 l4 r4 l5 r5
  obtain ⟨l0, l1, l2, l3, l4, l5⟩ := six_cells (HV6.out.vals (h4, x2, [.int .i64 k4, .bool b4, .int .i64 n4, .string s4, .slice N4 nn4 nc4, .slice A4 m4 c4]) (by simp)).1
  obtain ⟨r0, r1, r2, r3, r4, r5⟩ := six_cells (HV6.out.vals (h5, x2, [.int .i64 k5, .bool b5, .int .i64 n5, .string s5, .slice N5 nn5 nc5, .slice A5 m5 c5]) (by simp)).1
  go_wp2_with fail
  refine (rsame_all x2 x2 [.int .i64 k4, .bool b4, .int .i64 n4, .string s4, .slice N4 nn4 nc4, .slice A4 m4 c4] [.int .i64 k5, .bool b5, .int .i64 n5, .string s5, .slice N5 nn5 nc5, .slice A5 m5 c5] W6v (HV6.out.vals (h4, x2, [.int .i64 k4, .bool b4, .int .i64 n4, .string s4, .slice N4 nn4 nc4, .slice A4 m4 c4]) (by simp)).2 (HV6.out.vals (h5, x2, [.int .i64 k5, .bool b5, .int .i64 n5, .string s5, .slice N5 nn5 nc5, .slice A5 m5 c5]) (by simp)).2).mono ?_
  rintro _ W7v ⟨rfl, hb⟩
  rw [(sameJ_iff x2 x2).2 rfl]
  have HV7 := Lib.hid ((HV6.out.next hb).sub (L' := [(gc, C, [.int .i64 k1, .bool b1, .int .i64 n1, .string s1, .slice N1 nn1 nc1, .slice A1 m1 c1]), (g0, raw, [.int .i64 k0, .bool b0, .int .i64 n0, .string s0, .slice N0 nn0 nc0, .slice A0 m0 c0])]) (M' := [(gl, 9, #[.string s, .string zs', .string zy, .string y3, .string zr])]) (by simp) (by simp))
  clear hb HV6 l0 r0 l1 r1 l2 r2 l3 r3 l4 r4 l5 r5
  go_wp2_with fail
  exact ⟨⟨i + 1, by omega, by go_num, HV7⟩, by simp [intOf]; omega⟩
end Go.Proofs.YtieppmppdmcleaaGreatDoor

/- JwsBack: what is signed by one key says what was signed, and no other key verifies it; with a byte turned none does. Condition: the laid variables. -/
import Derived.Test.YtieppmppdmcleaaGreatDoorA5
import Derived.Laws.BitsAllLaws
set_option linter.unusedVariables false
set_option linter.unusedSimpArgs false
set_option maxRecDepth 20000
namespace Go.Proofs.YtieppmppdmcleaaGreatDoor
open Go.RowKit Go.Maps
theorem xor_same (x y : Nat) (h : x ^^^ y = x) : y = 0 := by
  have := congrArg (fun n => x ^^^ n) h
  simp only [← Nat.xor_assoc, Nat.xor_self, Nat.zero_xor] at this
  exact this
theorem cl_sm {u v : Jv} (hu : FitV 2 u) (hv : FitV 1 v) : smJ (clJ u v) := smJ_of_may _ 0 (cl_may hu hv) (by have := cl_sz hu hv; omega)
set_option maxHeartbeats 40000000 in
theorem back15_law (zs : List Int) (A : Option Addr) (c : Nat) (key other at_ yb : Int) (w : World) (hr : IntsIn w A c zs) (hk0 : -9223372036854775808 ≤ key ∧ key ≤ 9223372036854775807) (ho0 : -9223372036854775808 ≤ other ∧ other ≤ 9223372036854775807) (ha0 : -9223372036854775808 ≤ at_ ∧ at_ ≤ 9223372036854775807) (hby : 0 ≤ yb ∧ yb ≤ 255) (hL : LaidB w w.heap.size) :
    Calls Tryz.prog 4 #[.slice A zs.length c, .int .i64 key, .int .i64 other, .int .i64 at_, .int .u8 yb] w fun e w' => e = .returned (.bool true) ∧ Below w.heap.size w w' := by
  have ck := Lib.hid (known15_walk w hL)
  have HR := Lib.hid hr
  obtain ⟨yn, rfl⟩ := Int.eq_ofNat_of_zero_le hby.1
  have hyn : yn ≤ 255 := by omega
  have cwk := Lib.hid (fun W => within15_walk key 1000 W (by decide) (by decide) hk0)
  have cwm := Lib.hid (fun W => within15_walk other 1000 W (by decide) (by decide) ho0)
  have HA0 := Lib.hid ha0
  obtain ⟨K, hK, hK1, hK2⟩ : ∃ K, key % 1000 = K ∧ 0 ≤ K ∧ K < 1000 := ⟨_, rfl, Int.emod_nonneg _ (by decide), Int.emod_lt_of_pos _ (by decide)⟩
  obtain ⟨M, hM, hM1, hM2⟩ : ∃ M, other % 1000 = M ∧ 0 ≤ M ∧ M < 1000 := ⟨_, rfl, Int.emod_nonneg _ (by decide), Int.emod_lt_of_pos _ (by decide)⟩
  rw [hK] at cwk
  rw [hM] at cwm
  have hK3 : 0 ≤ K ∧ K ≤ 1073741824 := by omega
  have HK3 := Lib.hid hK3
  clear hL hr hby hk0 ho0 ha0 hK hM hK1 hK2 hM1 hM2 hK3
  go_enter Tryz.func4, Tryz.ntmps4
  go_wp2_with fail
  refine ck.out.mono ?_
  rintro _ w1 ⟨rfl, hS1⟩
  have HA := Lib.hid (show StA w [] [] w1 from ⟨hS1.laid, hS1.below, fun p hp => by simp at hp, fun p hp => by simp at hp⟩)
  clear hS1 ck
  go_wp2_with fail
  refine (cwk.out _).mono ?_
  rintro _ _ ⟨rfl, rfl⟩
  go_wp2_with fail
  refine (cwm.out _).mono ?_
  rintro _ _ ⟨rfl, rfl⟩
  clear cwk cwm
  go_wp2_with fail
  refine (claims_walk zs A c w1 (HR.out.below HA.out.below)).mono ?_
  rintro _ w2 ⟨u, v, cs, rfl, hcl, hfu, hfv, hb⟩
  obtain ⟨k1, b1, n1, s1, N1, nn1, nc1, A1, m1, c1, rfl⟩ := hcl.form
  have hsm := cl_sm hfu hfv
  have hsz := cl_sz hfu hfv
  have hne := cl_sign hfu hfv HK3.out.1 HK3.out.2
  have HA2 := Lib.hid ((HA.out.next hb).value hcl)
  generalize clJ u v = C at hsm hsz hne HA2
  clear hfu hfv hcl hb HA HR
  obtain ⟨S, hS⟩ : ∃ S, signL K C = S := ⟨_, rfl⟩
  have hSl := sign_len K C
  have hver := ver_sign hne
  have hoth : ∀ m, K ≠ m → verO m S = none := fun m hm => by
    cases h : verO m S with
    | none => rfl
    | some u => exact absurd (ver_other (m := m) hne (by rw [hS, h]; rfl)) hm
  have hturn : ∀ i x u, verO K (S.set i x) = some u → S.set i x = S := fun i x u h => by
    rw [← hS] at h ⊢
    exact ver_turned hne h
  have hS0 : 0 < S.length := by rw [← hS]; exact List.length_pos_iff.2 hne
  rw [hS] at hSl hver
  obtain ⟨zs', hzs, hzl⟩ := mk_name S (n := 3000) hSl
  have hzd : zs'.data.toList = S := by rw [← hzs]
  have hzz : zs'.size = S.length := by rw [← hzs, size_mks]
  have csg := Lib.hid (fun W (hT : Tab W) cs (hv : JvV W 0 C cs) => sign_w K C cs zs' (by rw [hS]; exact hzs) W hsm (by omega) hT hv)
  have HSM := Lib.hid hsm
  have HVER := Lib.hid hver
  have HOTH := Lib.hid hoth
  have HTURN := Lib.hid hturn
  have HZD := Lib.hid hzd
  have HZS := Lib.hid hzs
  clear hsm hsz hne hS hver hoth hturn hzd hzs
  obtain ⟨l0, l1, l2, l3, l4, l5⟩ := six_cells (HA2.out.vals (w2.heap.size, C, [.int .i64 k1, .bool b1, .int .i64 n1, .string s1, .slice N1 nn1 nc1, .slice A1 m1 c1]) (by simp)).1
  go_wp2_with fail
  generalize w2.heap.size = gc at HA2 l0 l1 l2 l3 l4 l5 ⊢
  generalize w2.alloc (.cells #[.int .i64 k1, .bool b1, .int .i64 n1, .string s1, .slice N1 nn1 nc1, .slice A1 m1 c1] 26) = W2 at HA2 l0 l1 l2 l3 l4 l5 ⊢
  refine (csg.out W2 HA2.out.laid.tab _ (HA2.out.vals (gc, C, [.int .i64 k1, .bool b1, .int .i64 n1, .string s1, .slice N1 nn1 nc1, .slice A1 m1 c1]) (by simp)).2).mono ?_
  rintro _ W3 ⟨rfl, hb⟩
  have HA3 := Lib.hid (HA2.out.next hb)
  clear hb HA2 l0 l1 l2 l3 l4 l5 csg
  go_wp2_with fail
  refine (ver_w K zs' S _ HVER.out HZD.out (by omega) W3 HA3.out.laid).mono ?_
  rintro _ w4 ⟨cs4, rfl, hv4, hb⟩
  obtain ⟨k4, b4, n4, s4, N4, nn4, nc4, A4, m4, c4, rfl⟩ := hv4.form
  have HA4 := Lib.hid ((HA3.out.next hb).value (show JvV w4 W3.heap.size C _ from hv4))
  clear hb hv4 HA3
  go_wp2_with fail
  generalize w4.heap.size = gv at HA4 ⊢
  generalize w4.alloc (.cells #[.int .i64 k4, .bool b4, .int .i64 n4, .string s4, .slice N4 nn4 nc4, .slice A4 m4 c4] 26) = W4 at HA4 ⊢
  obtain ⟨o, ho, hob⟩ : ∃ o, verO M S = o ∧ o.isSome = (K == M) := by
    by_cases hkm : K = M
    · exact ⟨some C, by rw [← hkm]; exact HVER.out, by simp [hkm]⟩
    · exact ⟨none, HOTH.out M hkm, by simp [hkm]⟩
  have HOB := Lib.hid hob
  refine (ver_w M zs' S o ho HZD.out (by omega) W4 HA4.out.laid).mono ?_
  rintro _ w5 ⟨cs5, rfl, hv5, hb⟩
  obtain ⟨k5, b5, n5, s5, N5, nn5, nc5, A5, m5, c5, rfl⟩ := hv5.form
  have HA5 := Lib.hid ((HA4.out.next hb).alloc (.cells #[.int .i64 k5, .bool b5, .int .i64 n5, .string s5, .slice N5 nn5 nc5, .slice A5 m5 c5] 26))
  clear hb hv5 HA4 ho hob
  rw [HOB.out]
  obtain ⟨l0, l1, l2, l3, l4, l5⟩ := six_cells (HA5.out.vals (gc, C, [.int .i64 k1, .bool b1, .int .i64 n1, .string s1, .slice N1 nn1 nc1, .slice A1 m1 c1]) (by simp)).1
  obtain ⟨r0, r1, r2, r3, r4, r5⟩ := six_cells (HA5.out.vals (gv, C, [.int .i64 k4, .bool b4, .int .i64 n4, .string s4, .slice N4 nn4 nc4, .slice A4 m4 c4]) (by simp)).1
  go_wp2_with fail
  generalize w5.heap.size = g5 at HA5 l0 l1 l2 l3 l4 l5 r0 r1 r2 r3 r4 r5 ⊢
  generalize w5.alloc (.cells #[.int .i64 k5, .bool b5, .int .i64 n5, .string s5, .slice N5 nn5 nc5, .slice A5 m5 c5] 26) = W5 at HA5 l0 l1 l2 l3 l4 l5 r0 r1 r2 r3 r4 r5 ⊢
  refine (rsame_all C C [.int .i64 k4, .bool b4, .int .i64 n4, .string s4, .slice N4 nn4 nc4, .slice A4 m4 c4] [.int .i64 k1, .bool b1, .int .i64 n1, .string s1, .slice N1 nn1 nc1, .slice A1 m1 c1] W5 (HA5.out.vals (gv, C, [.int .i64 k4, .bool b4, .int .i64 n4, .string s4, .slice N4 nn4 nc4, .slice A4 m4 c4]) (by simp)).2 (HA5.out.vals (gc, C, [.int .i64 k1, .bool b1, .int .i64 n1, .string s1, .slice N1 nn1 nc1, .slice A1 m1 c1]) (by simp)).2).mono ?_
  rintro _ W6 ⟨rfl, hb⟩
  rw [(sameJ_iff C C).2 rfl]
  have HA6 := Lib.hid ((HA5.out.next hb).sub (L' := [(gc, C, [.int .i64 k1, .bool b1, .int .i64 n1, .string s1, .slice N1 nn1 nc1, .slice A1 m1 c1])]) (M' := []) (by simp) (by simp))
  clear hb HA5 l0 l1 l2 l3 l4 l5 r0 r1 r2 r3 r4 r5
  obtain ⟨qkm, hqkm⟩ : ∃ q, (K == M) = q := ⟨_, rfl⟩
  rw [hqkm]
  have hz0 : ((S.length : Int) == 0) = false := by rw [beq_eq_false_iff_ne]; omega
  have hz1 : ((zs'.size : Int) == 0) = false := by rw [beq_eq_false_iff_ne]; omega
  have hcv := fun w => Lib.run_convert_string_bytes (P := Tryz.prog) w 9 31 5 zs' Tryz.underlying9 Tryz.underlying31 Tryz.underlying5
  obtain ⟨k, hk, ek⟩ : ∃ k : Nat, k < S.length ∧ at_ % (S.length : Int) = k := ⟨(at_ % (S.length : Int)).toNat, by have := Int.emod_nonneg at_ (show (S.length : Int) ≠ 0 by omega); have := Int.emod_lt_of_pos at_ (show (0 : Int) < (S.length : Int) by omega); omega, by have := Int.emod_nonneg at_ (show (S.length : Int) ≠ 0 by omega); have := Int.emod_lt_of_pos at_ (show (0 : Int) < (S.length : Int) by omega); omega⟩
  have cw := Lib.hid (fun W => within15_walk at_ (S.length : Int) W (by omega) (by omega) HA0.out)
  rw [ek] at cw
  have hbr := BRow.new 5 W6 S
  have hbb := below_bytes 5 W6 S
  rw [HZS.out] at hbr hbb
  have HA7 : Hid (∀ x : Int, StA w [(gc, C, [.int .i64 k1, .bool b1, .int .i64 n1, .string s1, .slice N1 nn1 nc1, .slice A1 m1 c1])] [] ((Lib.bytesWorld W6 5 zs').setCell ⟨W6.heap.size, k, none⟩ (.int .u8 x))) := fun x => HA6.out.next (hbb.setCell (Nat.le_refl _) _)
  have HBR := Lib.hid hbr
  have hgl : W6.heap.size < (Lib.bytesWorld W6 5 zs').heap.size := hbr.lt
  clear hbr hbb HA6 ek
  have hkz : k < zs'.size := by omega
  cases qkm
  all_goals
    go_upto_region 11 with fail
    generalize Lib.bytesWorld W6 5 zs' = W7 at HA7 HBR hgl ⊢
    generalize grownCap W6 S.length 0 5 = cp
    generalize W6.heap.size = gb at HBR hgl HA7 ⊢
    clear hcv hqkm
    obtain ⟨x0, hx0⟩ : ∃ x0 : Nat, (S.getD k 0).toNat = x0 := ⟨_, rfl⟩
    have hx2 : x0 < 256 := by rw [← hx0]; exact (S.getD k 0).toNat_lt
    have hcx := HBR.out.cell hk
    have hfx := HBR.out.frozen hk
    rw [hx0] at hcx
    obtain ⟨z, hz, hzl⟩ : ∃ z : Nat, bits .xor .u8 (x0 : Int) (yn : Int) = (z : Int) ∧ z < 256 := ⟨_, u8_xor_nat x0 yn hx2 (by omega), Nat.xor_lt_two_pow (n := 8) hx2 (by omega)⟩
    have hzx : z = x0 ^^^ yn := by
      have := u8_xor_nat x0 yn hx2 (by omega)
      rw [hz] at this
      exact Int.ofNat_inj.1 this
    have hset : S.set k (UInt8.ofNat z) = S → yn = 0 := by
      intro e
      have h1 := congrArg (fun l => l.getD k 0) e
      simp only [List.getD_eq_getElem?_getD, List.getElem?_set_self hk, Option.getD_some] at h1
      have h2 := congrArg UInt8.toNat h1
      rw [← List.getD_eq_getElem?_getD, hx0] at h2
      have h3 : z = x0 := by rw [← h2]; simp; omega
      exact xor_same x0 yn (by rw [← hzx, h3])
    have hbs := HBR.out.set_ hk z hzl
    have hrd := hbs.reads
    have hyl : (S.set k (UInt8.ofNat z)).length = S.length := by simp
    have hfin : ∀ o, verO K (S.set k (UInt8.ofNat z)) = o → o = none ∨ (yn = 0 ∧ o = some C) := by
      intro o ho
      cases o with
      | none => exact .inl rfl
      | some u =>
        have h1 := HTURN.out _ _ _ ho
        refine .inr ⟨hset h1, ?_⟩
        rw [h1, HVER.out] at ho
        exact ho.symm
    have HFIN := Lib.hid hfin
    generalize S.set k (UInt8.ofNat z) = Y at hrd hyl HFIN
    obtain ⟨zy, hzy, hzyl⟩ := mk_name Y (n := 3000) (by omega)
    have hzyd : zy.data.toList = Y := by rw [← hzy]
    rw [hyl] at hrd
    have hcs := str_string (c := cp) hrd
    rw [hzy] at hcs
    have HA8 := Lib.hid (HA7.out (z : Int))
    have HCS := Lib.hid hcs
    clear hcs hrd hbs hset hzx hx0 hfin hzy HA7 HBR hyl hz0 hz1
    go_wp2_with fail
    refine (cw.out _).mono ?_
    rintro _ _ ⟨rfl, rfl⟩
    go_upto_region 12 with fail
    generalize W7.setCell ⟨gb, k, none⟩ (.int .u8 (z : Int)) = W8 at HA8 HCS ⊢
    clear hcx hfx hz cw
    have hcs := HCS.out
    obtain ⟨o, ho⟩ : ∃ o, verO K Y = o := ⟨_, rfl⟩
    have hor := HFIN.out o ho
    have cvy := Lib.hid (ver_w K zy Y o ho hzyd (by omega) W8 HA8.out.laid)
    clear ho
    rcases hor with rfl | ⟨hy0, rfl⟩
    · go_wp2_with fail
      refine cvy.out.mono ?_
      rintro _ w9 ⟨cs8, rfl, hv8, hb⟩
      obtain ⟨k8, b8, n8, s8, N8, nn8, nc8, A8, m8, c8, rfl⟩ := hv8.form
      have HA9 := Lib.hid ((HA8.out.next hb).alloc (.cells #[.int .i64 k8, .bool b8, .int .i64 n8, .string s8, .slice N8 nn8 nc8, .slice A8 m8 c8] 26))
      clear hb hv8 HA8 hcs cvy
      go_wp2_with fail
      go_ret
      exact ⟨rfl, HA9.out.below⟩
    · subst hy0
      go_wp2_with fail
      refine cvy.out.mono ?_
      rintro _ w9 ⟨cs8, rfl, hv8, hb⟩
      obtain ⟨k8, b8, n8, s8, N8, nn8, nc8, A8, m8, c8, rfl⟩ := hv8.form
      have HA9 := Lib.hid ((HA8.out.next hb).value (show JvV w9 W8.heap.size C _ from hv8))
      clear hb hv8 HA8 hcs cvy
      obtain ⟨l0, l1, l2, l3, l4, l5⟩ := six_cells (HA9.out.vals (gc, C, [.int .i64 k1, .bool b1, .int .i64 n1, .string s1, .slice N1 nn1 nc1, .slice A1 m1 c1]) (by simp)).1
      obtain ⟨r0, r1, r2, r3, r4, r5⟩ := six_cells (HA9.out.vals (w9.heap.size, C, [.int .i64 k8, .bool b8, .int .i64 n8, .string s8, .slice N8 nn8 nc8, .slice A8 m8 c8]) (by simp)).1
      go_wp2_with fail
      generalize w9.heap.size = g9 at HA9 l0 l1 l2 l3 l4 l5 r0 r1 r2 r3 r4 r5 ⊢
      generalize w9.alloc (.cells #[.int .i64 k8, .bool b8, .int .i64 n8, .string s8, .slice N8 nn8 nc8, .slice A8 m8 c8] 26) = W9 at HA9 l0 l1 l2 l3 l4 l5 r0 r1 r2 r3 r4 r5 ⊢
      refine (rsame_all C C [.int .i64 k8, .bool b8, .int .i64 n8, .string s8, .slice N8 nn8 nc8, .slice A8 m8 c8] [.int .i64 k1, .bool b1, .int .i64 n1, .string s1, .slice N1 nn1 nc1, .slice A1 m1 c1] W9 (HA9.out.vals (g9, C, [.int .i64 k8, .bool b8, .int .i64 n8, .string s8, .slice N8 nn8 nc8, .slice A8 m8 c8]) (by simp)).2 (HA9.out.vals (gc, C, [.int .i64 k1, .bool b1, .int .i64 n1, .string s1, .slice N1 nn1 nc1, .slice A1 m1 c1]) (by simp)).2).mono ?_
      rintro _ W10 ⟨rfl, hb⟩
      rw [(sameJ_iff C C).2 rfl]
      have HA10 := Lib.hid (HA9.out.next hb)
      clear hb HA9 l0 l1 l2 l3 l4 l5 r0 r1 r2 r3 r4 r5
      go_wp2_with fail
      go_ret
      exact ⟨rfl, HA10.out.below⟩
end Go.Proofs.YtieppmppdmcleaaGreatDoor

/- JsonDeep: so deep, so great, and no more. Condition: the laid variables. -/
import Derived.Test.YtokgkifckgnabaaDoorLe
set_option linter.unusedVariables false
set_option linter.unusedSimpArgs false
set_option maxRecDepth 20000
namespace Go.Proofs.YtokgkifckgnabaaDoor
open Go.RowKit Go.Maps
def nestJ : Nat → Jv
  | 0 => .mk 1 false 0 [] [] []
  | i + 1 => .mk 5 false 0 [] [] [nestJ i]
theorem nest_sm : ∀ k, smJ (nestJ k)
  | 0 => by rw [nestJ, smJ, smJs]; simp
  | k + 1 => by rw [nestJ, smJ, smJs, smJs]; simp [nest_sm k]
theorem nest_may : ∀ k : Fin 12, mayB (nestJ k.val) = decide (k.val ≤ 8) := by decide +kernel
theorem nest_parse : ∀ k : Fin 12, 1 ≤ k.val → (parseL (List.replicate k.val 91)).1 = if 8 < k.val then 4 else 3 := by decide +kernel
theorem int_may (n : Int) : mayB (.mk 3 false n [] [] []) = decide (-9007199254740992 ≤ n ∧ n ≤ 9007199254740992) := by
  rw [mayB, mayJ]
  simp [aloneB, valid_nil]
theorem dec_max : Lib.decDigits 9007199254740992 = [57, 48, 48, 55, 49, 57, 57, 50, 53, 52, 55, 52, 48, 57, 57, 50] := by
  rw [Lib.decDigits_eq, Lib.nDigits_unique 15 _ (by decide) (by decide)]
  decide +kernel
theorem deep_h : parseL [45, 57, 48, 48, 55, 49, 57, 57, 50, 53, 52, 55, 52, 48, 57, 57, 50] = (0, .mk 3 false (-9007199254740992) [] [] []) := by
  have h := parse_back (v := .mk 3 false (-9007199254740992) [] [] []) (by rw [int_may]; decide)
  rw [jprint, if_neg (by decide), if_neg (by decide), if_pos rfl, Lib.itoa, if_pos (by decide), show (-9007199254740992 : Int).natAbs = 9007199254740992 from rfl, dec_max] at h
  exact h
theorem deep_g : (parseL [57, 48, 48, 55, 49, 57, 57, 50, 53, 52, 55, 52, 48, 57, 57, 51]).1 = 3 := by decide +kernel
theorem deep_f (n : Int) (h1 : -9007199254740992 ≤ n) (h2 : n ≤ 9007199254740992) : (parseL (Lib.itoa n ++ [120])).1 = 5 := by
  have hb := wordR_int n h1 h2 [120] (okR_cons (by decide +kernel))
  unfold parseL
  rw [hb, valW]
  have : skipB [120] = [120] := skipB_no (by decide +kernel)
  simp [this]
/-- a parse of which the errno is known -/
def ParseN (n : Nat) (w : World) (e : Ending) (w' : World) : Prop := ∃ cs v, e = .returned (.tuple #[.agg cs.toArray, .int .i64 (n : Int)]) ∧ JvV w' w.heap.size v cs ∧ Below w.heap.size w w'
theorem parse_n (s : ByteArray) (l : List UInt8) (n : Nat) (hs : s.data.toList = l) (hn : (parseL l).1 = n) (hm : s.size ≤ 1000000) (w : World) (hL : LaidB w w.heap.size) : Calls Tryd.prog 8 #[.string s] w (ParseN n w) := by
  refine (parse_walk s l hs hm w hL).mono ?_
  rintro e w' ⟨cs, he, hv, hb⟩
  rw [hn] at he
  exact ⟨cs, _, he, hv, hb⟩
theorem parse_g (w : World) (hL : LaidB w w.heap.size) : Calls Tryd.prog 8 #[.string ⟨#[57, 48, 48, 55, 49, 57, 57, 50, 53, 52, 55, 52, 48, 57, 57, 51]⟩] w (ParseN 3 w) := parse_n _ _ 3 rfl deep_g (by decide) w hL
theorem parse_h (w : World) (hL : LaidB w w.heap.size) : Calls Tryd.prog 8 #[.string ⟨#[45, 57, 48, 48, 55, 49, 57, 57, 50, 53, 52, 55, 52, 48, 57, 57, 50]⟩] w fun e w' => ∃ NA nc A c, e = .returned (.tuple #[.agg #[.int .i64 3, .bool false, .int .i64 (-9007199254740992), .string ⟨#[]⟩, .slice NA 0 nc, .slice A 0 c], .int .i64 0]) ∧ Below w.heap.size w w' := by
  refine (parse_walk _ [45, 57, 48, 48, 55, 49, 57, 57, 50, 53, 52, 55, 52, 48, 57, 57, 50] rfl (by decide) w hL).mono ?_
  rintro e w' ⟨cs, he, hv, hb⟩
  rw [deep_h] at he hv
  rw [JvV] at hv
  obtain ⟨NA, nc, A, c, vs, rfl, _⟩ := hv
  exact ⟨NA, nc, A, c, he, hb⟩
theorem nest_step {W : World} {gv i : Nat} {cs : List Value} (hb : Blk W gv 27 cs.toArray) (hv : JvV W (gv + 1) (nestJ i) cs) (cells : Array Value)
    (hc : cells = #[.int .i64 5, .bool false, .int .i64 0, .string ⟨#[]⟩, .slice none 0 0, .slice (some ⟨W.heap.size, 0, none⟩) 1 1]) :
    JvV ((W.alloc (.cells cs.toArray 27)).setRow gv cells) (gv + 1) (nestJ (i + 1)) [.int .i64 5, .bool false, .int .i64 0, .string ⟨#[]⟩, .slice none 0 0, .slice (some ⟨W.heap.size, 0, none⟩) 1 1] := by
  have hgl := hb.lt
  have hal := alloc_below W (.cells cs.toArray 27)
  have hsr := setRow_only (W.alloc (.cells cs.toArray 27)) gv cells
  have h1 := (hv.below hal).grown hsr (fun q e => by injection e with e; omega)
  have h2 := (Blk.new W 27 cs.toArray).grown hsr (fun e => by injection e with e; omega)
  have hr := blk_reads h2
  have hl := hv.len
  rw [nestJ, JvV]
  refine ⟨none, 0, some ⟨W.heap.size, 0, none⟩, 1, [cs], rfl, by simp, by simp, ⟨by simp [strVs], fun h => by simp at h⟩, fun h => by simp at h, ?_, fun _ ad e => by injection e with e; subst e; show gv + 1 ≤ W.heap.size; omega, ?_⟩
  · simp only [List.length_singleton, List.flatten_cons, List.flatten_nil, List.append_nil]
    rw [hl] at hr
    exact hr
  · rw [JvsV]
    exact ⟨cs, [], rfl, h1, by rw [JvsV]⟩
set_option maxHeartbeats 16000000 in
theorem deep_law (n m : Int) (hn : -9223372036854775808 ≤ n ∧ n ≤ 9223372036854775807) (hm : -9223372036854775808 ≤ m ∧ m ≤ 9223372036854775807) (w : World) (hL : LaidB w w.heap.size) :
    Calls Tryd.prog 5 #[.int .i64 n, .int .i64 m] w fun e w' => e = .returned (.bool true) ∧ Below w.heap.size w w' := by
  have ck := Lib.hid (known12_walk w hL)
  have c1 := Lib.hid (fun W => within12_walk n 7 W (by decide) (by decide) hn)
  have c2 := Lib.hid (fun W => within12_walk m 7 W (by decide) (by decide) hm)
  have hk0 := Int.emod_nonneg n (show (7 : Int) ≠ 0 by decide)
  have hk1 := Int.emod_lt_of_pos n (show (0 : Int) < 7 by decide)
  have hj0 := Int.emod_nonneg m (show (7 : Int) ≠ 0 by decide)
  have hj1 := Int.emod_lt_of_pos m (show (0 : Int) < 7 by decide)
  obtain ⟨kn, hkn⟩ : ∃ kn : Nat, n % 7 = kn := ⟨(n % 7).toNat, by omega⟩
  obtain ⟨jn, hjn⟩ : ∃ jn : Nat, m % 7 = jn := ⟨(m % 7).toNat, by omega⟩
  rw [hkn] at c1 hk0 hk1
  rw [hjn] at c2 hj0 hj1
  obtain ⟨k, hk⟩ : ∃ k : Nat, 5 + kn = k := ⟨_, rfl⟩
  obtain ⟨j, hj⟩ : ∃ j : Int, (jn : Int) - 3 = j := ⟨_, rfl⟩
  have hw1 : IntKind.i64.wrap (5 + (kn : Int)) = (k : Int) := by rw [IntKind.wrap_i64]; omega
  have hw2 : IntKind.i64.wrap ((jn : Int) - 3) = j := by rw [IntKind.wrap_i64]; omega
  have hkb : 5 ≤ k ∧ k ≤ 11 := by omega
  have hjb : -3 ≤ j ∧ j ≤ 3 := by omega
  clear hL hn hm hkn hjn hk0 hk1 hj0 hj1 hk hj
  go_enter Tryd.func5, Tryd.ntmps5
  go_wp2_with fail
  refine ck.out.mono ?_
  rintro _ w1 ⟨rfl, hS1⟩
  have HS1 := Lib.hid hS1
  clear hS1 ck
  go_wp2_with fail
  refine (c1.out _).mono ?_
  rintro _ w2 ⟨rfl, rfl⟩
  go_wp2_with fail
  refine (c2.out _).mono ?_
  rintro _ w2 ⟨rfl, rfl⟩
  go_wp2_with fail
  have HG1 := Lib.hid (⟨HS1.out.laid, HS1.out.below.size⟩ : LaidB w1 w1.heap.size ∧ w.heap.size ≤ w1.heap.size)
  have HB := Lib.hid (HS1.out.below.alloc HS1.out.below.size (.cells #[.int .i64 1, .bool false, .int .i64 0, .string ⟨#[]⟩, .slice none 0 0, .slice none 0 0] 27))
  have HLA := Lib.hid (HS1.out.laid.below (alloc_below w1 (.cells #[.int .i64 1, .bool false, .int .i64 0, .string ⟨#[]⟩, .slice none 0 0, .slice none 0 0] 27)))
  have HK := Lib.hid (Blk.new w1 27 #[.int .i64 1, .bool false, .int .i64 0, .string ⟨#[]⟩, .slice none 0 0, .slice none 0 0])
  have hgw := HS1.out.below.size
  clear HS1
  generalize w1.alloc (.cells #[.int .i64 1, .bool false, .int .i64 0, .string ⟨#[]⟩, .slice none 0 0, .slice none 0 0] 27) = W2 at HB HLA HK ⊢
  generalize w1.heap.size = gv at *
  go_loopw [7, 9] (fun sv iv wr => ∃ (i : Nat) (s : ByteArray) (cs : List Value), i ≤ k ∧ iv = .int .i64 (i : Int) ∧ sv = .string s ∧ Hid (s.data.toList = List.replicate i 91) ∧ s.size = i ∧ Hid (Blk wr gv 27 cs.toArray) ∧ Hid (JvV wr (gv + 1) (nestJ i) cs) ∧ Hid (LaidB wr gv) ∧ Hid (Below w.heap.size w wr)) (fun _ iv _ => k - (match iv with | .int _ n => n.toNat | _ => 0))
  case atStart => exact ⟨0, ⟨#[]⟩, _, by omega, rfl, rfl, rfl, rfl, HK, jv_leaf _ _ 1 false 0 [], HLA, HB⟩
  case round =>
    clear HB HLA HK HG1
    obtain ⟨i, s, cs, hi, rfl, rfl, HR, hsz, HK, HV, HLA, HB⟩ := hrel
    obtain ⟨kx, bx, nx, sx, NX, nnx, ncx, AX, mx, cx, rfl⟩ := HV.out.form
    by_cases hlt : i < k
    · have d1 : decide ((i : Int) < (k : Int)) = true := by simp; omega
      have d2 : decide (i < k) = true := by simp; omega
      have k1 : ¬ 9223372036854775807 < s.size + 1 := by omega
      have hiw : IntKind.i64.wrap ((i : Int) + 1) = ((i + 1 : Nat) : Int) := by rw [IntKind.wrap_i64]; omega
      have HN := Lib.hid (nest_step HK.out HV.out _ rfl)
      have hal := alloc_below wr (.cells #[.int .i64 kx, .bool bx, .int .i64 nx, .string sx, .slice NX nnx ncx, .slice AX mx cx] 27)
      have HK2 := Lib.hid (HK.out.below hal HK.out.lt)
      have HB2 := Lib.hid (HB.out.alloc HB.out.size (.cells #[.int .i64 kx, .bool bx, .int .i64 nx, .string sx, .slice NX nnx ncx, .slice AX mx cx] 27))
      have HLA2 := Lib.hid (HLA.out.below hal)
      obtain ⟨l0, l1, l2, l3, l4, l5⟩ := six_cells HK.out
      clear hal HB HLA c1 c2
      go_wp2_with (first | refine wpList_load_at rfl 27 _ rfl ⟨gv, 0, none⟩ rfl [.int .i64 kx, .bool bx, .int .i64 nx, .string sx, .slice NX nnx ncx, .slice AX mx cx] _ (blk_cells HK.out) Tryd.underlying27 rfl jv_size ?_ | refine wpList_store_blk rfl 27 _ _ rfl gv _ #[.int .i64 5, .bool false, .int .i64 0, .string ⟨#[]⟩, .slice none 0 0, .slice (some ⟨wr.heap.size, 0, none⟩) 1 1] 27 rfl rfl HK2.out rfl jv_size (jv_ones _ _ _ _ _ _ _ _ _ _) ?_)
      have hsr := setRow_only (wr.alloc (.cells #[.int .i64 kx, .bool bx, .int .i64 nx, .string sx, .slice NX nnx ncx, .slice AX mx cx] 27)) gv #[.int .i64 5, .bool false, .int .i64 0, .string ⟨#[]⟩, .slice none 0 0, .slice (some ⟨wr.heap.size, 0, none⟩) 1 1]
      refine ⟨⟨i + 1, _, _, by omega, rfl, rfl, ?_, by rw [ByteArray.size_append]; rw [hsz]; rfl, HK2.out.setRow, HN.out, HLA2.out.grown hsr (fun q e => by injection e with e; omega), below_setRow HB2.out hgw _⟩, by simp; omega⟩
      show (s ++ ⟨#[91]⟩).data.toList = _
      rw [ByteArray.data_append, Array.toList_append, HR.out]
      exact (List.replicate_succ' ..).symm
    · obtain rfl : i = k := by omega
      have d1 : decide ((i : Int) < (i : Int)) = false := by simp
      have d2 : decide (i < i) = false := by simp
      have hs12 := Lib.hid (⟨HLA.out.up, HB.out⟩ : St12 w wr)
      have HS1 := Lib.hid (⟨HLA.out.up, HB.out⟩ : St12 w wr)
      have HV1 := Lib.hid (⟨HK.out, HV.out.low (Nat.zero_le _)⟩ : Val1 w gv (nestJ i) _ wr)
      obtain ⟨a, ha⟩ : ∃ a, 9007199254740992 + j = a := ⟨_, rfl⟩
      obtain ⟨b, hb⟩ : ∃ b, -9007199254740992 - j = b := ⟨_, rfl⟩
      have wa : IntKind.i64.wrap (9007199254740992 + j) = a := by rw [IntKind.wrap_i64]; omega
      have wa2 : IntKind.i64.wrap (a - 0) = a := by rw [IntKind.wrap_i64]; omega
      have wa3 : IntKind.i64.wrap a = a := by rw [IntKind.wrap_i64]; omega
      have wb : IntKind.i64.wrap (-9007199254740992 - j) = b := by rw [IntKind.wrap_i64]; omega
      have hpl : (printJ (.mk 3 false a [] [] [])).length ≤ 40 := by
        unfold printJ
        split
        · have := Lib.itoa_length_le a (by omega) (by omega)
          rw [jprint, if_neg (by decide), if_neg (by decide), if_pos rfl]; omega
        · simp
      have her0 := nest_parse ⟨i, by omega⟩ (by show 1 ≤ i; omega)
      have hmay0 := nest_may ⟨i, by omega⟩
      simp only at her0 hmay0
      clear HK HV HLA HB d1 d2 c1 c2
      go_wp2_with fail
      by_cases h8 : 8 < i
      · have d8 : decide (8 < (i : Int)) = true := by simp; omega
        have d9 : decide ((i : Int) ≤ 8) = false := by simp; omega
        have d8' : decide (8 < i) = true := by simp; omega
        have d9' : decide (i ≤ 8) = false := by simp; omega
        have her : (parseL (List.replicate i 91)).1 = 4 := by rw [her0]; simp [h8]
        have hmay : mayB (nestJ i) = false := by rw [hmay0]; exact d9'
        clear h8 her0 hmay0
        by_cases hj0 : j ≤ 0
        · have dj : decide (j ≤ 0) = true := by simp; omega
          have dj2 : decide (0 < j) = false := by simp; omega
          have hmA : mayB (.mk 3 false a [] [] []) = true := by rw [int_may]; simp; omega
          have hmB : mayB (.mk 3 false b [] [] []) = true := by rw [int_may]; simp; omega
          have hF : (parseL (printJ (.mk 3 false a [] [] []) ++ [120])).1 = 5 := by
            rw [printJ, if_pos hmA, jprint, if_neg (by decide), if_neg (by decide), if_pos rfl]
            exact deep_f a (by omega) (by omega)
          clear hj0
          refine (parse_n s _ _ HR.out her (by omega) wr HS1.out.laid).mono ?_
          rintro _ w2 ⟨cs2, v2, rfl, hv2, hb2⟩
          obtain ⟨k2, b2, n2, s2, N2, nn2, nc2, A2, m2, c2, rfl⟩ := hv2.form
          have HV2 := Lib.hid ((HV1.out.below hb2).below (alloc_below w2 (.cells #[.int .i64 k2, .bool b2, .int .i64 n2, .string s2, .slice N2 nn2 nc2, .slice A2 m2 c2] 27)))
          have HS2 := Lib.hid ((HS1.out.next hb2).alloc (.cells #[.int .i64 k2, .bool b2, .int .i64 n2, .string s2, .slice N2 nn2 nc2, .slice A2 m2 c2] 27))
          clear hv2 hb2 HV1 HS1 HR her
          go_wp2_with fail
          generalize w2.heap.size = g2 at *
          generalize w2.alloc (.cells #[.int .i64 k2, .bool b2, .int .i64 n2, .string s2, .slice N2 nn2 nc2, .slice A2 m2 c2] 27) = W2 at HV2 HS2 ⊢
          refine (i_walk W2 a).mono ?_
          rintro _ W3 ⟨rfl, hb3⟩
          have HV3 := Lib.hid (HV2.out.below hb3)
          have HS3 := Lib.hid (HS2.out.next hb3)
          clear hb3 HV2 HS2
          go_wp2_with fail
          have cpr := rprintm_walk (.mk 3 false a [] [] []) (cells6 3 false a [] none 0 0 none 0 0) W3 (by rw [smJ, smJs]; simp; omega) (by simp [szJ, szJs]) HS3.out.laid.tab (jv_leaf _ _ _ _ _ _)
          simp only [cells6, strV] at cpr
          refine (cpr).mono ?_
          rintro _ W4 ⟨rfl, hb4⟩
          have HV4 := Lib.hid (HV3.out.below hb4)
          have HS4 := Lib.hid (HS3.out.next hb4)
          clear hb4 HV3 HS3
          obtain ⟨z, hz, hzs⟩ := mk_name (printJ (.mk 3 false a [] [] [])) (n := 40) hpl
          rw [hz]
          have k1 : ¬ 9223372036854775807 < z.size + 1 := by omega
          have hzl : (z ++ ⟨#[120]⟩).data.toList = printJ (.mk 3 false a [] [] []) ++ [120] := by rw [ByteArray.data_append, Array.toList_append, ← hz]
          have HZL := Lib.hid hzl
          have HFF := Lib.hid hF
          clear hzl hz hF
          go_wp2_with fail
          have q1 : (z ++ ⟨#[120]⟩ : ByteArray).size ≤ 1000000 := by rw [ByteArray.size_append]; show z.size + 1 ≤ _; omega
          have q2 := parse_n (z ++ ⟨#[120]⟩) _ _ HZL.out HFF.out q1 W4 HS4.out.laid
          refine q2.mono ?_
          clear q1 q2
          rintro _ w5 ⟨cs5, v5, rfl, hv5, hb5⟩
          obtain ⟨k5, b5, n5, s5, N5, nn5, nc5, A5, m5, c5, rfl⟩ := hv5.form
          have HV5 := Lib.hid ((HV4.out.below hb5).below (alloc_below w5 (.cells #[.int .i64 k5, .bool b5, .int .i64 n5, .string s5, .slice N5 nn5 nc5, .slice A5 m5 c5] 27)))
          have HS5 := Lib.hid ((HS4.out.next hb5).alloc (.cells #[.int .i64 k5, .bool b5, .int .i64 n5, .string s5, .slice N5 nn5 nc5, .slice A5 m5 c5] 27))
          clear hv5 hb5 HV4 HS4 HZL HFF k1 hzs
          go_wp2_with fail
          generalize w5.heap.size = g5 at *
          generalize w5.alloc (.cells #[.int .i64 k5, .bool b5, .int .i64 n5, .string s5, .slice N5 nn5 nc5, .slice A5 m5 c5] 27) = W5 at HV5 HS5 ⊢
          refine (parse_g W5 HS5.out.laid).mono ?_
          rintro _ w6 ⟨cs6, v6, rfl, hv6, hb6⟩
          obtain ⟨k6, b6, n6, s6, N6, nn6, nc6, A6, m6, c6, rfl⟩ := hv6.form
          have HV6 := Lib.hid ((HV5.out.below hb6).below (alloc_below w6 (.cells #[.int .i64 k6, .bool b6, .int .i64 n6, .string s6, .slice N6 nn6 nc6, .slice A6 m6 c6] 27)))
          have HS6 := Lib.hid ((HS5.out.next hb6).alloc (.cells #[.int .i64 k6, .bool b6, .int .i64 n6, .string s6, .slice N6 nn6 nc6, .slice A6 m6 c6] 27))
          clear hv6 hb6 HV5 HS5
          go_wp2_with fail
          generalize w6.heap.size = g6 at *
          generalize w6.alloc (.cells #[.int .i64 k6, .bool b6, .int .i64 n6, .string s6, .slice N6 nn6 nc6, .slice A6 m6 c6] 27) = W6 at HV6 HS6 ⊢
          refine (parse_h W6 HS6.out.laid).mono ?_
          rintro _ w7 ⟨N7, nc7, A7, c7, rfl, hb7⟩
          have HV7 := Lib.hid ((HV6.out.below hb7).below (alloc_below w7 (.cells #[.int .i64 3, .bool false, .int .i64 (-9007199254740992), .string ⟨#[]⟩, .slice N7 0 nc7, .slice A7 0 c7] 27)))
          have HS7 := Lib.hid ((HS6.out.next hb7).alloc (.cells #[.int .i64 3, .bool false, .int .i64 (-9007199254740992), .string ⟨#[]⟩, .slice N7 0 nc7, .slice A7 0 c7] 27))
          have HN7 := Lib.hid (Blk.new w7 27 #[.int .i64 3, .bool false, .int .i64 (-9007199254740992), .string ⟨#[]⟩, .slice N7 0 nc7, .slice A7 0 c7])
          clear hb7 HV6 HS6
          obtain ⟨l0, l1, l2, l3, l4, l5⟩ := six_cells HV7.out.blk
          have n2 : (w7.alloc (.cells #[.int .i64 3, .bool false, .int .i64 (-9007199254740992), .string ⟨#[]⟩, .slice N7 0 nc7, .slice A7 0 c7] 27)).cell? ⟨w7.heap.size, 2, none⟩ = some (.int .i64 (-9007199254740992)) := HN7.out.cell 2
          go_wp2_with fail
          generalize w7.heap.size = g7 at *
          generalize w7.alloc (.cells #[.int .i64 3, .bool false, .int .i64 (-9007199254740992), .string ⟨#[]⟩, .slice N7 0 nc7, .slice A7 0 c7] 27) = W7 at HV7 HS7 l0 l1 l2 l3 l4 l5 n2 HN7 ⊢
          refine (may_walk (nestJ i) _ W7 (nest_sm i) HV7.out.val).mono ?_
          rintro _ W8 ⟨rfl, hb8⟩
          rw [hmay]
          have HV8 := Lib.hid (HV7.out.below hb8)
          have HS8 := Lib.hid (HS7.out.next hb8)
          have n3 : W8.cell? ⟨g7, 2, none⟩ = some (.int .i64 (-9007199254740992)) := (HN7.out.below hb8 HN7.out.lt).cell 2
          have HN8 := Lib.hid (HN7.out.below hb8 HN7.out.lt)
          clear hb8 HV7 HS7 HN7 n2 l0 l1 l2 l3 l4 l5
          go_wp2_with fail
          refine (i_walk W8 a).mono ?_
          rintro _ W9 ⟨rfl, hb9⟩
          have HV9 := Lib.hid (HV8.out.below hb9)
          have HS9 := Lib.hid (HS8.out.next hb9)
          have HN9 := Lib.hid (HN8.out.below hb9 HN8.out.lt)
          clear hb9 HV8 HS8 HN8 n3
          have n3 := HN9.out.cell 2
          simp only [List.getElem?_toArray, List.getElem?_cons_zero, List.getElem?_cons_succ] at n3
          go_wp2_with fail
          have cmy := may_walk (.mk 3 false a [] [] []) (cells6 3 false a [] none 0 0 none 0 0) W9 (by rw [smJ, smJs]; simp; omega) (jv_leaf _ _ _ _ _ _)
          simp only [cells6, strV, hmA] at cmy
          refine cmy.mono ?_
          rintro _ W10 ⟨rfl, hb10⟩
          have HV10 := Lib.hid (HV9.out.below hb10)
          have HS10 := Lib.hid (HS9.out.next hb10)
          have HN10 := Lib.hid (HN9.out.below hb10 HN9.out.lt)
          clear hb10 HV9 HS9 HN9 n3
          have n3 := HN10.out.cell 2
          simp only [List.getElem?_toArray, List.getElem?_cons_zero, List.getElem?_cons_succ] at n3
          go_wp2_with fail
          refine (i_walk W10 b).mono ?_
          rintro _ W11 ⟨rfl, hb11⟩
          have HV11 := Lib.hid (HV10.out.below hb11)
          have HS11 := Lib.hid (HS10.out.next hb11)
          have HN11 := Lib.hid (HN10.out.below hb11 HN10.out.lt)
          clear hb11 HV10 HS10 HN10 n3
          have n3 := HN11.out.cell 2
          simp only [List.getElem?_toArray, List.getElem?_cons_zero, List.getElem?_cons_succ] at n3
          go_wp2_with fail
          have cmy := may_walk (.mk 3 false b [] [] []) (cells6 3 false b [] none 0 0 none 0 0) W11 (by rw [smJ, smJs]; simp; omega) (jv_leaf _ _ _ _ _ _)
          simp only [cells6, strV, hmB] at cmy
          refine cmy.mono ?_
          rintro _ W12 ⟨rfl, hb12⟩
          have HV12 := Lib.hid (HV11.out.below hb12)
          have HS12 := Lib.hid (HS11.out.next hb12)
          have HN12 := Lib.hid (HN11.out.below hb12 HN11.out.lt)
          clear hb12 HV11 HS11 HN11 n3
          have n3 := HN12.out.cell 2
          simp only [List.getElem?_toArray, List.getElem?_cons_zero, List.getElem?_cons_succ] at n3
          go_wp2_with fail
          go_ret
          exact ⟨rfl, HS12.out.below⟩
        · have dj : decide (j ≤ 0) = false := by simp; omega
          have dj2 : decide (0 < j) = true := by simp; omega
          have hmA : mayB (.mk 3 false a [] [] []) = false := by rw [int_may]; simp; omega
          have hmB : mayB (.mk 3 false b [] [] []) = false := by rw [int_may]; simp; omega
          clear hj0
          refine (parse_n s _ _ HR.out her (by omega) wr HS1.out.laid).mono ?_
          rintro _ w2 ⟨cs2, v2, rfl, hv2, hb2⟩
          obtain ⟨k2, b2, n2, s2, N2, nn2, nc2, A2, m2, c2, rfl⟩ := hv2.form
          have HV2 := Lib.hid ((HV1.out.below hb2).below (alloc_below w2 (.cells #[.int .i64 k2, .bool b2, .int .i64 n2, .string s2, .slice N2 nn2 nc2, .slice A2 m2 c2] 27)))
          have HS2 := Lib.hid ((HS1.out.next hb2).alloc (.cells #[.int .i64 k2, .bool b2, .int .i64 n2, .string s2, .slice N2 nn2 nc2, .slice A2 m2 c2] 27))
          clear hv2 hb2 HV1 HS1 HR her
          go_wp2_with fail
          generalize w2.heap.size = g2 at *
          generalize w2.alloc (.cells #[.int .i64 k2, .bool b2, .int .i64 n2, .string s2, .slice N2 nn2 nc2, .slice A2 m2 c2] 27) = W2 at HV2 HS2 ⊢
          refine (i_walk W2 a).mono ?_
          rintro _ W3 ⟨rfl, hb3⟩
          have HV3 := Lib.hid (HV2.out.below hb3)
          have HS3 := Lib.hid (HS2.out.next hb3)
          clear hb3 HV2 HS2
          go_wp2_with fail
          have cpr := rprintm_walk (.mk 3 false a [] [] []) (cells6 3 false a [] none 0 0 none 0 0) W3 (by rw [smJ, smJs]; simp; omega) (by simp [szJ, szJs]) HS3.out.laid.tab (jv_leaf _ _ _ _ _ _)
          simp only [cells6, strV] at cpr
          refine (cpr).mono ?_
          rintro _ W4 ⟨rfl, hb4⟩
          have HV4 := Lib.hid (HV3.out.below hb4)
          have HS4 := Lib.hid (HS3.out.next hb4)
          clear hb4 HV3 HS3
          obtain ⟨z, hz, hzs⟩ := mk_name (printJ (.mk 3 false a [] [] [])) (n := 40) hpl
          rw [hz]
          have k1 : ¬ 9223372036854775807 < z.size + 1 := by omega
          have hzl : (z ++ ⟨#[120]⟩).data.toList = printJ (.mk 3 false a [] [] []) ++ [120] := by rw [ByteArray.data_append, Array.toList_append, ← hz]
          have HZL := Lib.hid hzl
          obtain ⟨ef, hef⟩ : ∃ ef, (parseL (printJ (.mk 3 false a [] [] []) ++ [120])).1 = ef := ⟨_, rfl⟩
          have HFF := Lib.hid hef
          clear hzl hz hef
          go_wp2_with fail
          have q1 : (z ++ ⟨#[120]⟩ : ByteArray).size ≤ 1000000 := by rw [ByteArray.size_append]; show z.size + 1 ≤ _; omega
          have q2 := parse_n (z ++ ⟨#[120]⟩) _ _ HZL.out HFF.out q1 W4 HS4.out.laid
          refine q2.mono ?_
          clear q1 q2
          rintro _ w5 ⟨cs5, v5, rfl, hv5, hb5⟩
          obtain ⟨k5, b5, n5, s5, N5, nn5, nc5, A5, m5, c5, rfl⟩ := hv5.form
          have HV5 := Lib.hid ((HV4.out.below hb5).below (alloc_below w5 (.cells #[.int .i64 k5, .bool b5, .int .i64 n5, .string s5, .slice N5 nn5 nc5, .slice A5 m5 c5] 27)))
          have HS5 := Lib.hid ((HS4.out.next hb5).alloc (.cells #[.int .i64 k5, .bool b5, .int .i64 n5, .string s5, .slice N5 nn5 nc5, .slice A5 m5 c5] 27))
          clear hv5 hb5 HV4 HS4 HZL HFF k1 hzs
          go_wp2_with fail
          generalize w5.heap.size = g5 at *
          generalize w5.alloc (.cells #[.int .i64 k5, .bool b5, .int .i64 n5, .string s5, .slice N5 nn5 nc5, .slice A5 m5 c5] 27) = W5 at HV5 HS5 ⊢
          refine (parse_g W5 HS5.out.laid).mono ?_
          rintro _ w6 ⟨cs6, v6, rfl, hv6, hb6⟩
          obtain ⟨k6, b6, n6, s6, N6, nn6, nc6, A6, m6, c6, rfl⟩ := hv6.form
          have HV6 := Lib.hid ((HV5.out.below hb6).below (alloc_below w6 (.cells #[.int .i64 k6, .bool b6, .int .i64 n6, .string s6, .slice N6 nn6 nc6, .slice A6 m6 c6] 27)))
          have HS6 := Lib.hid ((HS5.out.next hb6).alloc (.cells #[.int .i64 k6, .bool b6, .int .i64 n6, .string s6, .slice N6 nn6 nc6, .slice A6 m6 c6] 27))
          clear hv6 hb6 HV5 HS5
          go_wp2_with fail
          generalize w6.heap.size = g6 at *
          generalize w6.alloc (.cells #[.int .i64 k6, .bool b6, .int .i64 n6, .string s6, .slice N6 nn6 nc6, .slice A6 m6 c6] 27) = W6 at HV6 HS6 ⊢
          refine (parse_h W6 HS6.out.laid).mono ?_
          rintro _ w7 ⟨N7, nc7, A7, c7, rfl, hb7⟩
          have HV7 := Lib.hid ((HV6.out.below hb7).below (alloc_below w7 (.cells #[.int .i64 3, .bool false, .int .i64 (-9007199254740992), .string ⟨#[]⟩, .slice N7 0 nc7, .slice A7 0 c7] 27)))
          have HS7 := Lib.hid ((HS6.out.next hb7).alloc (.cells #[.int .i64 3, .bool false, .int .i64 (-9007199254740992), .string ⟨#[]⟩, .slice N7 0 nc7, .slice A7 0 c7] 27))
          have HN7 := Lib.hid (Blk.new w7 27 #[.int .i64 3, .bool false, .int .i64 (-9007199254740992), .string ⟨#[]⟩, .slice N7 0 nc7, .slice A7 0 c7])
          clear hb7 HV6 HS6
          obtain ⟨l0, l1, l2, l3, l4, l5⟩ := six_cells HV7.out.blk
          have n2 : (w7.alloc (.cells #[.int .i64 3, .bool false, .int .i64 (-9007199254740992), .string ⟨#[]⟩, .slice N7 0 nc7, .slice A7 0 c7] 27)).cell? ⟨w7.heap.size, 2, none⟩ = some (.int .i64 (-9007199254740992)) := HN7.out.cell 2
          go_wp2_with fail
          generalize w7.heap.size = g7 at *
          generalize w7.alloc (.cells #[.int .i64 3, .bool false, .int .i64 (-9007199254740992), .string ⟨#[]⟩, .slice N7 0 nc7, .slice A7 0 c7] 27) = W7 at HV7 HS7 l0 l1 l2 l3 l4 l5 n2 HN7 ⊢
          refine (may_walk (nestJ i) _ W7 (nest_sm i) HV7.out.val).mono ?_
          rintro _ W8 ⟨rfl, hb8⟩
          rw [hmay]
          have HV8 := Lib.hid (HV7.out.below hb8)
          have HS8 := Lib.hid (HS7.out.next hb8)
          have n3 : W8.cell? ⟨g7, 2, none⟩ = some (.int .i64 (-9007199254740992)) := (HN7.out.below hb8 HN7.out.lt).cell 2
          have HN8 := Lib.hid (HN7.out.below hb8 HN7.out.lt)
          clear hb8 HV7 HS7 HN7 n2 l0 l1 l2 l3 l4 l5
          go_wp2_with fail
          refine (i_walk W8 a).mono ?_
          rintro _ W9 ⟨rfl, hb9⟩
          have HV9 := Lib.hid (HV8.out.below hb9)
          have HS9 := Lib.hid (HS8.out.next hb9)
          have HN9 := Lib.hid (HN8.out.below hb9 HN8.out.lt)
          clear hb9 HV8 HS8 HN8 n3
          have n3 := HN9.out.cell 2
          simp only [List.getElem?_toArray, List.getElem?_cons_zero, List.getElem?_cons_succ] at n3
          go_wp2_with fail
          have cmy := may_walk (.mk 3 false a [] [] []) (cells6 3 false a [] none 0 0 none 0 0) W9 (by rw [smJ, smJs]; simp; omega) (jv_leaf _ _ _ _ _ _)
          simp only [cells6, strV, hmA] at cmy
          refine cmy.mono ?_
          rintro _ W10 ⟨rfl, hb10⟩
          have HV10 := Lib.hid (HV9.out.below hb10)
          have HS10 := Lib.hid (HS9.out.next hb10)
          have HN10 := Lib.hid (HN9.out.below hb10 HN9.out.lt)
          clear hb10 HV9 HS9 HN9 n3
          have n3 := HN10.out.cell 2
          simp only [List.getElem?_toArray, List.getElem?_cons_zero, List.getElem?_cons_succ] at n3
          go_wp2_with fail
          refine (i_walk W10 b).mono ?_
          rintro _ W11 ⟨rfl, hb11⟩
          have HV11 := Lib.hid (HV10.out.below hb11)
          have HS11 := Lib.hid (HS10.out.next hb11)
          have HN11 := Lib.hid (HN10.out.below hb11 HN10.out.lt)
          clear hb11 HV10 HS10 HN10 n3
          have n3 := HN11.out.cell 2
          simp only [List.getElem?_toArray, List.getElem?_cons_zero, List.getElem?_cons_succ] at n3
          go_wp2_with fail
          have cmy := may_walk (.mk 3 false b [] [] []) (cells6 3 false b [] none 0 0 none 0 0) W11 (by rw [smJ, smJs]; simp; omega) (jv_leaf _ _ _ _ _ _)
          simp only [cells6, strV, hmB] at cmy
          refine cmy.mono ?_
          rintro _ W12 ⟨rfl, hb12⟩
          have HV12 := Lib.hid (HV11.out.below hb12)
          have HS12 := Lib.hid (HS11.out.next hb12)
          have HN12 := Lib.hid (HN11.out.below hb12 HN11.out.lt)
          clear hb12 HV11 HS11 HN11 n3
          have n3 := HN12.out.cell 2
          simp only [List.getElem?_toArray, List.getElem?_cons_zero, List.getElem?_cons_succ] at n3
          go_wp2_with fail
          go_ret
          exact ⟨rfl, HS12.out.below⟩
      · have d8 : decide (8 < (i : Int)) = false := by simp; omega
        have d9 : decide ((i : Int) ≤ 8) = true := by simp; omega
        have d8' : decide (8 < i) = false := by simp; omega
        have d9' : decide (i ≤ 8) = true := by simp; omega
        have her : (parseL (List.replicate i 91)).1 = 3 := by rw [her0]; simp [h8]
        have hmay : mayB (nestJ i) = true := by rw [hmay0]; exact d9'
        clear h8 her0 hmay0
        by_cases hj0 : j ≤ 0
        · have dj : decide (j ≤ 0) = true := by simp; omega
          have dj2 : decide (0 < j) = false := by simp; omega
          have hmA : mayB (.mk 3 false a [] [] []) = true := by rw [int_may]; simp; omega
          have hmB : mayB (.mk 3 false b [] [] []) = true := by rw [int_may]; simp; omega
          have hF : (parseL (printJ (.mk 3 false a [] [] []) ++ [120])).1 = 5 := by
            rw [printJ, if_pos hmA, jprint, if_neg (by decide), if_neg (by decide), if_pos rfl]
            exact deep_f a (by omega) (by omega)
          clear hj0
          refine (parse_n s _ _ HR.out her (by omega) wr HS1.out.laid).mono ?_
          rintro _ w2 ⟨cs2, v2, rfl, hv2, hb2⟩
          obtain ⟨k2, b2, n2, s2, N2, nn2, nc2, A2, m2, c2, rfl⟩ := hv2.form
          have HV2 := Lib.hid ((HV1.out.below hb2).below (alloc_below w2 (.cells #[.int .i64 k2, .bool b2, .int .i64 n2, .string s2, .slice N2 nn2 nc2, .slice A2 m2 c2] 27)))
          have HS2 := Lib.hid ((HS1.out.next hb2).alloc (.cells #[.int .i64 k2, .bool b2, .int .i64 n2, .string s2, .slice N2 nn2 nc2, .slice A2 m2 c2] 27))
          clear hv2 hb2 HV1 HS1 HR her
          go_wp2_with fail
          generalize w2.heap.size = g2 at *
          generalize w2.alloc (.cells #[.int .i64 k2, .bool b2, .int .i64 n2, .string s2, .slice N2 nn2 nc2, .slice A2 m2 c2] 27) = W2 at HV2 HS2 ⊢
          refine (i_walk W2 a).mono ?_
          rintro _ W3 ⟨rfl, hb3⟩
          have HV3 := Lib.hid (HV2.out.below hb3)
          have HS3 := Lib.hid (HS2.out.next hb3)
          clear hb3 HV2 HS2
          go_wp2_with fail
          have cpr := rprintm_walk (.mk 3 false a [] [] []) (cells6 3 false a [] none 0 0 none 0 0) W3 (by rw [smJ, smJs]; simp; omega) (by simp [szJ, szJs]) HS3.out.laid.tab (jv_leaf _ _ _ _ _ _)
          simp only [cells6, strV] at cpr
          refine (cpr).mono ?_
          rintro _ W4 ⟨rfl, hb4⟩
          have HV4 := Lib.hid (HV3.out.below hb4)
          have HS4 := Lib.hid (HS3.out.next hb4)
          clear hb4 HV3 HS3
          obtain ⟨z, hz, hzs⟩ := mk_name (printJ (.mk 3 false a [] [] [])) (n := 40) hpl
          rw [hz]
          have k1 : ¬ 9223372036854775807 < z.size + 1 := by omega
          have hzl : (z ++ ⟨#[120]⟩).data.toList = printJ (.mk 3 false a [] [] []) ++ [120] := by rw [ByteArray.data_append, Array.toList_append, ← hz]
          have HZL := Lib.hid hzl
          have HFF := Lib.hid hF
          clear hzl hz hF
          go_wp2_with fail
          have q1 : (z ++ ⟨#[120]⟩ : ByteArray).size ≤ 1000000 := by rw [ByteArray.size_append]; show z.size + 1 ≤ _; omega
          have q2 := parse_n (z ++ ⟨#[120]⟩) _ _ HZL.out HFF.out q1 W4 HS4.out.laid
          refine q2.mono ?_
          clear q1 q2
          rintro _ w5 ⟨cs5, v5, rfl, hv5, hb5⟩
          obtain ⟨k5, b5, n5, s5, N5, nn5, nc5, A5, m5, c5, rfl⟩ := hv5.form
          have HV5 := Lib.hid ((HV4.out.below hb5).below (alloc_below w5 (.cells #[.int .i64 k5, .bool b5, .int .i64 n5, .string s5, .slice N5 nn5 nc5, .slice A5 m5 c5] 27)))
          have HS5 := Lib.hid ((HS4.out.next hb5).alloc (.cells #[.int .i64 k5, .bool b5, .int .i64 n5, .string s5, .slice N5 nn5 nc5, .slice A5 m5 c5] 27))
          clear hv5 hb5 HV4 HS4 HZL HFF k1 hzs
          go_wp2_with fail
          generalize w5.heap.size = g5 at *
          generalize w5.alloc (.cells #[.int .i64 k5, .bool b5, .int .i64 n5, .string s5, .slice N5 nn5 nc5, .slice A5 m5 c5] 27) = W5 at HV5 HS5 ⊢
          refine (parse_g W5 HS5.out.laid).mono ?_
          rintro _ w6 ⟨cs6, v6, rfl, hv6, hb6⟩
          obtain ⟨k6, b6, n6, s6, N6, nn6, nc6, A6, m6, c6, rfl⟩ := hv6.form
          have HV6 := Lib.hid ((HV5.out.below hb6).below (alloc_below w6 (.cells #[.int .i64 k6, .bool b6, .int .i64 n6, .string s6, .slice N6 nn6 nc6, .slice A6 m6 c6] 27)))
          have HS6 := Lib.hid ((HS5.out.next hb6).alloc (.cells #[.int .i64 k6, .bool b6, .int .i64 n6, .string s6, .slice N6 nn6 nc6, .slice A6 m6 c6] 27))
          clear hv6 hb6 HV5 HS5
          go_wp2_with fail
          generalize w6.heap.size = g6 at *
          generalize w6.alloc (.cells #[.int .i64 k6, .bool b6, .int .i64 n6, .string s6, .slice N6 nn6 nc6, .slice A6 m6 c6] 27) = W6 at HV6 HS6 ⊢
          refine (parse_h W6 HS6.out.laid).mono ?_
          rintro _ w7 ⟨N7, nc7, A7, c7, rfl, hb7⟩
          have HV7 := Lib.hid ((HV6.out.below hb7).below (alloc_below w7 (.cells #[.int .i64 3, .bool false, .int .i64 (-9007199254740992), .string ⟨#[]⟩, .slice N7 0 nc7, .slice A7 0 c7] 27)))
          have HS7 := Lib.hid ((HS6.out.next hb7).alloc (.cells #[.int .i64 3, .bool false, .int .i64 (-9007199254740992), .string ⟨#[]⟩, .slice N7 0 nc7, .slice A7 0 c7] 27))
          have HN7 := Lib.hid (Blk.new w7 27 #[.int .i64 3, .bool false, .int .i64 (-9007199254740992), .string ⟨#[]⟩, .slice N7 0 nc7, .slice A7 0 c7])
          clear hb7 HV6 HS6
          obtain ⟨l0, l1, l2, l3, l4, l5⟩ := six_cells HV7.out.blk
          have n2 : (w7.alloc (.cells #[.int .i64 3, .bool false, .int .i64 (-9007199254740992), .string ⟨#[]⟩, .slice N7 0 nc7, .slice A7 0 c7] 27)).cell? ⟨w7.heap.size, 2, none⟩ = some (.int .i64 (-9007199254740992)) := HN7.out.cell 2
          go_wp2_with fail
          generalize w7.heap.size = g7 at *
          generalize w7.alloc (.cells #[.int .i64 3, .bool false, .int .i64 (-9007199254740992), .string ⟨#[]⟩, .slice N7 0 nc7, .slice A7 0 c7] 27) = W7 at HV7 HS7 l0 l1 l2 l3 l4 l5 n2 HN7 ⊢
          refine (may_walk (nestJ i) _ W7 (nest_sm i) HV7.out.val).mono ?_
          rintro _ W8 ⟨rfl, hb8⟩
          rw [hmay]
          have HV8 := Lib.hid (HV7.out.below hb8)
          have HS8 := Lib.hid (HS7.out.next hb8)
          have n3 : W8.cell? ⟨g7, 2, none⟩ = some (.int .i64 (-9007199254740992)) := (HN7.out.below hb8 HN7.out.lt).cell 2
          have HN8 := Lib.hid (HN7.out.below hb8 HN7.out.lt)
          clear hb8 HV7 HS7 HN7 n2 l0 l1 l2 l3 l4 l5
          go_wp2_with fail
          refine (i_walk W8 a).mono ?_
          rintro _ W9 ⟨rfl, hb9⟩
          have HV9 := Lib.hid (HV8.out.below hb9)
          have HS9 := Lib.hid (HS8.out.next hb9)
          have HN9 := Lib.hid (HN8.out.below hb9 HN8.out.lt)
          clear hb9 HV8 HS8 HN8 n3
          have n3 := HN9.out.cell 2
          simp only [List.getElem?_toArray, List.getElem?_cons_zero, List.getElem?_cons_succ] at n3
          go_wp2_with fail
          have cmy := may_walk (.mk 3 false a [] [] []) (cells6 3 false a [] none 0 0 none 0 0) W9 (by rw [smJ, smJs]; simp; omega) (jv_leaf _ _ _ _ _ _)
          simp only [cells6, strV, hmA] at cmy
          refine cmy.mono ?_
          rintro _ W10 ⟨rfl, hb10⟩
          have HV10 := Lib.hid (HV9.out.below hb10)
          have HS10 := Lib.hid (HS9.out.next hb10)
          have HN10 := Lib.hid (HN9.out.below hb10 HN9.out.lt)
          clear hb10 HV9 HS9 HN9 n3
          have n3 := HN10.out.cell 2
          simp only [List.getElem?_toArray, List.getElem?_cons_zero, List.getElem?_cons_succ] at n3
          go_wp2_with fail
          refine (i_walk W10 b).mono ?_
          rintro _ W11 ⟨rfl, hb11⟩
          have HV11 := Lib.hid (HV10.out.below hb11)
          have HS11 := Lib.hid (HS10.out.next hb11)
          have HN11 := Lib.hid (HN10.out.below hb11 HN10.out.lt)
          clear hb11 HV10 HS10 HN10 n3
          have n3 := HN11.out.cell 2
          simp only [List.getElem?_toArray, List.getElem?_cons_zero, List.getElem?_cons_succ] at n3
          go_wp2_with fail
          have cmy := may_walk (.mk 3 false b [] [] []) (cells6 3 false b [] none 0 0 none 0 0) W11 (by rw [smJ, smJs]; simp; omega) (jv_leaf _ _ _ _ _ _)
          simp only [cells6, strV, hmB] at cmy
          refine cmy.mono ?_
          rintro _ W12 ⟨rfl, hb12⟩
          have HV12 := Lib.hid (HV11.out.below hb12)
          have HS12 := Lib.hid (HS11.out.next hb12)
          have HN12 := Lib.hid (HN11.out.below hb12 HN11.out.lt)
          clear hb12 HV11 HS11 HN11 n3
          have n3 := HN12.out.cell 2
          simp only [List.getElem?_toArray, List.getElem?_cons_zero, List.getElem?_cons_succ] at n3
          go_wp2_with fail
          go_ret
          exact ⟨rfl, HS12.out.below⟩
        · have dj : decide (j ≤ 0) = false := by simp; omega
          have dj2 : decide (0 < j) = true := by simp; omega
          have hmA : mayB (.mk 3 false a [] [] []) = false := by rw [int_may]; simp; omega
          have hmB : mayB (.mk 3 false b [] [] []) = false := by rw [int_may]; simp; omega
          clear hj0
          refine (parse_n s _ _ HR.out her (by omega) wr HS1.out.laid).mono ?_
          rintro _ w2 ⟨cs2, v2, rfl, hv2, hb2⟩
          obtain ⟨k2, b2, n2, s2, N2, nn2, nc2, A2, m2, c2, rfl⟩ := hv2.form
          have HV2 := Lib.hid ((HV1.out.below hb2).below (alloc_below w2 (.cells #[.int .i64 k2, .bool b2, .int .i64 n2, .string s2, .slice N2 nn2 nc2, .slice A2 m2 c2] 27)))
          have HS2 := Lib.hid ((HS1.out.next hb2).alloc (.cells #[.int .i64 k2, .bool b2, .int .i64 n2, .string s2, .slice N2 nn2 nc2, .slice A2 m2 c2] 27))
          clear hv2 hb2 HV1 HS1 HR her
          go_wp2_with fail
          generalize w2.heap.size = g2 at *
          generalize w2.alloc (.cells #[.int .i64 k2, .bool b2, .int .i64 n2, .string s2, .slice N2 nn2 nc2, .slice A2 m2 c2] 27) = W2 at HV2 HS2 ⊢
          refine (i_walk W2 a).mono ?_
          rintro _ W3 ⟨rfl, hb3⟩
          have HV3 := Lib.hid (HV2.out.below hb3)
          have HS3 := Lib.hid (HS2.out.next hb3)
          clear hb3 HV2 HS2
          go_wp2_with fail
          have cpr := rprintm_walk (.mk 3 false a [] [] []) (cells6 3 false a [] none 0 0 none 0 0) W3 (by rw [smJ, smJs]; simp; omega) (by simp [szJ, szJs]) HS3.out.laid.tab (jv_leaf _ _ _ _ _ _)
          simp only [cells6, strV] at cpr
          refine (cpr).mono ?_
          rintro _ W4 ⟨rfl, hb4⟩
          have HV4 := Lib.hid (HV3.out.below hb4)
          have HS4 := Lib.hid (HS3.out.next hb4)
          clear hb4 HV3 HS3
          obtain ⟨z, hz, hzs⟩ := mk_name (printJ (.mk 3 false a [] [] [])) (n := 40) hpl
          rw [hz]
          have k1 : ¬ 9223372036854775807 < z.size + 1 := by omega
          have hzl : (z ++ ⟨#[120]⟩).data.toList = printJ (.mk 3 false a [] [] []) ++ [120] := by rw [ByteArray.data_append, Array.toList_append, ← hz]
          have HZL := Lib.hid hzl
          obtain ⟨ef, hef⟩ : ∃ ef, (parseL (printJ (.mk 3 false a [] [] []) ++ [120])).1 = ef := ⟨_, rfl⟩
          have HFF := Lib.hid hef
          clear hzl hz hef
          go_wp2_with fail
          have q1 : (z ++ ⟨#[120]⟩ : ByteArray).size ≤ 1000000 := by rw [ByteArray.size_append]; show z.size + 1 ≤ _; omega
          have q2 := parse_n (z ++ ⟨#[120]⟩) _ _ HZL.out HFF.out q1 W4 HS4.out.laid
          refine q2.mono ?_
          clear q1 q2
          rintro _ w5 ⟨cs5, v5, rfl, hv5, hb5⟩
          obtain ⟨k5, b5, n5, s5, N5, nn5, nc5, A5, m5, c5, rfl⟩ := hv5.form
          have HV5 := Lib.hid ((HV4.out.below hb5).below (alloc_below w5 (.cells #[.int .i64 k5, .bool b5, .int .i64 n5, .string s5, .slice N5 nn5 nc5, .slice A5 m5 c5] 27)))
          have HS5 := Lib.hid ((HS4.out.next hb5).alloc (.cells #[.int .i64 k5, .bool b5, .int .i64 n5, .string s5, .slice N5 nn5 nc5, .slice A5 m5 c5] 27))
          clear hv5 hb5 HV4 HS4 HZL HFF k1 hzs
          go_wp2_with fail
          generalize w5.heap.size = g5 at *
          generalize w5.alloc (.cells #[.int .i64 k5, .bool b5, .int .i64 n5, .string s5, .slice N5 nn5 nc5, .slice A5 m5 c5] 27) = W5 at HV5 HS5 ⊢
          refine (parse_g W5 HS5.out.laid).mono ?_
          rintro _ w6 ⟨cs6, v6, rfl, hv6, hb6⟩
          obtain ⟨k6, b6, n6, s6, N6, nn6, nc6, A6, m6, c6, rfl⟩ := hv6.form
          have HV6 := Lib.hid ((HV5.out.below hb6).below (alloc_below w6 (.cells #[.int .i64 k6, .bool b6, .int .i64 n6, .string s6, .slice N6 nn6 nc6, .slice A6 m6 c6] 27)))
          have HS6 := Lib.hid ((HS5.out.next hb6).alloc (.cells #[.int .i64 k6, .bool b6, .int .i64 n6, .string s6, .slice N6 nn6 nc6, .slice A6 m6 c6] 27))
          clear hv6 hb6 HV5 HS5
          go_wp2_with fail
          generalize w6.heap.size = g6 at *
          generalize w6.alloc (.cells #[.int .i64 k6, .bool b6, .int .i64 n6, .string s6, .slice N6 nn6 nc6, .slice A6 m6 c6] 27) = W6 at HV6 HS6 ⊢
          refine (parse_h W6 HS6.out.laid).mono ?_
          rintro _ w7 ⟨N7, nc7, A7, c7, rfl, hb7⟩
          have HV7 := Lib.hid ((HV6.out.below hb7).below (alloc_below w7 (.cells #[.int .i64 3, .bool false, .int .i64 (-9007199254740992), .string ⟨#[]⟩, .slice N7 0 nc7, .slice A7 0 c7] 27)))
          have HS7 := Lib.hid ((HS6.out.next hb7).alloc (.cells #[.int .i64 3, .bool false, .int .i64 (-9007199254740992), .string ⟨#[]⟩, .slice N7 0 nc7, .slice A7 0 c7] 27))
          have HN7 := Lib.hid (Blk.new w7 27 #[.int .i64 3, .bool false, .int .i64 (-9007199254740992), .string ⟨#[]⟩, .slice N7 0 nc7, .slice A7 0 c7])
          clear hb7 HV6 HS6
          obtain ⟨l0, l1, l2, l3, l4, l5⟩ := six_cells HV7.out.blk
          have n2 : (w7.alloc (.cells #[.int .i64 3, .bool false, .int .i64 (-9007199254740992), .string ⟨#[]⟩, .slice N7 0 nc7, .slice A7 0 c7] 27)).cell? ⟨w7.heap.size, 2, none⟩ = some (.int .i64 (-9007199254740992)) := HN7.out.cell 2
          go_wp2_with fail
          generalize w7.heap.size = g7 at *
          generalize w7.alloc (.cells #[.int .i64 3, .bool false, .int .i64 (-9007199254740992), .string ⟨#[]⟩, .slice N7 0 nc7, .slice A7 0 c7] 27) = W7 at HV7 HS7 l0 l1 l2 l3 l4 l5 n2 HN7 ⊢
          refine (may_walk (nestJ i) _ W7 (nest_sm i) HV7.out.val).mono ?_
          rintro _ W8 ⟨rfl, hb8⟩
          rw [hmay]
          have HV8 := Lib.hid (HV7.out.below hb8)
          have HS8 := Lib.hid (HS7.out.next hb8)
          have n3 : W8.cell? ⟨g7, 2, none⟩ = some (.int .i64 (-9007199254740992)) := (HN7.out.below hb8 HN7.out.lt).cell 2
          have HN8 := Lib.hid (HN7.out.below hb8 HN7.out.lt)
          clear hb8 HV7 HS7 HN7 n2 l0 l1 l2 l3 l4 l5
          go_wp2_with fail
          refine (i_walk W8 a).mono ?_
          rintro _ W9 ⟨rfl, hb9⟩
          have HV9 := Lib.hid (HV8.out.below hb9)
          have HS9 := Lib.hid (HS8.out.next hb9)
          have HN9 := Lib.hid (HN8.out.below hb9 HN8.out.lt)
          clear hb9 HV8 HS8 HN8 n3
          have n3 := HN9.out.cell 2
          simp only [List.getElem?_toArray, List.getElem?_cons_zero, List.getElem?_cons_succ] at n3
          go_wp2_with fail
          have cmy := may_walk (.mk 3 false a [] [] []) (cells6 3 false a [] none 0 0 none 0 0) W9 (by rw [smJ, smJs]; simp; omega) (jv_leaf _ _ _ _ _ _)
          simp only [cells6, strV, hmA] at cmy
          refine cmy.mono ?_
          rintro _ W10 ⟨rfl, hb10⟩
          have HV10 := Lib.hid (HV9.out.below hb10)
          have HS10 := Lib.hid (HS9.out.next hb10)
          have HN10 := Lib.hid (HN9.out.below hb10 HN9.out.lt)
          clear hb10 HV9 HS9 HN9 n3
          have n3 := HN10.out.cell 2
          simp only [List.getElem?_toArray, List.getElem?_cons_zero, List.getElem?_cons_succ] at n3
          go_wp2_with fail
          refine (i_walk W10 b).mono ?_
          rintro _ W11 ⟨rfl, hb11⟩
          have HV11 := Lib.hid (HV10.out.below hb11)
          have HS11 := Lib.hid (HS10.out.next hb11)
          have HN11 := Lib.hid (HN10.out.below hb11 HN10.out.lt)
          clear hb11 HV10 HS10 HN10 n3
          have n3 := HN11.out.cell 2
          simp only [List.getElem?_toArray, List.getElem?_cons_zero, List.getElem?_cons_succ] at n3
          go_wp2_with fail
          have cmy := may_walk (.mk 3 false b [] [] []) (cells6 3 false b [] none 0 0 none 0 0) W11 (by rw [smJ, smJs]; simp; omega) (jv_leaf _ _ _ _ _ _)
          simp only [cells6, strV, hmB] at cmy
          refine cmy.mono ?_
          rintro _ W12 ⟨rfl, hb12⟩
          have HV12 := Lib.hid (HV11.out.below hb12)
          have HS12 := Lib.hid (HS11.out.next hb12)
          have HN12 := Lib.hid (HN11.out.below hb12 HN11.out.lt)
          clear hb12 HV11 HS11 HN11 n3
          have n3 := HN12.out.cell 2
          simp only [List.getElem?_toArray, List.getElem?_cons_zero, List.getElem?_cons_succ] at n3
          go_wp2_with fail
          go_ret
          exact ⟨rfl, HS12.out.below⟩
end Go.Proofs.YtokgkifckgnabaaDoor

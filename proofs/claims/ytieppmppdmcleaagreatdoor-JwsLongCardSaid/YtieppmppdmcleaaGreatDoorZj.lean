/- JwsLong: claims that are too long are not signed. Condition: the laid variables. -/
import Derived.Test.YtieppmppdmcleaaGreatDoorZi
set_option linter.unusedVariables false
set_option linter.unusedSimpArgs false
set_option maxRecDepth 20000
namespace Go.Proofs.YtieppmppdmcleaaGreatDoor
open Go.RowKit Go.Maps
def sL (k : Nat) : List UInt8 := List.replicate k 115
def loJ (k : Nat) : Jv := .mk 6 false 0 [] [[97]] [.mk 4 false 0 (sL k) [] []]
theorem sL_succ (k : Nat) : sL (k + 1) = sL k ++ [115] := List.replicate_succ'
theorem dc_s (r : List UInt8) : Tx.dc (115 :: r) = (115, 1) := by unfold Tx.dc; rfl
theorem sL_valid : ∀ k, validL (sL k) = true
  | 0 => valid_nil
  | k + 1 => by
    have ih := sL_valid k
    rw [validL] at ih ⊢
    rw [show sL (k + 1) = 115 :: sL k from rfl, Tx.runes_cons _ (by simp), dc_s]
    rw [List.all_cons]
    simp only [List.drop_one, List.tail_cons]
    rw [ih]
    rfl
theorem lo_may (k : Nat) : mayB (loJ k) = true := by
  have h3 : mayJ validL (.mk 4 false 0 (sL k) [] []) 1 = true := by rw [mayJ]; simp [aloneB, sL_valid]
  have hm : mayJs validL [.mk 4 false 0 (sL k) [] []] 1 = true := mayJs_good fun j x hj hx => by
    match j, hx with
    | 0, hx => simp at hx; subst hx; exact h3
    | j + 1, hx => simp at hx
  exact may_obj hm (by decide) (by decide +kernel) (by decide +kernel) rfl
theorem lo_sz (k : Nat) : szJ (loJ k) ≤ k + 10 := by
  rw [loJ, szJ]
  simp only [szJs, szJ, List.map_cons, List.map_nil, List.sum_cons, List.sum_nil, List.length_cons, List.length_nil, sL, List.length_replicate]
  omega
theorem lo_sm (k : Nat) (h : k ≤ 5000) : smJ (loJ k) := smJ_of_may _ 0 (lo_may k) (by have := lo_sz k; omega)
theorem lo_long (k : Nat) (h : k ≤ 5000) : (signL 1 (loJ k) ≠ []) ↔ 19 + ((printJ (loJ k)).length * 8 + 5) / 6 ≤ 1024 := by
  have hf : (frontL (printJ (loJ k))).length = 19 + ((printJ (loJ k)).length * 8 + 5) / 6 := by
    have h2 := K9.B64.enc_length (printJ (loJ k))
    have h3 := enc_hd
    rw [frontL]
    simp only [List.length_append, List.length_cons, List.length_nil]
    omega
  rw [← hf, sign_ref]
  by_cases h1 : (frontL (printJ (loJ k))).length ≤ 1024
  · rw [if_pos ⟨by decide, by decide, rfl, lo_may k, h1⟩]
    simp only [h1, iff_true]
    simp [frontL]
  · rw [if_neg (fun e => h1 e.2.2.2.2)]
    simp only [h1, iff_false]
    simp
theorem lo_rows {W : World} {lo k : Nat} {b0 b4 : Nat} {t0 t4 : TypeId} (h0 : Blk W b0 t0 #[.string ⟨#[97]⟩]) (h4 : Blk W b4 t4 #[.int .i64 4, .bool false, .int .i64 0, .string ⟨(sL k).toArray⟩, .slice none 0 0, .slice none 0 0]) (hl0 : lo ≤ b0) (hl4 : lo ≤ b4) :
    JvV W lo (loJ k) [.int .i64 6, .bool false, .int .i64 0, .string ⟨#[]⟩, .slice (some ⟨b0, 0, none⟩) 1 1, .slice (some ⟨b4, 0, none⟩) 1 1] := by
  rw [loJ, JvV]
  refine ⟨some ⟨b0, 0, none⟩, 1, some ⟨b4, 0, none⟩, 1, [[.int .i64 4, .bool false, .int .i64 0, .string ⟨(sL k).toArray⟩, .slice none 0 0, .slice none 0 0]], rfl, ⟨by decide, by decide⟩, ⟨by simp, by decide⟩, ?_, fun _ ad e => by injection e with e; rw [← e]; exact hl0, ?_, fun _ ad e => by injection e with e; rw [← e]; exact hl4, ?_⟩
  · exact ⟨rfl, fun _ => ⟨_, rfl, h0.lt, fun j x hx => blk_cells (cs := [.string ⟨#[97]⟩]) h0 j x hx⟩⟩
  · exact ⟨rfl, fun _ => ⟨_, rfl, h4.lt, fun j x hx => blk_cells (cs := [.int .i64 4, .bool false, .int .i64 0, .string ⟨(sL k).toArray⟩, .slice none 0 0, .slice none 0 0]) h4 j x (by simpa using hx)⟩⟩
  · rw [JvsV]
    refine ⟨_, _, rfl, jv_leaf _ _ _ _ _ _, ?_⟩
    rw [JvsV]
set_option maxHeartbeats 16000000 in
theorem long15_law (n : Int) (w : World) (hn : -9223372036854775808 ≤ n ∧ n ≤ 9223372036854775807) (hL : LaidB w w.heap.size) :
    Calls Tryz.prog 6 #[.int .i64 n] w fun e w' => e = .returned (.bool true) ∧ Below w.heap.size w w' := by
  have ck := Lib.hid (known15_walk w hL)
  have cwk := Lib.hid (fun W => within15_walk n 1200 W (by decide) (by decide) hn)
  obtain ⟨K, hK, hK2⟩ : ∃ K : Nat, n % 1200 = K ∧ K < 1200 := ⟨(n % 1200).toNat, by have := Int.emod_nonneg n (show (1200 : Int) ≠ 0 by decide); omega, by have := Int.emod_lt_of_pos n (show (0 : Int) < 1200 by decide); omega⟩
  rw [hK] at cwk
  clear hL hn hK
  go_enter Tryz.func6, Tryz.ntmps6
  go_wp2_with fail
  refine ck.out.mono ?_
  rintro _ w1 ⟨rfl, hS1⟩
  have HA := Lib.hid (show StA w [] [] w1 from ⟨hS1.laid, hS1.below, fun p hp => by simp at hp, fun p hp => by simp at hp⟩)
  clear hS1 ck
  go_wp2_with fail
  refine (cwk.out _).mono ?_
  rintro _ _ ⟨rfl, rfl⟩
  clear cwk
  go_wp2_with fail
  go_loopw [4, 5] (fun sv iv wr => ∃ (i : Nat) (z : ByteArray), i ≤ K ∧ iv = .int .i64 (i : Int) ∧ sv = .string z ∧ Hid ((⟨(sL i).toArray⟩ : ByteArray) = z) ∧ wr = w1) (fun _ iv _ => K - (intOf iv).toNat)
  case atStart => exact ⟨0, ⟨#[]⟩, by omega, rfl, rfl, rfl, rfl⟩
  case round =>
    obtain ⟨i, z, hi, rfl, rfl, hz, rfl⟩ := hrel
    have hzl : z.size = i := by rw [← hz.out, size_mks]; simp [sL]
    by_cases hlt : i < K
    · have gi : decide ((i : Int) < (K : Int)) = true := by simp; omega
      have gi' : decide (i < K) = true := by simp; omega
      have q1 : ¬ 9223372036854775807 < z.size + 1 := by omega
      have hnx : Hid ((⟨(sL (i + 1)).toArray⟩ : ByteArray) = z ++ ⟨#[115]⟩) := by
        show _ = _
        rw [sL_succ, ← hz.out, show (⟨#[115]⟩ : ByteArray) = ⟨([115] : List UInt8).toArray⟩ from rfl, cat_mk]
      have HZL := Lib.hid hzl
      clear hzl
      go_wp2_with fail
      exact ⟨⟨i + 1, _, by omega, by go_num, rfl, hnx, by first | rfl | trivial⟩, by simp [intOf]; omega⟩
    · obtain rfl : i = K := by omega
      have gi : decide ((i : Int) < (i : Int)) = false := by simp
      have gi' : decide (i < i) = false := by simp
      have HZL := Lib.hid hzl
      clear hzl hlt hi
      go_wp2_with fail
      have HN1 := Lib.hid (Blk.new wr 9 #[.string ⟨#[97]⟩])
      have HB1 := Lib.hid (alloc_below wr (.cells #[.string ⟨#[97]⟩] 9))
      generalize wr.alloc (.cells #[.string ⟨#[97]⟩] 9) = W1 at HN1 HB1 ⊢
      refine (s_walk W1 z).mono ?_
      rintro _ W2 ⟨rfl, hb⟩
      have HB2 := Lib.hid (below_next HB1.out hb)
      have HN2 := Lib.hid (HN1.out.below hb HN1.out.lt)
      clear hb HB1 HN1
      go_wp2_with fail
      have HC2 := Lib.hid (Blk.new W2 26 #[.int .i64 4, .bool false, .int .i64 0, .string z, .slice none 0 0, .slice none 0 0])
      have hba := alloc_below W2 (.cells #[.int .i64 4, .bool false, .int .i64 0, .string z, .slice none 0 0, .slice none 0 0] 26)
      have HB3 := Lib.hid (below_next HB2.out hba)
      have HN3 := Lib.hid (HN2.out.below hba HN2.out.lt)
      clear hba HB2 HN2
      have hgk : wr.heap.size ≤ W2.heap.size := by have := HC2.out.lt; have := HN3.out.lt; have := HB3.out.size; simp at *; omega
      generalize W2.alloc (.cells #[.int .i64 4, .bool false, .int .i64 0, .string z, .slice none 0 0, .slice none 0 0] 26) = W3 at HC2 HB3 HN3 ⊢
      generalize W2.heap.size = gk at HC2 hgk ⊢
      have hrows := lo_rows (k := i) (lo := 0) HN3.out (by rw [hz.out]; exact HC2.out) (Nat.zero_le _) (Nat.zero_le _)
      have HR := Lib.hid hrows
      have HA3 := Lib.hid (HA.out.next HB3.out)
      clear hrows HC2 HN3 HB3 HA
      refine (o_walk W3 _ _ _ _ _ _).mono ?_
      rintro _ W4 ⟨rfl, hb⟩
      have HA4 := Lib.hid ((HA3.out.next hb).value (HR.out.below hb))
      clear hb HR HA3
      have hsm := lo_sm i (by omega)
      have hsz := lo_sz i
      have hlong := lo_long i (by omega)
      have HLONG := Lib.hid hlong
      have hsl := sign_len 1 (loJ i)
      obtain ⟨S, hS⟩ : ∃ S, signL 1 (loJ i) = S := ⟨_, rfl⟩
      have hvs : S ≠ [] → verO 1 S = some (loJ i) := fun h => by rw [← hS] at h ⊢; exact ver_sign h
      rw [hS] at HLONG hsl
      obtain ⟨zs, hzs, hzsl⟩ := mk_name S (n := 3000) hsl
      have hzd : zs.data.toList = S := by rw [← hzs]
      have hzz : zs.size = S.length := by rw [← hzs, size_mks]
      have csg := Lib.hid (fun W (hT : Tab W) cs (hv : JvV W 0 (loJ i) cs) => sign_w 1 (loJ i) cs zs (by rw [hS]; exact hzs) W hsm (by omega) hT hv)
      have cpr := Lib.hid (fun W (hT : Tab W) cs (hv : JvV W 0 (loJ i) cs) => rprintm_walk (loJ i) cs W hsm (by omega) hT hv)
      have hpl := print_le (loJ i) hsm (by omega)
      generalize printJ (loJ i) = p at cpr HLONG hpl
      have hvn : S = [] → verO 1 S = none := fun h => by rw [h]; rfl
      have HVS := Lib.hid hvs
      have HVN := Lib.hid hvn
      have HSM := Lib.hid hsm
      have HZD := Lib.hid hzd
      have HZZ := Lib.hid hzz
      clear hsm hsz hlong hS hvs hvn hzd hzs hz hzz HZL hgk
      obtain ⟨l0, l1, l2, l3, l4, l5⟩ := six_cells (HA4.out.vals (W4.heap.size, loJ i, [.int .i64 6, .bool false, .int .i64 0, .string ⟨#[]⟩, .slice (some ⟨wr.heap.size, 0, none⟩) 1 1, .slice (some ⟨gk, 0, none⟩) 1 1]) (by simp)).1
      go_wp2_with fail
      generalize W4.heap.size = gc at HA4 l0 l1 l2 l3 l4 l5 ⊢
      generalize W4.alloc (.cells #[.int .i64 6, .bool false, .int .i64 0, .string ⟨#[]⟩, .slice (some ⟨wr.heap.size, 0, none⟩) 1 1, .slice (some ⟨gk, 0, none⟩) 1 1] 26) = W5 at HA4 l0 l1 l2 l3 l4 l5 ⊢
      refine (csg.out W5 HA4.out.laid.tab _ (HA4.out.vals (gc, loJ i, [.int .i64 6, .bool false, .int .i64 0, .string ⟨#[]⟩, .slice (some ⟨wr.heap.size, 0, none⟩) 1 1, .slice (some ⟨gk, 0, none⟩) 1 1]) (by simp)).2).mono ?_
      rintro _ W6 ⟨rfl, hb⟩
      have HA6 := Lib.hid (HA4.out.next hb)
      clear hb HA4 l0 l1 l2 l3 l4 l5 csg
      go_wp2_with fail
      obtain ⟨o, ho⟩ : ∃ o, verO 1 S = o := ⟨_, rfl⟩
      have HO := Lib.hid ho
      refine (ver_w 1 zs S o ho HZD.out (by omega) W6 HA6.out.laid).mono ?_
      rintro _ w7 ⟨cs7, rfl, hv7, hb⟩
      obtain ⟨k7, b7, n7, s7, N7, nn7, nc7, A7, m7, c7, rfl⟩ := hv7.form
      have HA7 := Lib.hid ((HA6.out.next hb).value hv7)
      clear hb hv7 HA6 ho
      obtain ⟨l0, l1, l2, l3, l4, l5⟩ := six_cells (HA7.out.vals (gc, loJ i, [.int .i64 6, .bool false, .int .i64 0, .string ⟨#[]⟩, .slice (some ⟨wr.heap.size, 0, none⟩) 1 1, .slice (some ⟨gk, 0, none⟩) 1 1]) (by simp)).1
      go_wp2_with fail
      generalize w7.heap.size = gv at HA7 ⊢
      generalize w7.alloc (.cells #[.int .i64 k7, .bool b7, .int .i64 n7, .string s7, .slice N7 nn7 nc7, .slice A7 m7 c7] 26) = W8 at HA7 l0 l1 l2 l3 l4 l5 ⊢
      refine (cpr.out W8 HA7.out.laid.tab _ (HA7.out.vals (gc, loJ i, [.int .i64 6, .bool false, .int .i64 0, .string ⟨#[]⟩, .slice (some ⟨wr.heap.size, 0, none⟩) 1 1, .slice (some ⟨gk, 0, none⟩) 1 1]) (by simp)).2).mono ?_
      rintro _ W9 ⟨rfl, hb⟩
      have HA9 := Lib.hid (HA7.out.next hb)
      clear hb HA7 l0 l1 l2 l3 l4 l5 cpr
      obtain ⟨zp, hzp, hzpl⟩ := mk_name p hpl
      have hzpz : zp.size = p.length := by rw [← hzp, size_mks]
      rw [hzp]
      rw [← hzpz] at HLONG
      clear hzp hzpz hpl
      obtain ⟨q, hq⟩ : ∃ q : Nat, (zp.size * 8 + 5) / 6 = q := ⟨_, rfl⟩
      have hq1 : ((zp.size : Int) * 8 + 5) / 6 = (q : Int) := by omega
      have hq2 : ((zp.size : Int) * 8 + 5).tdiv 6 = (q : Int) := by rw [Int.tdiv_eq_ediv_of_nonneg (by omega)]; exact hq1
      have hqb : q ≤ 1000000 := by omega
      rw [hq] at HLONG
      clear hq
      by_cases hs0 : S = []
      · have hz0 : zs.size = 0 := by rw [HZZ.out, hs0]; rfl
        have ho : o = none := by rw [← HO.out]; exact HVN.out hs0
        have hfr : ¬ (19 + q ≤ 1024) := fun e => HLONG.out.2 e hs0
        have d1 : decide ((19 : Int) + (q : Int) ≤ 1024) = false := by simp; omega
        have d2 : decide (19 + q ≤ 1024) = false := by simp; omega
        subst ho
        clear hs0 hfr
        go_wp2_with fail
        go_ret
        exact ⟨rfl, HA9.out.below⟩
      · have hz0 : 0 < zs.size := by rw [HZZ.out]; exact List.length_pos_iff.2 hs0
        have e1 : decide ((0 : Int) < (zs.size : Int)) = true := by simp; omega
        have e2 : decide (0 < zs.size) = true := by simp; omega
        have ho : o = some (loJ i) := by rw [← HO.out]; exact HVS.out hs0
        have hfr : 19 + q ≤ 1024 := HLONG.out.1 hs0
        have d1 : decide ((19 : Int) + (q : Int) ≤ 1024) = true := by simp; omega
        have d2 : decide (19 + q ≤ 1024) = true := by simp; omega
        subst ho
        clear hs0 hfr hz0
        obtain ⟨l0, l1, l2, l3, l4, l5⟩ := six_cells (HA9.out.vals (gc, loJ i, [.int .i64 6, .bool false, .int .i64 0, .string ⟨#[]⟩, .slice (some ⟨wr.heap.size, 0, none⟩) 1 1, .slice (some ⟨gk, 0, none⟩) 1 1]) (by simp)).1
        obtain ⟨r0, r1, r2, r3, r4, r5⟩ := six_cells (HA9.out.vals (gv, loJ i, [.int .i64 k7, .bool b7, .int .i64 n7, .string s7, .slice N7 nn7 nc7, .slice A7 m7 c7]) (by simp)).1
        go_wp2_with fail
        refine (rsame_all (loJ i) (loJ i) [.int .i64 k7, .bool b7, .int .i64 n7, .string s7, .slice N7 nn7 nc7, .slice A7 m7 c7] [.int .i64 6, .bool false, .int .i64 0, .string ⟨#[]⟩, .slice (some ⟨wr.heap.size, 0, none⟩) 1 1, .slice (some ⟨gk, 0, none⟩) 1 1] W9 (HA9.out.vals (gv, loJ i, [.int .i64 k7, .bool b7, .int .i64 n7, .string s7, .slice N7 nn7 nc7, .slice A7 m7 c7]) (by simp)).2 (HA9.out.vals (gc, loJ i, [.int .i64 6, .bool false, .int .i64 0, .string ⟨#[]⟩, .slice (some ⟨wr.heap.size, 0, none⟩) 1 1, .slice (some ⟨gk, 0, none⟩) 1 1]) (by simp)).2).mono ?_
        rintro _ W10 ⟨rfl, hb⟩
        rw [(sameJ_iff (loJ i) (loJ i)).2 rfl]
        have HA10 := Lib.hid (HA9.out.next hb)
        clear hb HA9 l0 l1 l2 l3 l4 l5 r0 r1 r2 r3 r4 r5
        go_wp2_with fail
        go_ret
        exact ⟨rfl, HA10.out.below⟩
end Go.Proofs.YtieppmppdmcleaaGreatDoor

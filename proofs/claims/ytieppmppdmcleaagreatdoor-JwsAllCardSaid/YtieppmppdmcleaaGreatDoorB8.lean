/- countersignlaw15: within, known, Claims. Condition: the laid variables. -/
import Derived.Test.YtieppmppdmcleaaGreatDoorB7
set_option linter.unusedVariables false
set_option linter.unusedSimpArgs false
set_option maxRecDepth 20000
set_option maxHeartbeats 8000000
namespace Go.Proofs.YtieppmppdmcleaaGreatDoor
open Go.RowKit Go.Maps
theorem within15_walk (z n : Int) (w : World) (hn : 1 ≤ n) (hn2 : n ≤ 9223372036854775807) (hz : -9223372036854775808 ≤ z ∧ z ≤ 9223372036854775807) :
  Calls Tryz.prog 10 #[.int .i64 z, .int .i64 n] w fun e w' => e = .returned (.int .i64 (z % n)) ∧ w = w' := by
 have h0 := Int.emod_nonneg z (show n ≠ 0 by omega)
 have h1 := Int.emod_lt_of_pos z (show 0 < n by omega)
 obtain ⟨hz1, hz2⟩ := hz
 by_cases h : 0 ≤ z
 ·
  go_enter Tryz.func10, Tryz.ntmps10
  go_wp2_with fail
  go_ret
  exact ⟨rfl, rfl⟩
 ·
  obtain ⟨r, er⟩ : ∃ r, z.tmod n = r := ⟨_, rfl⟩
  have hr : r = z % n ∧ r = 0 ∨ r = z % n - n ∧ r < 0 := by
   rw [← er, Int.tmod_eq_emod]
   by_cases hd : n ∣ z
   ·
    left
    have := Int.emod_eq_zero_of_dvd hd
    simp [hd]; omega
   ·
    right
    simp only [hd, or_false, h, if_false]
    omega
  rcases hr with ⟨e1, e2⟩ | ⟨e1, e2⟩
  ·
   have E := Lib.hid e1
   have hr0 : ¬ r < 0 := by omega
   have hz0 : z % n = 0 := by omega
   have hr0' : r = 0 := e2
   subst hr0'
   have HZ := Lib.hid hz0
   clear e1 hz0 h0 h1 e2
   go_enter Tryz.func10, Tryz.ntmps10
   go_wp2_with fail
   go_ret
   exact ⟨by rw [HZ.out]; rfl, rfl⟩
  ·
   have E : Hid (r + n = z % n) := by show _ = _; omega
   have hr1 : -n ≤ r := by omega
   clear e1 h0 h1
   go_enter Tryz.func10, Tryz.ntmps10
   go_wp2_with fail
   go_ret
   exact ⟨by rw [← E.out]; rfl, rfl⟩
def nmC : List (List UInt8) := [[105, 115, 115], [115, 117, 98], [110, 111, 110, 99, 101]]
def asC : List UInt8 := [104, 116, 116, 112, 115, 58, 47, 47, 97, 115]
def clJ (u v : Jv) : Jv := .mk 6 false 0 [] nmC [.mk 4 false 0 asC [] [], u, v]
theorem cl_may {u v : Jv} (hu : FitV 2 u) (hv : FitV 1 v) : mayB (clJ u v) = true := by
 have h1 := hu.1 1 (by decide)
 have h2 := hv.1 1 (by decide)
 have h3 : mayJ validL (.mk 4 false 0 asC [] []) 1 = true := by decide +kernel
 have hm : mayJs validL [.mk 4 false 0 asC [] [], u, v] 1 = true := mayJs_good fun j k hj hk => by
  match j, hk with
  | 0, hk => simp at hk; subst hk; exact h3
  | 1, hk => simp at hk; subst hk; exact h1
  | 2, hk => simp at hk; subst hk; exact h2
  | j + 3, hk => simp at hk
 exact may_obj hm (by decide) (by decide +kernel) (by decide +kernel) rfl
theorem cl_sz {u v : Jv} (hu : FitV 2 u) (hv : FitV 1 v) : szJ (clJ u v) ≤ 250 := by
 have h1 := hu.2.1
 have h2 := hv.2.1
 rw [show szV 2 = 148 by decide] at h1
 rw [show szV 1 = 46 by decide] at h2
 rw [clJ, szJ]
 simp only [szJs, szJ, nmC, asC, List.map_cons, List.map_nil, List.sum_cons, List.sum_nil, List.length_cons, List.length_nil]
 omega
theorem cl_print {u v : Jv} (hu : FitV 2 u) (hv : FitV 1 v) : (printJ (clJ u v)).length ≤ 420 := by
 rw [print_may (cl_may hu hv)]
 have h1 := hu.2.2
 have h2 := hv.2.2
 rw [show lenV 2 = 281 by decide] at h1
 rw [show lenV 1 = 86 by decide] at h2
 have hj := jp_lens (jprintO nmC [.mk 4 false 0 asC [] [], u, v])
 have hq1 : (quotedL [105, 115, 115]).length = 5 := by decide +kernel
 have hq2 : (quotedL [115, 117, 98]).length = 5 := by decide +kernel
 have hq3 : (quotedL [110, 111, 110, 99, 101]).length = 7 := by decide +kernel
 have hq4 : (jprint (.mk 4 false 0 asC [] [])).length = 12 := by decide +kernel
 simp only [nmC, jprintO, lens1, List.map_cons, List.map_nil, List.sum_cons, List.sum_nil, List.headD_cons, List.tail_cons, List.length_append, List.length_cons, hq1, hq2, hq3, hq4] at hj
 rw [clJ, jprint]
 simp only [nmC] at hj ⊢
 simp
 simp only [jprintO, List.headD_cons, List.tail_cons] at hj ⊢
 omega
theorem cl_sign {u v : Jv} (hu : FitV 2 u) (hv : FitV 1 v) {k : Int} (h0 : 0 ≤ k) (h1 : k ≤ 1073741824) : signL k (clJ u v) ≠ [] := by
 have hp := cl_print hu hv
 have hf : (frontL (printJ (clJ u v))).length ≤ 1024 := by
  have h2 := K9.B64.enc_length (printJ (clJ u v))
  have h3 := enc_hd
  rw [frontL]
  simp only [List.length_append, List.length_cons, List.length_nil]
  omega
 rw [sign_ref, if_pos ⟨h0, h1, rfl, cl_may hu hv, hf⟩]
 simp [frontL]
theorem sig_enc (k : Int) (f : List UInt8) : (K9.encT (K9.sigT k f)).length ≤ f.length + 40 := by
 rw [K9.sigT]
 simp [K9.encT, K9.encTs, K9.numB]
theorem sign_len (k : Int) (v : Jv) : (signL k v).length ≤ 3000 := by
 by_cases h : signL k v = []
 ·
  rw [h]; simp
 ·
  obtain ⟨-, -, h3, h4⟩ := sign_form h
  have hf := K9.sig_may k (frontL (printJ v))
  rw [h3] at hf
  have hf2 : (frontL (printJ v)).length ≤ 1024 := by
   have := hf.symm
   simp at this
   exact this.2.2
  have he := sig_enc k (frontL (printJ v))
  have hm := K9.mark_formZ h3
  have h5 := K9.B64.enc_length (K9.encT (K9.sigT k (frontL (printJ v))))
  have hf3 := hf2
  rw [h4, hm]
  rw [frontL] at hf2
  simp only [List.length_append, List.length_cons, List.length_nil] at hf2 ⊢
  omega
theorem cl_rows {W : World} {lo : Nat} {u v : Jv} {csu csv : List Value} {b0 b4 : Nat} {t0 t4 : TypeId} (hu : JvV W lo u csu) (hv : JvV W lo v csv) (h0 : Blk W b0 t0 #[.string ⟨#[105, 115, 115]⟩, .string ⟨#[115, 117, 98]⟩, .string ⟨#[110, 111, 110, 99, 101]⟩])
  (h4 : Blk W b4 t4 (([.int .i64 4, .bool false, .int .i64 0, .string ⟨asC.toArray⟩, .slice none 0 0, .slice none 0 0] : List Value) ++ csu ++ csv).toArray) (hl0 : lo ≤ b0) (hl4 : lo ≤ b4) :
  JvV W lo (clJ u v) [.int .i64 6, .bool false, .int .i64 0, .string ⟨#[]⟩, .slice (some ⟨b0, 0, none⟩) 3 3, .slice (some ⟨b4, 0, none⟩) 3 3] := by
 rw [clJ, JvV]
 refine ⟨some ⟨b0, 0, none⟩, 3, some ⟨b4, 0, none⟩, 3, [[.int .i64 4, .bool false, .int .i64 0, .string ⟨asC.toArray⟩, .slice none 0 0, .slice none 0 0], csu, csv], rfl, ⟨by decide, by decide⟩, ⟨by simp, by decide⟩, ?_, fun _ ad e => by injection e with e; rw [← e]; exact hl0, ?_, fun _ ad e => by injection e with e; rw [← e]; exact hl4, ?_⟩
 ·
  refine ⟨rfl, fun _ => ⟨_, rfl, h0.lt, fun j x hx => ?_⟩⟩
  exact blk_cells (cs := [.string ⟨#[105, 115, 115]⟩, .string ⟨#[115, 117, 98]⟩, .string ⟨#[110, 111, 110, 99, 101]⟩]) h0 j x hx
 ·
  refine ⟨by simp [hu.len, hv.len], fun _ => ⟨_, rfl, h4.lt, fun j x hx => ?_⟩⟩
  exact blk_cells h4 j x (by simpa using hx)
 ·
  rw [JvsV]
  refine ⟨_, _, rfl, jv_leaf _ _ _ _ _ _, ?_⟩
  rw [JvsV]
  refine ⟨_, _, rfl, hu, ?_⟩
  rw [JvsV]
  refine ⟨_, _, rfl, hv, ?_⟩
  rw [JvsV]
def ClaimsR (w : World) (e : Ending) (w' : World) : Prop := ∃ u v cs, e = .returned (.agg (cs : List Value).toArray) ∧ JvV w' w.heap.size (clJ u v) cs ∧ FitV 2 u ∧ FitV 1 v ∧ Below w.heap.size w w'
theorem claims_walk (zs : List Int) (A : Option Addr) (c : Nat) (w : World) (hr : IntsIn w A c zs) : Calls Tryz.prog 9 #[.slice A zs.length c] w (ClaimsR w) := by
 have hb1 := alloc_below w (.cells #[.int .i64 0, .bool false, .int .i64 0, .string ⟨#[]⟩, .slice none 0 0, .slice none 0 0] 26)
 have hT := tape_new (hr.below hb1)
 have HT := Lib.hid hT
 have HK1 := Lib.hid ((Blk.new w 26 #[.int .i64 0, .bool false, .int .i64 0, .string ⟨#[]⟩, .slice none 0 0, .slice none 0 0]).alloc (.cells #[.slice A zs.length c, .int .i64 0] 55))
 have HB1 := Lib.hid (below_next hb1 (alloc_below _ (.cells #[.slice A zs.length c, .int .i64 0] 55)))
 clear hr hb1 hT
 go_enter Tryz.func9, Tryz.ntmps9
 go_wp2_with fail
 have hsz1 : ((w.alloc (.cells #[.int .i64 0, .bool false, .int .i64 0, .string ⟨#[]⟩, .slice none 0 0, .slice none 0 0] 26)).alloc (.cells #[.slice A zs.length c, .int .i64 0] 55)).heap.size = w.heap.size + 1 + 1 := by simp
 have HSZ := Lib.hid hsz1
 clear hsz1
 rw [show (w.alloc (.cells #[.int .i64 0, .bool false, .int .i64 0, .string ⟨#[]⟩, .slice none 0 0, .slice none 0 0] 26)).heap.size = w.heap.size + 1 by simp] at HT
 generalize (w.alloc (.cells #[.int .i64 0, .bool false, .int .i64 0, .string ⟨#[]⟩, .slice none 0 0, .slice none 0 0] 26)).alloc (.cells #[.slice A zs.length c, .int .i64 0] 55) = W1 at HT HB1 HK1 HSZ ⊢
 have HN1 := Lib.hid (Blk.new W1 9 #[.string ⟨#[105, 115, 115]⟩, .string ⟨#[115, 117, 98]⟩, .string ⟨#[110, 111, 110, 99, 101]⟩])
 have HB2 := Lib.hid (below_next HB1.out (alloc_below W1 (.cells #[.string ⟨#[105, 115, 115]⟩, .string ⟨#[115, 117, 98]⟩, .string ⟨#[110, 111, 110, 99, 101]⟩] 9)))
 have HK2 := Lib.hid (HK1.out.alloc (.cells #[.string ⟨#[105, 115, 115]⟩, .string ⟨#[115, 117, 98]⟩, .string ⟨#[110, 111, 110, 99, 101]⟩] 9))
 have HT2 := Lib.hid (HT.out.grown (only_alloc (only_refl W1 none) (.cells #[.string ⟨#[105, 115, 115]⟩, .string ⟨#[115, 117, 98]⟩, .string ⟨#[110, 111, 110, 99, 101]⟩] 9)) (fun r e => by cases e))
 have hnl : w.heap.size + 2 ≤ w.heap.size + 1 + 1 := Nat.le_refl _
 rw [HSZ.out] at HN1
 generalize W1.alloc (.cells #[.string ⟨#[105, 115, 115]⟩, .string ⟨#[115, 117, 98]⟩, .string ⟨#[110, 111, 110, 99, 101]⟩] 9) = W2 at HN1 HB2 HK2 HT2 ⊢
 clear HT HB1 HK1 HSZ
 refine (s_walk W2 ⟨#[104, 116, 116, 112, 115, 58, 47, 47, 97, 115]⟩).mono ?_
 rintro _ W3 ⟨rfl, hb⟩
 have HB3 := Lib.hid (below_next HB2.out hb)
 have HK3 := Lib.hid (HK2.out.below hb HK2.out.lt)
 have HN3 := Lib.hid (HN1.out.below hb HN1.out.lt)
 have HT3 := Lib.hid (HT2.out.grown (below_row hb none) (fun r e => by cases e))
 clear hb HB2 HK2 HN1 HT2
 go_wp2_with fail
 refine (tape_any 2 (by decide) zs _ 0 _ HT3.out).mono ?_
 rintro _ W4 ⟨u, csu, k1, rfl, hu, ht, hg, hfu⟩
 obtain ⟨ku, bu, nu, su, Nu, nnu, ncu, Au, mu, cu, rfl⟩ := hu.form
 have hbel : Below w.heap.size w W4 := HB3.out.grown hg HB3.out.size (fun q e => by injection e with e; omega)
 have hk4 := HK3.out.grown hg (fun e => by injection e with e; omega)
 have hn4 := HN3.out.grown hg (fun e => by injection e with e; omega)
 have HB4 := Lib.hid hbel
 have HK4 := Lib.hid hk4
 have HN4 := Lib.hid hn4
 have HT4 := Lib.hid ht
 have HU4 := Lib.hid (hu.low HB3.out.size)
 have HFU := Lib.hid hfu
 have hs3 := HB3.out.size
 have hu3 : w.heap.size + 2 ≤ W3.heap.size := by have := HN3.out.lt; omega
 have HUL := Lib.hid (hu.low hu3)
 clear hbel hk4 hn4 ht hg hu hfu HB3 HK3 HN3 HT3 hs3 hu3
 go_wp2_with fail
 refine (tape_any 1 (by decide) zs _ k1 _ HT4.out).mono ?_
 rintro _ W5 ⟨v, csv, k2, rfl, hv, ht, hg, hfv⟩
 obtain ⟨kv, bv, nv, sv, Nv, nnv, ncv, Av, mv, cv, rfl⟩ := hv.form
 have hbel : Below w.heap.size w W5 := HB4.out.grown hg HB4.out.size (fun q e => by injection e with e; omega)
 have hk5 := HK4.out.grown hg (fun e => by injection e with e; omega)
 have hn5 := HN4.out.grown hg (fun e => by injection e with e; omega)
 have HB5 := Lib.hid hbel
 have HK5 := Lib.hid hk5
 have HN5 := Lib.hid hn5
 have hu4 : w.heap.size + 2 ≤ W4.heap.size := by have := HN4.out.lt; omega
 have HV5 := Lib.hid (hv.low hu4)
 have HU5 := Lib.hid (HUL.out.grown hg (fun q e => by injection e with e; omega))
 have HFV := Lib.hid hfv
 clear hbel hk5 hn5 ht hg hv hfv HB4 HK4 HN4 HT4 HUL HU4 hu4
 go_wp2_with fail
 have HC5 := Lib.hid (Blk.new W5 26 #[.int .i64 4, .bool false, .int .i64 0, .string ⟨#[104, 116, 116, 112, 115, 58, 47, 47, 97, 115]⟩, .slice none 0 0, .slice none 0 0, .int .i64 ku, .bool bu, .int .i64 nu, .string su, .slice Nu nnu ncu, .slice Au mu cu, .int .i64 kv, .bool bv, .int .i64 nv, .string sv, .slice Nv nnv ncv, .slice Av mv cv])
 have hba := alloc_below W5 (.cells #[.int .i64 4, .bool false, .int .i64 0, .string ⟨#[104, 116, 116, 112, 115, 58, 47, 47, 97, 115]⟩, .slice none 0 0, .slice none 0 0, .int .i64 ku, .bool bu, .int .i64 nu, .string su, .slice Nu nnu ncu, .slice Au mu cu, .int .i64 kv, .bool bv, .int .i64 nv, .string sv, .slice Nv nnv ncv, .slice Av mv cv] 26)
 have HB6 := Lib.hid (below_next HB5.out hba)
 have HK6 := Lib.hid (HK5.out.below hba HK5.out.lt)
 have hrows := cl_rows (HU5.out.below hba) (HV5.out.below hba) (HN5.out.below hba HN5.out.lt) HC5.out hnl (by have := HN5.out.lt; omega)
 have HR := Lib.hid hrows
 clear hba hrows HC5 HU5 HV5 HN5 HB5 HK5
 generalize W5.alloc (.cells #[.int .i64 4, .bool false, .int .i64 0, .string ⟨#[104, 116, 116, 112, 115, 58, 47, 47, 97, 115]⟩, .slice none 0 0, .slice none 0 0, .int .i64 ku, .bool bu, .int .i64 nu, .string su, .slice Nu nnu ncu, .slice Au mu cu, .int .i64 kv, .bool bv, .int .i64 nv, .string sv, .slice Nv nnv ncv, .slice Av mv cv] 26) = W6 at HB6 HK6 HR ⊢
 generalize W5.heap.size = bk at HR ⊢
 refine (o_walk W6 _ _ _ _ _ _).mono ?_
 rintro _ W7 ⟨rfl, hb⟩
 have HB7 := Lib.hid (below_next HB6.out hb)
 have HK7 := Lib.hid (HK6.out.below hb HK6.out.lt)
 have HR7 := Lib.hid (HR.out.below hb)
 clear hb HB6 HK6 HR
 go_wp2_with (refine wpList_store_blk rfl 26 _ _ rfl w.heap.size _ #[.int .i64 6, .bool false, .int .i64 0, .string ⟨#[]⟩, .slice (some ⟨w.heap.size + 1 + 1, 0, none⟩) 3 3, .slice (some ⟨bk, 0, none⟩) 3 3] 26 rfl rfl HK7.out rfl jv_size (jv_ones _ _ _ _ _ _ _ _ _ _) ?_)
 refine bodyPost_ret (results_cell_row Tryz.results9 _ _ w.heap.size _ _ _ _ rfl HK7.out.setRow Tryz.underlying26 rfl (by kernel_rfl)) rfl ?_
 refine ⟨u, v, [.int .i64 6, .bool false, .int .i64 0, .string ⟨#[]⟩, .slice (some ⟨w.heap.size + 1 + 1, 0, none⟩) 3 3, .slice (some ⟨bk, 0, none⟩) 3 3], rfl, ?_, HFU.out, HFV.out, below_setRow HB7.out (Nat.le_refl _) _⟩
 exact (HR7.out.grown (setRow_only W7 w.heap.size _) (fun q e => by injection e with e; omega)).low (by omega)
end Go.Proofs.YtieppmppdmcleaaGreatDoor
/- countersignlaw15: known. Condition: the laid variables. -/
namespace Go.Proofs.YtieppmppdmcleaaGreatDoor
open Go.RowKit Go.Maps
def obJ : Jv := .mk 6 false 0 [] [] []
theorem ob_may : mayB obJ = true := by decide +kernel
theorem ob_sm : smJ obJ := smJ_of_may obJ 0 ob_may (by decide)
theorem ob_sz : szJ obJ ≤ 10000 := by decide
theorem ob_print : printJ obJ = [123, 125] := by rw [print_may ob_may]; decide +kernel
theorem ob_front : (frontL (printJ obJ)).length = 22 := by
 rw [ob_print, frontL]
 simp only [List.length_append, List.length_cons, List.length_nil, enc_hd, K9.B64.enc_length]
 rfl
theorem ob_sign3 : signL 3 obJ ≠ [] := by
 rw [sign_ref, if_pos ⟨by decide, by decide, rfl, ob_may, by rw [ob_front]; decide⟩]
 simp [frontL]
theorem ob_len : 20 < (signL 3 obJ).length := by
 rw [sign_ref, if_pos ⟨by decide, by decide, rfl, ob_may, by rw [ob_front]; decide⟩, List.length_append, List.length_append, ob_front]
 omega
theorem ob_ver : verO 3 (signL 3 obJ) = some obJ := ver_sign ob_sign3
theorem ob_no : verO 4 (signL 3 obJ) = none := by
 cases h : verO 4 (signL 3 obJ) with
 | none => rfl
 | some u => exact absurd (ver_other ob_sign3 (by rw [h]; rfl)) (by decide)
theorem zero_sign (k : Int) : signL k jvZ = [] := by rw [signL, if_neg (fun h => absurd h.1 (by decide))]
theorem ver_w (key : Int) (s : ByteArray) (l : List UInt8) (o : Option Jv) (ho : verO key l = o) (hs : s.data.toList = l) (hm : s.size ≤ 6000) (w : World) (hL : LaidB w w.heap.size) :
  Calls Tryz.prog 12 #[.int .i64 key, .string s] w fun e w' => ∃ cs : List Value, e = .returned (.tuple #[.agg cs.toArray, .bool o.isSome]) ∧ JvV w' w.heap.size (o.getD jvZ) cs ∧ Below w.heap.size w w' := by
 subst ho
 exact ver_walk key s l hs hm w hL
theorem sign_w (key : Int) (v : Jv) (cs : List Value) (z : ByteArray) (hz : (⟨(signL key v).toArray⟩ : ByteArray) = z) (w : World) (hsm : smJ v) (hsz : szJ v ≤ 10000) (hT : Tab w) (hv : JvV w 0 v cs) :
  Calls Tryz.prog 15 #[.int .i64 key, .agg cs.toArray] w fun e w' => e = .returned (.string z) ∧ Below w.heap.size w w' := by
 subst hz
 exact sign_walk key v cs w hsm hsz hT hv
theorem known15_walk (w : World) (hL : LaidB w w.heap.size) : Calls Tryz.prog 7 #[] w fun e w' => e = .returned (.bool true) ∧ St12 w w' := by
 obtain ⟨zs, hzs, hzl⟩ := mk_name (signL 3 obJ) (n := 3000) (sign_len _ _)
 have hzd : zs.data.toList = signL 3 obJ := by rw [← hzs]
 have hz20 : 20 < zs.size := by rw [← hzs, size_mks]; exact ob_len
 have cs3 := Lib.hid (fun W (hT : Tab W) => sign_w 3 obJ [.int .i64 6, .bool false, .int .i64 0, .string ⟨#[]⟩, .slice none 0 0, .slice none 0 0] zs hzs W ob_sm ob_sz hT (jv_leaf _ _ _ _ _ _))
 have cs0 := Lib.hid (fun W (hT : Tab W) => sign_w 3 jvZ [.int .i64 0, .bool false, .int .i64 0, .string ⟨#[]⟩, .slice none 0 0, .slice none 0 0] ⟨#[]⟩ (by rw [zero_sign]) W (by rw [jvZ, smJ, smJs]; simp) (by decide) hT (jv_leaf _ _ _ _ _ _))
 have cv3 := Lib.hid (fun W h => ver_w 3 zs _ _ ob_ver hzd (by omega) W h)
 have cv4 := Lib.hid (fun W h => ver_w 4 zs _ _ ob_no hzd (by omega) W h)
 have HS := Lib.hid (show St12 w (w.alloc (.cells #[.int .i64 6, .bool false, .int .i64 0, .string ⟨#[]⟩, .slice none 0 0, .slice none 0 0] 26)) from St12.alloc ⟨hL, Below.refl _ _⟩ _)
 have HK := Lib.hid (Blk.new w 26 #[.int .i64 6, .bool false, .int .i64 0, .string ⟨#[]⟩, .slice none 0 0, .slice none 0 0])
 clear hL hzs hzd
 obtain ⟨l0, l1, l2, l3, l4, l5⟩ := six_cells HK.out
 go_enter Tryz.func7, Tryz.ntmps7
 go_wp2_with fail
 generalize w.alloc (.cells #[.int .i64 6, .bool false, .int .i64 0, .string ⟨#[]⟩, .slice none 0 0, .slice none 0 0] 26) = W1 at HS HK l0 l1 l2 l3 l4 l5 ⊢
 generalize hg0 : w.heap.size = g0 at HK l0 l1 l2 l3 l4 l5 ⊢
 refine (cs3.out W1 HS.out.laid.tab).mono ?_
 rintro _ W2 ⟨rfl, hb⟩
 have HS2 := Lib.hid (HS.out.next hb)
 have HK2 := Lib.hid (HK.out.below hb HK.out.lt)
 clear hb l0 l1 l2 l3 l4 l5 HS HK
 go_wp2_with fail
 refine (cv3.out W2 HS2.out.laid).mono ?_
 rintro _ W3 ⟨cs, rfl, hv, hb⟩
 obtain ⟨k5, b5, n5, s5, N5, nn5, nc5, A5, m5, c5, rfl⟩ := hv.form
 have hk := jv_kind hv
 have hk6 : k5 = 6 := hk
 subst hk6
 have HS3 := Lib.hid ((HS2.out.next hb).alloc (.cells #[.int .i64 6, .bool b5, .int .i64 n5, .string s5, .slice N5 nn5 nc5, .slice A5 m5 c5] 26))
 have HK3 := Lib.hid ((HK2.out.below hb HK2.out.lt).alloc (.cells #[.int .i64 6, .bool b5, .int .i64 n5, .string s5, .slice N5 nn5 nc5, .slice A5 m5 c5] 26))
 have HV3 := Lib.hid (Blk.new W3 26 #[.int .i64 6, .bool b5, .int .i64 n5, .string s5, .slice N5 nn5 nc5, .slice A5 m5 c5])
 clear hb hv hk HS2 HK2 cv3
 obtain ⟨l0, l1, l2, l3, l4, l5⟩ := six_cells HK3.out
 go_wp2_with fail
 generalize W3.heap.size = g1 at HV3 ⊢
 generalize W3.alloc (.cells #[.int .i64 6, .bool b5, .int .i64 n5, .string s5, .slice N5 nn5 nc5, .slice A5 m5 c5] 26) = W4 at HS3 HK3 HV3 l0 l1 l2 l3 l4 l5 ⊢
 refine (cs3.out W4 HS3.out.laid.tab).mono ?_
 rintro _ W5 ⟨rfl, hb⟩
 have HS5 := Lib.hid (HS3.out.next hb)
 have HK5 := Lib.hid (HK3.out.below hb HK3.out.lt)
 have HV5 := Lib.hid (HV3.out.below hb HV3.out.lt)
 clear hb l0 l1 l2 l3 l4 l5 HS3 HK3 HV3
 go_wp2_with fail
 refine (cv4.out W5 HS5.out.laid).mono ?_
 rintro _ W6 ⟨cs, rfl, hv, hb⟩
 obtain ⟨k7, b7, n7, s7, N7, nn7, nc7, A7, m7, c7, rfl⟩ := hv.form
 have HS7 := Lib.hid ((HS5.out.next hb).alloc (.cells #[.int .i64 k7, .bool b7, .int .i64 n7, .string s7, .slice N7 nn7 nc7, .slice A7 m7 c7] 26))
 have HK7 := Lib.hid ((HK5.out.below hb HK5.out.lt).alloc (.cells #[.int .i64 k7, .bool b7, .int .i64 n7, .string s7, .slice N7 nn7 nc7, .slice A7 m7 c7] 26))
 have HV7 := Lib.hid ((HV5.out.below hb HV5.out.lt).alloc (.cells #[.int .i64 k7, .bool b7, .int .i64 n7, .string s7, .slice N7 nn7 nc7, .slice A7 m7 c7] 26))
 clear hb hv HS5 HK5 HV5 cv4
 have m0 := HV7.out.cell 0
 simp only [List.getElem?_toArray, List.getElem?_cons_zero] at m0
 go_wp2_with fail
 generalize W6.alloc (.cells #[.int .i64 k7, .bool b7, .int .i64 n7, .string s7, .slice N7 nn7 nc7, .slice A7 m7 c7] 26) = W7 at HS7 HK7 HV7 m0 ⊢
 refine (cs0.out W7 HS7.out.laid.tab).mono ?_
 rintro _ W8 ⟨rfl, hb⟩
 have HS8 := Lib.hid (HS7.out.next hb)
 have HK8 := Lib.hid (HK7.out.below hb HK7.out.lt)
 clear hb HS7 HK7 HV7 m0 cs0
 obtain ⟨l0, l1, l2, l3, l4, l5⟩ := six_cells HK8.out
 have d20 : decide ((20 : Int) < (zs.size : Int)) = true := by simp; omega
 have d20' : decide (20 < zs.size) = true := by simp; omega
 go_wp2_with fail
 refine (cs3.out W8 HS8.out.laid.tab).mono ?_
 rintro _ W9 ⟨rfl, hb⟩
 have HS9 := Lib.hid (HS8.out.next hb)
 clear hb HS8 HK8 l0 l1 l2 l3 l4 l5
 go_wp2_with fail
 go_ret
 exact ⟨rfl, HS9.out⟩
end Go.Proofs.YtieppmppdmcleaaGreatDoor
/- JwsBack: what is signed by one key says what was signed, and no other key verifies it; with a byte turned none does. Condition: the laid variables. -/
namespace Go.Proofs.YtieppmppdmcleaaGreatDoor
open Go.RowKit Go.Maps
theorem cl_sm {u v : Jv} (hu : FitV 2 u) (hv : FitV 1 v) : smJ (clJ u v) := smJ_of_may _ 0 (cl_may hu hv) (by have := cl_sz hu hv; omega)
end Go.Proofs.YtieppmppdmcleaaGreatDoor

/- countersignref12.may joined, and May. Condition: small values. -/
import Derived.Test.YtieppmppdmcleaaGreatDoorJo
import Derived.Test.YtieppmppdmcleaaGreatDoorBD
set_option linter.unusedVariables false
set_option linter.unusedSimpArgs false
set_option maxRecDepth 20000
set_option maxHeartbeats 16000000
namespace Go.Proofs.YtieppmppdmcleaaGreatDoor
open Go.RowKit
theorem rmay_node (k : Int) (b : Bool) (n : Int) (s : List UInt8) (names : List (List UInt8)) (kids : List Jv) (hok : ∀ x ∈ kids, RMayOk x) : RMayOk (.mk k b n s names kids) := by
 intro cs deep w hsm hd hv
 rw [smJ] at hsm
 obtain ⟨_, _, hs3, hs4, hs5, hs6, hs7⟩ := hsm
 rw [JvV] at hv
 obtain ⟨NA, nc, A, c, vs, rfl, h1, h2, h3, _, h5, _, h7⟩ := hv
 have cval : Hid (∀ W, CallsB 66 (.string ⟨s.toArray⟩) (validL s) W) := fun W => rvalid_walk _ s (by simp) W (by rw [size_mks]; omega)
 have cname : Hid (∀ (p : List UInt8) W, p ∈ names → CallsB 66 (.string ⟨p.toArray⟩) (validL p) W) := fun p W hp => rvalid_walk _ p (by simp) W (by rw [size_mks]; have := hs5 p hp; omega)
 have hok2 : Hid (∀ x ∈ kids, smJ x ∧ RMayOk x) := fun x hx => ⟨smJs_all hs7 x hx, hok x hx⟩
 simp only [cells6, strV]
 by_cases h : k < 1
 ·
  exact rmay_low k h b n s _ names kids _ _ rfl rfl rfl NA nc A c w deep hd cval cname h3 hs4 vs h7 h5 hs6 hok2
 by_cases h6 : 6 < k
 ·
  exact rmay_high k h6 b n s _ names kids _ _ rfl rfl rfl NA nc A c w deep hd cval cname h3 hs4 vs h7 h5 hs6 hok2
 have : k = 1 ∨ k = 2 ∨ k = 3 ∨ k = 4 ∨ k = 5 ∨ k = 6 := by omega
 rcases this with rfl | rfl | rfl | rfl | rfl | rfl
 ·
  exact rmay_1 b n s _ names kids _ _ rfl rfl rfl NA nc A c w deep hd cval cname h3 hs4 vs h7 h5 hs6 hok2
 ·
  exact rmay_2 b n s _ names kids _ _ rfl rfl rfl NA nc A c w deep hd cval cname h3 hs4 vs h7 h5 hs6 hok2
 ·
  exact rmay_3 b n s _ names kids _ _ rfl rfl rfl NA nc A c w deep hd cval cname h3 hs4 vs h7 h5 hs6 hok2
 ·
  exact rmay_4 b n s _ names kids _ _ rfl rfl rfl NA nc A c w deep hd cval cname h3 hs4 vs h7 h5 hs6 hok2
 ·
  exact rmay_5 b n s _ names kids _ _ rfl rfl rfl NA nc A c w deep hd cval cname h3 hs4 vs h7 h5 hs6 hok2
 ·
  exact rmay_6 b n s _ names kids _ _ rfl rfl rfl NA nc A c w deep hd cval cname h3 hs4 vs h7 h5 hs6 hok2
mutual
theorem rmay_all : ∀ t : Jv, RMayOk t
 | .mk k b n s names kids => rmay_node k b n s names kids (rmay_each kids)
theorem rmay_each : ∀ ks : List Jv, ∀ k ∈ ks, RMayOk k
 | [], k, h => by simp at h
 | x :: ks, k, h => by
  have h1 := rmay_all x
  have h2 := rmay_each ks
  rcases List.mem_cons.1 h with e | h
  ·
   rw [e]; exact h1
  ·
   exact h2 k h
end
theorem rmaym_walk (v : Jv) (cs : List Value) (w : World) (hsm : smJ v) (hv : JvV w 0 v cs) : Calls Tryz.prog 26 #[.agg cs.toArray] w fun e w' => e = .returned (.bool (mayB v)) ∧ Below w.heap.size w w' := by
 obtain ⟨k1, b1, n1, s1, NA1, nn1, nc1, A1, m1, c1, rfl⟩ := hv.form
 have hb1 := (Below.refl w.heap.size w).alloc (Nat.le_refl _) (.cells #[.int .i64 k1, .bool b1, .int .i64 n1, .string s1, .slice NA1 nn1 nc1, .slice A1 m1 c1] 26)
 have cp : Hid (Calls Tryz.prog 46 #[.agg #[.int .i64 k1, .bool b1, .int .i64 n1, .string s1, .slice NA1 nn1 nc1, .slice A1 m1 c1], .int .i64 0] (w.alloc (.cells #[.int .i64 k1, .bool b1, .int .i64 n1, .string s1, .slice NA1 nn1 nc1, .slice A1 m1 c1] 26)) fun e w' => e = .returned (.bool (mayJ validL v 0)) ∧ Below (w.alloc (.cells #[.int .i64 k1, .bool b1, .int .i64 n1, .string s1, .slice NA1 nn1 nc1, .slice A1 m1 c1] 26)).heap.size (w.alloc (.cells #[.int .i64 k1, .bool b1, .int .i64 n1, .string s1, .slice NA1 nn1 nc1, .slice A1 m1 c1] 26)) w') := rmay_all v _ 0 _ hsm (by omega) (hv.below hb1)
 have HK := Lib.hid (Blk.new w 26 #[.int .i64 k1, .bool b1, .int .i64 n1, .string s1, .slice NA1 nn1 nc1, .slice A1 m1 c1])
 have HB1 := Lib.hid hb1
 clear hb1 hv
 go_enter Tryz.func26, Tryz.ntmps26
 go_wp2_with (refine wpList_load_at rfl 26 _ rfl ⟨w.heap.size, 0, none⟩ rfl [.int .i64 k1, .bool b1, .int .i64 n1, .string s1, .slice NA1 nn1 nc1, .slice A1 m1 c1] _ (blk_cells HK.out) Tryz.underlying26 rfl jv_size ?_)
 refine cp.out.mono ?_
 rintro _ w5 ⟨rfl, hb5⟩
 have HB5 := Lib.hid (below_next HB1.out hb5)
 clear hb5
 go_wp2_with fail
 go_ret
 exact ⟨rfl, HB5.out⟩
end Go.Proofs.YtieppmppdmcleaaGreatDoor
/- countersignref12.print and Print. Conditions: a small value that may be; the laid table. -/
namespace Go.Proofs.YtieppmppdmcleaaGreatDoor
open Go.RowKit
theorem may_range {ok : List UInt8 → Bool} {k : Int} {b : Bool} {n : Int} {s : List UInt8} {names : List (List UInt8)} {kids : List Jv} {d : Nat} (h : mayJ ok (.mk k b n s names kids) d = true) : -9007199254740992 ≤ n ∧ n ≤ 9007199254740992 := by
 rw [mayJ, Bool.and_eq_true] at h
 obtain ⟨h1, h2⟩ := h
 simp only [aloneB, Bool.and_eq_true, Bool.or_eq_true, decide_eq_true_eq, Bool.not_eq_true', decide_eq_false_iff_not] at h1
 obtain ⟨⟨⟨⟨⟨⟨⟨⟨_, _⟩, _⟩, a4⟩, _⟩, _⟩, _⟩, _⟩, _⟩ := h1
 exact a4
theorem join_zero (ps : List (List UInt8)) (p : List UInt8) (h : ps[0]? = some p) : Lib.join (ps.take 1) [44] = p := by
 cases ps with
 | nil => simp at h
 | cons x r => simp at h; subst h; simp [Lib.join_one]
theorem join_more (ps : List (List UInt8)) (i : Nat) (h0 : 0 < i) (p : List UInt8) (h : ps[i]? = some p) : Lib.join (ps.take (i + 1)) [44] = Lib.join (ps.take i) [44] ++ [44] ++ p := by
 cases ps with
 | nil => simp at h
 | cons x r =>
  obtain ⟨j, rfl⟩ : ∃ j, i = j + 1 := ⟨i - 1, by omega⟩
  rw [List.take_succ_cons, List.take_succ_cons, Lib.join_cons, Lib.join_cons, Lib.joinTail_take_succ [44] r j p (by simpa using h)]
  simp
theorem lens1_take (ps : List (List UInt8)) (i : Nat) : lens1 (ps.take i) ≤ lens1 ps := by
 conv => rhs; rw [← List.take_append_drop i ps]
 simp only [lens1, List.map_append, List.sum_append]
 omega
theorem join_take_le (ps : List (List UInt8)) (i n : Nat) (h : lens1 ps ≤ n) : (Lib.join (ps.take i) [44]).length ≤ n := Nat.le_trans (jp_lens _) (Nat.le_trans (lens1_take ps i) h)
theorem rprint_leaf (k : Int) (b : Bool) (n : Int) (s : List UInt8) (names : List (List UInt8)) (kids : List Jv) (hk : k = 1 ∨ k = 2 ∨ k = 3 ∨ k = 4) : PrintOk 41 (.mk k b n s names kids) := by
 intro cs w hsm hsz hmay hT hv
 obtain ⟨d, hmay⟩ := hmay
 have hrn := may_range hmay
 have hsm2 := hsm
 rw [smJ] at hsm2
 obtain ⟨_, hn, hs3, _, _, _, _⟩ := hsm2
 rw [JvV] at hv
 obtain ⟨NA, nc, A, c, vs, rfl, _⟩ := hv
 simp only [cells6, strV]
 have HB := Lib.hid ((Below.refl w.heap.size w).alloc (Nat.le_refl _) (.cells #[.int .i64 k, .bool b, .int .i64 n, .string ⟨s.toArray⟩, .slice NA names.length nc, .slice A kids.length c] 26))
 have cq := Lib.hid (rquoted_walk ⟨s.toArray⟩ s (by simp) (w.alloc (.cells #[.int .i64 k, .bool b, .int .i64 n, .string ⟨s.toArray⟩, .slice NA names.length nc, .slice A kids.length c] 26)) (by rw [size_mks]; omega))
 have ci := Lib.hid (digits_walk n hrn (w.alloc (.cells #[.int .i64 k, .bool b, .int .i64 n, .string ⟨s.toArray⟩, .slice NA names.length nc, .slice A kids.length c] 26)))
 generalize hx : (⟨s.toArray⟩ : ByteArray) = y at *
 clear hx hT hsm hmay hrn hn
 rcases hk with rfl | rfl | rfl | rfl
 ·
  have hv : Hid (jprint (.mk 1 b n s names kids) = [110, 117, 108, 108]) := by show _ = _; rw [jprint]; rfl
  go_enter Tryz.func41, Tryz.ntmps41
  go_wp2_with fail
  go_ret
  exact ⟨by rw [hv.out]; rfl, HB.out⟩
 ·
  cases b
  ·
   have hv : Hid (jprint (.mk 2 false n s names kids) = [102, 97, 108, 115, 101]) := by show _ = _; rw [jprint]; rfl
   go_enter Tryz.func41, Tryz.ntmps41
   go_wp2_with fail
   go_ret
   exact ⟨by rw [hv.out]; rfl, HB.out⟩
  ·
   have hv : Hid (jprint (.mk 2 true n s names kids) = [116, 114, 117, 101]) := by show _ = _; rw [jprint]; rfl
   go_enter Tryz.func41, Tryz.ntmps41
   go_wp2_with fail
   go_ret
   exact ⟨by rw [hv.out]; rfl, HB.out⟩
 ·
  have hv : Hid (jprint (.mk 3 b n s names kids) = Lib.itoa n) := by show _ = _; rw [jprint]; rfl
  go_enter Tryz.func41, Tryz.ntmps41
  go_wp2_with fail
  refine ci.out.mono ?_
  rintro _ w1 ⟨rfl, hb1⟩
  have HB1 := Lib.hid (below_next HB.out hb1)
  clear hb1
  go_wp2_with fail
  go_ret
  exact ⟨by rw [hv.out]; rfl, HB1.out⟩
 ·
  have hv : Hid (jprint (.mk 4 b n s names kids) = quotedL s) := by show _ = _; rw [jprint]; rfl
  go_enter Tryz.func41, Tryz.ntmps41
  go_wp2_with fail
  refine cq.out.mono ?_
  rintro _ w1 ⟨rfl, hb1⟩
  have HB1 := Lib.hid (below_next HB.out hb1)
  clear hb1
  go_wp2_with fail
  go_ret
  exact ⟨by rw [hv.out]; rfl, HB1.out⟩
theorem rprint_node (k : Int) (b : Bool) (n : Int) (s : List UInt8) (names : List (List UInt8)) (kids : List Jv) (hk : k = 5 ∨ k = 6) (hok : ∀ x ∈ kids, PrintOk 41 x) : PrintOk 41 (.mk k b n s names kids) := by
 intro cs w hsm hsz hmay hT hv
 obtain ⟨d, hmay⟩ := hmay
 obtain ⟨_, hnk, hmk⟩ := may_parts hmay
 have hsm2 := hsm
 rw [smJ] at hsm2
 obtain ⟨_, hn, hs3, hs4, hs5, hs6, hs7⟩ := hsm2
 rw [szJ] at hsz
 have hL := jprintL_le kids hs7
 have hO := jprintO_le names kids hs7
 rw [JvV] at hv
 obtain ⟨NA, nc, A, c, vs, rfl, h1, h2, h3, _, h5, _, h7⟩ := hv
 have hpl : (partsJ k names kids).length = kids.length := by unfold partsJ; split <;> simp [jprintO_len, jprintL_len]
 have hplb : lens1 (partsJ k names kids) ≤ 100000000 := by unfold partsJ; split <;> omega
 have HPL := Lib.hid hpl
 have HPB := Lib.hid hplb
 have HOK := Lib.hid (fun x hx (cs : List Value) W hW => hok x hx cs W (smJs_all hs7 x hx) (by have := szJs_le hx; omega) ⟨d + 1, hmk x hx⟩ (hT.below hW))
 have HNK := Lib.hid hnk
 have H3 := Lib.hid h3
 have H5 := Lib.hid h5
 have H7 := Lib.hid h7
 have HS5 := Lib.hid hs5
 simp only [cells6, strV]
 generalize hx : (⟨s.toArray⟩ : ByteArray) = y at *
 have HB := Lib.hid ((Below.refl w.heap.size w).alloc (Nat.le_refl _) (.cells #[.int .i64 k, .bool b, .int .i64 n, .string y, .slice NA names.length nc, .slice A kids.length c] 26))
 have HK := Lib.hid (Blk.new w 26 #[.int .i64 k, .bool b, .int .i64 n, .string y, .slice NA names.length nc, .slice A kids.length c])
 have hv : Hid (jprint (.mk k b n s names kids) = if k = 6 then 123 :: (Lib.join (partsJ k names kids) [44] ++ [125]) else 91 :: (Lib.join (partsJ k names kids) [44] ++ [93])) := by
  show _ = _
  rw [jprint, partsJ]
  rcases hk with rfl | rfl <;> rfl
 clear hok hnk hmk hL hO hx h3 h5 h7 hT hsm hmay hpl hplb hs5 hn
 rcases hk with rfl | rfl
 ·
  have HV : Hid (jprint (.mk 5 b n s names kids) = 91 :: (Lib.join (partsJ 5 names kids) [44] ++ [93])) := by show _ = _; rw [hv.out, if_neg (by decide)]
  have HNN : Hid (True) := trivial
  clear hv HNK
  go_enter Tryz.func41, Tryz.ntmps41
  go_wp2_with fail
  go_loopw [3, 4] (fun lv iv wr => ∃ (i : Nat) (z : ByteArray), i ≤ kids.length ∧ iv = .int .i64 i ∧ lv = .string z ∧ z.size ≤ 100000000 ∧ Hid (⟨(Lib.join ((partsJ 5 names kids).take i) [44]).toArray⟩ = z) ∧ Hid (Below w.heap.size w wr) ∧ Hid (Blk wr w.heap.size 26 #[.int .i64 5, .bool b, .int .i64 n, .string y, .slice NA names.length nc, .slice A kids.length c])) (fun _ iv _ => kids.length - (intOf iv).toNat)
  case atStart => exact ⟨0, ⟨#[]⟩, by omega, rfl, rfl, by decide, by show _ = _; rw [List.take_zero, Lib.join_nil], HB, HK⟩
  case round =>
   clear HB HK
   obtain ⟨i, z, hi9, rfl, rfl, hzl, hz, hB, hK⟩ := hrel
   have hKl := hK.out.lt
   have c0 : wr.cell? ⟨w.heap.size, 0, none⟩ = some (.int .i64 5) := hK.out.cell 0
   have c4 : wr.cell? ⟨w.heap.size, 4, none⟩ = some (.slice NA names.length nc) := hK.out.cell 4
   have c5 : wr.cell? ⟨w.heap.size, 5, none⟩ = some (.slice A kids.length c) := hK.out.cell 5
   by_cases hlt : i < kids.length
   ·
    obtain ⟨kd, hkd⟩ : ∃ a, kids[i]? = some a := ⟨kids[i], List.getElem?_eq_getElem hlt⟩
    obtain ⟨ad, v, rfl, hva, hcv⟩ := jkid_at H7.out H5.out hkd
    have hadl := reads_near H5.out (by omega) rfl
    have hcv2 : ∀ W, Below w.heap.size w W → ∀ t x, v[t]? = some x → W.cell? ((ad.add (i * 6)).add t) = some x := fun W hW t x hx => (hW.cell (by rw [block_of_add, block_of_add]; exact hadl)).trans (hcv t x hx)
    have hjl := jprint_le kd (smJs_all hs7 kd (List.mem_of_getElem? hkd))
    have hjz := szJs_le (List.mem_of_getElem? hkd)
    obtain ⟨zp, hzp, hzpl⟩ := mk_name (jprint kd) (n := 10000000) (by omega)
    have cp0 := fun W hW => HOK.out kd (List.mem_of_getElem? hkd) v W hW (hva.below hW)
    simp only [hzp] at cp0
    have cp := Lib.hid cp0
    obtain ⟨k1, b1, n1, s1, NA1, nn1, nc1, A1, m1, c1, rfl⟩ := hva.form
    have HC1 := Lib.hid hcv2
    have hpc := jprintL_get kids i kd hkd
    by_cases hi0 : i = 0
    ·
     subst hi0
     have hpz : (⟨(Lib.join ((partsJ 5 names kids).take 1) [44]).toArray⟩ : ByteArray) = z ++ zp := by
      rw [join_zero (partsJ 5 names kids) (jprint kd) hpc, ← hz.out, ← hzp, List.take_zero, Lib.join_nil]
      apply str_eq
      simp
     have HPZ := Lib.hid hpz
     have hzl2 : (z ++ zp).size ≤ 100000000 := by rw [← hpz, size_mks]; exact join_take_le _ _ _ HPB.out
     have d0 : decide ((0 : Int) < 0) = false := by decide
     clear hcv hcv2 hva hkd cp0 hzp hjl hjz hpc hpz
     go_wp2_with (refine wpList_load_at rfl 26 _ rfl (ad.add (0 * 6)) rfl [.int .i64 k1, .bool b1, .int .i64 n1, .string s1, .slice NA1 nn1 nc1, .slice A1 m1 c1] _ (HC1.out _ hB.out) Tryz.underlying26 rfl jv_size ?_)
     refine (cp.out _ hB.out).mono ?_
     rintro _ w5 ⟨rfl, hb5⟩
     have HB5 := Lib.hid (below_next hB.out hb5)
     have HK5 := Lib.hid (hK.out.below hb5 hK.out.lt)
     clear hb5 c0 c4 c5 hK hB
     go_wp2_with fail
     exact ⟨⟨1, _, by omega, by go_num, rfl, hzl2, HPZ, HB5, HK5⟩, by simp [intOf]; omega⟩
    ·
     have hpz : (⟨(Lib.join ((partsJ 5 names kids).take (i + 1)) [44]).toArray⟩ : ByteArray) = (z ++ ⟨#[44]⟩) ++ zp := by
      rw [join_more (partsJ 5 names kids) i (by omega) (jprint kd) hpc, ← hz.out, ← hzp]
      apply str_eq
      simp
     have HPZ := Lib.hid hpz
     have hzl2 : ((z ++ ⟨#[44]⟩) ++ zp).size ≤ 100000000 := by rw [← hpz, size_mks]; exact join_take_le _ _ _ HPB.out
     have d0 : decide ((0 : Int) < (i : Int)) = true := by simp; omega
     have d0' : decide (0 < i) = true := by simp; omega
     clear hcv hcv2 hva hkd cp0 hzp hjl hjz hpc hpz
     go_wp2_with (refine wpList_load_at rfl 26 _ rfl (ad.add (i * 6)) rfl [.int .i64 k1, .bool b1, .int .i64 n1, .string s1, .slice NA1 nn1 nc1, .slice A1 m1 c1] _ (HC1.out _ hB.out) Tryz.underlying26 rfl jv_size ?_)
     refine (cp.out _ hB.out).mono ?_
     rintro _ w5 ⟨rfl, hb5⟩
     have HB5 := Lib.hid (below_next hB.out hb5)
     have HK5 := Lib.hid (hK.out.below hb5 hK.out.lt)
     clear hb5 c0 c4 c5 hK hB
     go_wp2_with fail
     exact ⟨⟨i + 1, _, by omega, by go_num, rfl, hzl2, HPZ, HB5, HK5⟩, by simp [intOf]; omega⟩
   ·
    obtain rfl : i = kids.length := by omega
    have hz2 := hz.out
    rw [← HPL.out, List.take_length] at hz2
    have HZ := Lib.hid hz2
    clear hz hz2
    go_wp2_with fail
    go_ret
    exact ⟨by rw [HV.out, ← HZ.out]; exact congrArg (fun x => Ending.returned (.string x)) (brack 91 93 _), hB.out⟩
 ·
  have HV : Hid (jprint (.mk 6 b n s names kids) = 123 :: (Lib.join (partsJ 6 names kids) [44] ++ [125])) := by show _ = _; rw [hv.out, if_pos rfl]
  have HNN : Hid (names.length = kids.length) := HNK.out rfl
  clear hv HNK
  go_enter Tryz.func41, Tryz.ntmps41
  go_wp2_with fail
  go_loopw [3, 4] (fun lv iv wr => ∃ (i : Nat) (z : ByteArray), i ≤ kids.length ∧ iv = .int .i64 i ∧ lv = .string z ∧ z.size ≤ 100000000 ∧ Hid (⟨(Lib.join ((partsJ 6 names kids).take i) [44]).toArray⟩ = z) ∧ Hid (Below w.heap.size w wr) ∧ Hid (Blk wr w.heap.size 26 #[.int .i64 6, .bool b, .int .i64 n, .string y, .slice NA names.length nc, .slice A kids.length c])) (fun _ iv _ => kids.length - (intOf iv).toNat)
  case atStart => exact ⟨0, ⟨#[]⟩, by omega, rfl, rfl, by decide, by show _ = _; rw [List.take_zero, Lib.join_nil], HB, HK⟩
  case round =>
   clear HB HK
   obtain ⟨i, z, hi9, rfl, rfl, hzl, hz, hB, hK⟩ := hrel
   have hKl := hK.out.lt
   have c0 : wr.cell? ⟨w.heap.size, 0, none⟩ = some (.int .i64 6) := hK.out.cell 0
   have c4 : wr.cell? ⟨w.heap.size, 4, none⟩ = some (.slice NA names.length nc) := hK.out.cell 4
   have c5 : wr.cell? ⟨w.heap.size, 5, none⟩ = some (.slice A kids.length c) := hK.out.cell 5
   by_cases hlt : i < kids.length
   ·
    obtain ⟨kd, hkd⟩ : ∃ a, kids[i]? = some a := ⟨kids[i], List.getElem?_eq_getElem hlt⟩
    obtain ⟨ad, v, rfl, hva, hcv⟩ := jkid_at H7.out H5.out hkd
    have hadl := reads_near H5.out (by omega) rfl
    have hcv2 : ∀ W, Below w.heap.size w W → ∀ t x, v[t]? = some x → W.cell? ((ad.add (i * 6)).add t) = some x := fun W hW t x hx => (hW.cell (by rw [block_of_add, block_of_add]; exact hadl)).trans (hcv t x hx)
    have hjl := jprint_le kd (smJs_all hs7 kd (List.mem_of_getElem? hkd))
    have hjz := szJs_le (List.mem_of_getElem? hkd)
    obtain ⟨zp, hzp, hzpl⟩ := mk_name (jprint kd) (n := 10000000) (by omega)
    have cp0 := fun W hW => HOK.out kd (List.mem_of_getElem? hkd) v W hW (hva.below hW)
    simp only [hzp] at cp0
    have cp := Lib.hid cp0
    obtain ⟨k1, b1, n1, s1, NA1, nn1, nc1, A1, m1, c1, rfl⟩ := hva.form
    have HC1 := Lib.hid hcv2
    obtain ⟨bd, nm, rfl, hnm, hbd, hcn⟩ := name_at H3.out (k := i) (by rw [HNN.out]; exact hlt)
    have hnl := HS5.out nm (List.mem_of_getElem? hnm)
    have hql := quotedL_le nm
    obtain ⟨zq, hzq, hzql⟩ := mk_name (quotedL nm) (n := 1000000) (by omega)
    have cq := fun W => rquoted_walk ⟨nm.toArray⟩ nm (by simp) W (by rw [size_mks]; omega)
    simp only [hzq] at cq
    have CQ := Lib.hid cq
    have hcn2 : wr.cell? (bd.add i) = some (.string ⟨nm.toArray⟩) := (hB.out.cell (p := bd.add i) (by rw [block_of_add]; exact hbd)).trans hcn
    have hpc := jprintO_get names kids i nm kd hnm hkd
    have hin : i < names.length := by rw [HNN.out]; exact hlt
    by_cases hi0 : i = 0
    ·
     subst hi0
     have hpz : (⟨(Lib.join ((partsJ 6 names kids).take 1) [44]).toArray⟩ : ByteArray) = ((z ++ zq) ++ ⟨#[58]⟩) ++ zp := by
      rw [join_zero (partsJ 6 names kids) (quotedL nm ++ 58 :: jprint kd) hpc, ← hz.out, ← hzq, ← hzp, List.take_zero, Lib.join_nil]
      apply str_eq
      simp
     have HPZ := Lib.hid hpz
     have hzl2 : (((z ++ zq) ++ ⟨#[58]⟩) ++ zp).size ≤ 100000000 := by rw [← hpz, size_mks]; exact join_take_le _ _ _ HPB.out
     have d0 : decide ((0 : Int) < 0) = false := by decide
     generalize (⟨nm.toArray⟩ : ByteArray) = xn at *
     clear hcv hcv2 hva hkd cq cp0 hzq hzp hnm hnl hql hjl hjz hcn hpc hpz
     have hcn3 : wr.cell? bd = some (.string xn) := by simpa [Addr.add] using hcn2
     go_wp2_with fail
     refine (CQ.out _).mono ?_
     rintro _ w3 ⟨rfl, hb3⟩
     have HB3 := Lib.hid (below_next hB.out hb3)
     have hK3 := hK.out.below hb3 hK.out.lt
     have c53 : w3.cell? ⟨w.heap.size, 5, none⟩ = some (.slice (some ad) kids.length c) := hK3.cell 5
     have HK3 := Lib.hid hK3
     have hKl3 := HK3.out.lt
     clear hb3 hK3 c0 c4 c5 hcn2 hcn3 hK hB
     go_wp2_with (refine wpList_load_at rfl 26 _ rfl (ad.add (0 * 6)) rfl [.int .i64 k1, .bool b1, .int .i64 n1, .string s1, .slice NA1 nn1 nc1, .slice A1 m1 c1] _ (HC1.out _ HB3.out) Tryz.underlying26 rfl jv_size ?_)
     refine (cp.out _ HB3.out).mono ?_
     rintro _ w5 ⟨rfl, hb5⟩
     have HB5 := Lib.hid (below_next HB3.out hb5)
     have HK5 := Lib.hid (HK3.out.below hb5 HK3.out.lt)
     clear hb5 c53
     go_wp2_with fail
     exact ⟨⟨1, _, by omega, by go_num, rfl, hzl2, HPZ, HB5, HK5⟩, by simp [intOf]; omega⟩
    ·
     have hpz : (⟨(Lib.join ((partsJ 6 names kids).take (i + 1)) [44]).toArray⟩ : ByteArray) = (((z ++ ⟨#[44]⟩) ++ zq) ++ ⟨#[58]⟩) ++ zp := by
      rw [join_more (partsJ 6 names kids) i (by omega) (quotedL nm ++ 58 :: jprint kd) hpc, ← hz.out, ← hzq, ← hzp]
      apply str_eq
      simp
     have HPZ := Lib.hid hpz
     have hzl2 : ((((z ++ ⟨#[44]⟩) ++ zq) ++ ⟨#[58]⟩) ++ zp).size ≤ 100000000 := by rw [← hpz, size_mks]; exact join_take_le _ _ _ HPB.out
     have d0 : decide ((0 : Int) < (i : Int)) = true := by simp; omega
     have d0' : decide (0 < i) = true := by simp; omega
     generalize (⟨nm.toArray⟩ : ByteArray) = xn at *
     clear hcv hcv2 hva hkd cq cp0 hzq hzp hnm hnl hql hjl hjz hcn hpc hpz
     go_wp2_with fail
     refine (CQ.out _).mono ?_
     rintro _ w3 ⟨rfl, hb3⟩
     have HB3 := Lib.hid (below_next hB.out hb3)
     have hK3 := hK.out.below hb3 hK.out.lt
     have c53 : w3.cell? ⟨w.heap.size, 5, none⟩ = some (.slice (some ad) kids.length c) := hK3.cell 5
     have HK3 := Lib.hid hK3
     have hKl3 := HK3.out.lt
     clear hb3 hK3 c0 c4 c5 hcn2 hK hB
     go_wp2_with (refine wpList_load_at rfl 26 _ rfl (ad.add (i * 6)) rfl [.int .i64 k1, .bool b1, .int .i64 n1, .string s1, .slice NA1 nn1 nc1, .slice A1 m1 c1] _ (HC1.out _ HB3.out) Tryz.underlying26 rfl jv_size ?_)
     refine (cp.out _ HB3.out).mono ?_
     rintro _ w5 ⟨rfl, hb5⟩
     have HB5 := Lib.hid (below_next HB3.out hb5)
     have HK5 := Lib.hid (HK3.out.below hb5 HK3.out.lt)
     clear hb5 c53
     go_wp2_with fail
     exact ⟨⟨i + 1, _, by omega, by go_num, rfl, hzl2, HPZ, HB5, HK5⟩, by simp [intOf]; omega⟩
   ·
    obtain rfl : i = kids.length := by omega
    have hz2 := hz.out
    rw [← HPL.out, List.take_length] at hz2
    have HZ := Lib.hid hz2
    clear hz hz2
    go_wp2_with fail
    go_ret
    exact ⟨by rw [HV.out, ← HZ.out]; exact congrArg (fun x => Ending.returned (.string x)) (brack 123 125 _), hB.out⟩
theorem rprint_one (k : Int) (b : Bool) (n : Int) (s : List UInt8) (names : List (List UInt8)) (kids : List Jv) (hok : ∀ x ∈ kids, PrintOk 41 x) : PrintOk 41 (.mk k b n s names kids) := by
 intro cs w h1 h2 h3 h4 h5
 obtain ⟨d, hd⟩ := h3
 have hk := (may_parts hd).1
 by_cases h : k = 5 ∨ k = 6
 ·
  exact rprint_node k b n s names kids h hok cs w h1 h2 ⟨d, hd⟩ h4 h5
 ·
  exact rprint_leaf k b n s names kids (by omega) cs w h1 h2 ⟨d, hd⟩ h4 h5
mutual
theorem rprint_all : ∀ t : Jv, PrintOk 41 t
 | .mk k b n s names kids => rprint_one k b n s names kids (rprint_each kids)
theorem rprint_each : ∀ ks : List Jv, ∀ k ∈ ks, PrintOk 41 k
 | [], k, h => by simp at h
 | x :: ks, k, h => by
  have h1 := rprint_all x
  have h2 := rprint_each ks
  rcases List.mem_cons.1 h with e | h
  ·
   rw [e]; exact h1
  ·
   exact h2 k h
end
theorem rprintm_walk : ShowOk 24 := by
 intro v cs w hsm hsz hT hv
 obtain ⟨k1, b1, n1, s1, NA1, nn1, nc1, A1, m1, c1, rfl⟩ := hv.form
 have hb1 := (Below.refl w.heap.size w).alloc (Nat.le_refl _) (.cells #[.int .i64 k1, .bool b1, .int .i64 n1, .string s1, .slice NA1 nn1 nc1, .slice A1 m1 c1] 26)
 have cm := Lib.hid (rmaym_walk v _ _ hsm (hv.below hb1))
 have HK := Lib.hid (Blk.new w 26 #[.int .i64 k1, .bool b1, .int .i64 n1, .string s1, .slice NA1 nn1 nc1, .slice A1 m1 c1])
 have HB := Lib.hid hb1
 cases hm : mayB v
 ·
  have hp : Hid (printJ v = []) := by show _ = _; rw [printJ, hm]; rfl
  rw [hm] at cm
  clear hb1 hv hm
  go_enter Tryz.func24, Tryz.ntmps24
  go_wp2_with (refine wpList_load_at rfl 26 _ rfl ⟨w.heap.size, 0, none⟩ rfl [.int .i64 k1, .bool b1, .int .i64 n1, .string s1, .slice NA1 nn1 nc1, .slice A1 m1 c1] _ (blk_cells HK.out) Tryz.underlying26 rfl jv_size ?_)
  refine cm.out.mono ?_
  rintro _ w5 ⟨rfl, hb5⟩
  have HB5 := Lib.hid (below_next HB.out hb5)
  clear hb5
  go_wp2_with fail
  go_ret
  exact ⟨by rw [hp.out]; rfl, HB5.out⟩
 ·
  have hp : Hid (printJ v = jprint v) := by show _ = _; rw [printJ, hm]; rfl
  have cp := Lib.hid (fun W hW => rprint_all v _ W hsm hsz ⟨0, hm⟩ (hT.below hW) (hv.below hW))
  rw [hm] at cm
  clear hb1 hv hm
  go_enter Tryz.func24, Tryz.ntmps24
  go_wp2_with (refine wpList_load_at rfl 26 _ rfl ⟨w.heap.size, 0, none⟩ rfl [.int .i64 k1, .bool b1, .int .i64 n1, .string s1, .slice NA1 nn1 nc1, .slice A1 m1 c1] _ (blk_cells HK.out) Tryz.underlying26 rfl jv_size ?_)
  refine cm.out.mono ?_
  rintro _ w5 ⟨rfl, hb5⟩
  have HB5 := Lib.hid (below_next HB.out hb5)
  have HK5 := Lib.hid (HK.out.below hb5 HK.out.lt)
  clear hb5
  go_wp2_with (refine wpList_load_at rfl 26 _ rfl ⟨w.heap.size, 0, none⟩ rfl [.int .i64 k1, .bool b1, .int .i64 n1, .string s1, .slice NA1 nn1 nc1, .slice A1 m1 c1] _ (blk_cells HK5.out) Tryz.underlying26 rfl jv_size ?_)
  refine (cp.out _ HB5.out).mono ?_
  rintro _ w6 ⟨rfl, hb6⟩
  have HB6 := Lib.hid (below_next HB5.out hb6)
  clear hb6
  go_wp2_with fail
  go_ret
  exact ⟨by rw [hp.out]; rfl, HB6.out⟩
end Go.Proofs.YtieppmppdmcleaaGreatDoor

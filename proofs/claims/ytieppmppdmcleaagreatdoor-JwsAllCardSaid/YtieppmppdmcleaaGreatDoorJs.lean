/- json.prints and json.Print. Conditions: a small value that may be; the laid table. -/
import Derived.Test.YtieppmppdmcleaaGreatDoorB9
set_option linter.unusedVariables false
set_option linter.unusedSimpArgs false
set_option maxRecDepth 20000
set_option maxHeartbeats 16000000
namespace Go.Proofs.YtieppmppdmcleaaGreatDoor
open Go.RowKit
theorem cat_mk (a b : List UInt8) : (⟨a.toArray⟩ : ByteArray) ++ ⟨b.toArray⟩ = ⟨(a ++ b).toArray⟩ := by
 apply str_eq
 simp
theorem may_parts {ok : List UInt8 → Bool} {k : Int} {b : Bool} {n : Int} {s : List UInt8} {names : List (List UInt8)} {kids : List Jv} {d : Nat} (h : mayJ ok (.mk k b n s names kids) d = true) :
  (k = 1 ∨ k = 2 ∨ k = 3 ∨ k = 4 ∨ k = 5 ∨ k = 6) ∧ (k = 6 → names.length = kids.length) ∧ ∀ x ∈ kids, mayJ ok x (d + 1) = true := by
 rw [mayJ, Bool.and_eq_true] at h
 obtain ⟨h1, h2⟩ := h
 simp only [aloneB, Bool.and_eq_true, Bool.or_eq_true, decide_eq_true_eq, Bool.not_eq_true', decide_eq_false_iff_not] at h1 h2
 obtain ⟨⟨⟨⟨⟨⟨⟨⟨a1, _⟩, _⟩, _⟩, _⟩, _⟩, a7⟩, _⟩, a9⟩ := h1
 refine ⟨by omega, fun h6 => ?_, fun x hx => ?_⟩
 ·
  rcases a9 with a9 | a9
  ·
   exact absurd h6 a9
  ·
   exact a9.2
 ·
  rcases h2 with h2 | h2
  ·
   rcases a7 with a7 | a7
   ·
    rw [List.isEmpty_iff] at a7; rw [a7] at hx; simp at hx
   ·
    exact absurd a7 h2
  ·
   have h3 := h2.2
   rw [mayJs_any] at h3
   have : (kids.any fun x => !mayJ ok x (d + 1)) = false := by simpa using h3
   rw [List.any_eq_false] at this
   simpa using this x hx
def PrintOk (F : FuncId) (v : Jv) : Prop := ∀ (cs : List Value) (w : World), smJ v → szJ v ≤ 100000 → (∃ d, mayJ validL v d = true) → Tab w → JvV w 0 v cs → Calls Tryz.prog F #[.agg cs.toArray] w fun e w' => e = .returned (.string ⟨(jprint v).toArray⟩) ∧ Below w.heap.size w w'
def partsJ (k : Int) (names : List (List UInt8)) (kids : List Jv) : List (List UInt8) := if k = 6 then jprintO names kids else jprintL kids
theorem brack (a b : UInt8) (l : List UInt8) : (⟨#[a]⟩ ++ ⟨l.toArray⟩ : ByteArray) ++ ⟨#[b]⟩ = ⟨(a :: (l ++ [b])).toArray⟩ := by
 apply str_eq
 simp
theorem colon (a b : List UInt8) : (⟨a.toArray⟩ ++ ⟨#[58]⟩ : ByteArray) ++ ⟨b.toArray⟩ = ⟨(a ++ 58 :: b).toArray⟩ := by
 apply str_eq
 simp
theorem mk_name (l : List UInt8) {n : Nat} (h : l.length ≤ n) : ∃ z : ByteArray, (⟨l.toArray⟩ : ByteArray) = z ∧ z.size ≤ n := ⟨_, rfl, by rw [size_mks]; exact h⟩
theorem prints_leaf (k : Int) (b : Bool) (n : Int) (s : List UInt8) (names : List (List UInt8)) (kids : List Jv) (hk : k = 1 ∨ k = 2 ∨ k = 3 ∨ k = 4) : PrintOk 92 (.mk k b n s names kids) := by
 intro cs w hsm hsz _ hT hv
 have hsm2 := hsm
 rw [smJ] at hsm2
 obtain ⟨_, hn, hs3, _, _, _, _⟩ := hsm2
 rw [JvV] at hv
 obtain ⟨NA, nc, A, c, vs, rfl, _⟩ := hv
 simp only [cells6, strV]
 have hb1 := (Below.refl w.heap.size w).alloc (Nat.le_refl _) (.cells #[.int .i64 k, .bool b, .int .i64 n, .string ⟨s.toArray⟩, .slice NA names.length nc, .slice A kids.length c] 26)
 have HB := Lib.hid hb1
 have cq := Lib.hid (quoted_walk ⟨s.toArray⟩ s (by simp) (w.alloc (.cells #[.int .i64 k, .bool b, .int .i64 n, .string ⟨s.toArray⟩, .slice NA names.length nc, .slice A kids.length c] 26)) (by rw [size_mks]; omega))
 have ci := Lib.hid (itoa_walk n hn.1 hn.2 _ (hT.below hb1))
 have cf := Lib.hid (Tryz.strconv_FormatBool b (w.alloc (.cells #[.int .i64 k, .bool b, .int .i64 n, .string ⟨s.toArray⟩, .slice NA names.length nc, .slice A kids.length c] 26)))
 generalize hx : (⟨s.toArray⟩ : ByteArray) = y at *
 clear hb1 hx hT hsm
 rcases hk with rfl | rfl | rfl | rfl
 ·
  have hv : Hid (jprint (.mk 1 b n s names kids) = [110, 117, 108, 108]) := by show _ = _; rw [jprint]; rfl
  go_enter Tryz.func92, Tryz.ntmps92
  go_wp2_with fail
  go_ret
  exact ⟨by rw [hv.out]; rfl, HB.out⟩
 ·
  have hv : Hid (jprint (.mk 2 b n s names kids) = Lib.formatBool b) := by show _ = _; rw [jprint, formatL]; rfl
  go_enter Tryz.func92, Tryz.ntmps92
  go_wp2_with fail
  refine cf.out.mono ?_
  rintro _ w1 ⟨rfl, rfl⟩
  go_wp2_with fail
  go_ret
  exact ⟨by rw [hv.out]; rfl, HB.out⟩
 ·
  have hv : Hid (jprint (.mk 3 b n s names kids) = Lib.itoa n) := by show _ = _; rw [jprint]; rfl
  go_enter Tryz.func92, Tryz.ntmps92
  go_wp2_with fail
  refine ci.out.mono ?_
  rintro _ w1 ⟨rfl, hb1⟩
  have HB1 := Lib.hid (below_next HB.out hb1)
  clear hb1
  go_wp2_with fail
  go_ret
  exact ⟨by rw [hv.out]; rfl, HB1.out⟩
 ·
  have hv : Hid (jprint (.mk 4 b n s names kids) = quotedL s) := by show _ = _; rw [jprint]; rfl
  go_enter Tryz.func92, Tryz.ntmps92
  go_wp2_with fail
  refine cq.out.mono ?_
  rintro _ w1 ⟨rfl, hb1⟩
  have HB1 := Lib.hid (below_next HB.out hb1)
  clear hb1
  go_wp2_with fail
  go_ret
  exact ⟨by rw [hv.out]; rfl, HB1.out⟩
theorem prints_node (k : Int) (b : Bool) (n : Int) (s : List UInt8) (names : List (List UInt8)) (kids : List Jv) (hk : k = 5 ∨ k = 6) (hok : ∀ x ∈ kids, PrintOk 92 x) : PrintOk 92 (.mk k b n s names kids) := by
 intro cs w hsm hsz hmay hT hv
 obtain ⟨i0, hi, hz0, hz1, hz2⟩ := infoS4 info_string
 obtain ⟨d, hmay⟩ := hmay
 obtain ⟨_, hnk, hmk⟩ := may_parts hmay
 have hsm2 := hsm
 rw [smJ] at hsm2
 obtain ⟨_, hn, hs3, hs4, hs5, hs6, hs7⟩ := hsm2
 rw [szJ] at hsz
 have hL := jprintL_le kids hs7
 have hO := jprintO_le names kids hs7
 rw [JvV] at hv
 obtain ⟨NA, nc, A, c, vs, rfl, h1, h2, h3, _, h5, _, h7⟩ := hv
 have hpl : (partsJ k names kids).length = kids.length := by unfold partsJ; split <;> simp [jprintO_len, jprintL_len]
 have hplb : lens1 (partsJ k names kids) ≤ 100000000 := by unfold partsJ; split <;> omega
 have HPL := Lib.hid hpl
 have HPB := Lib.hid hplb
 have HOK := Lib.hid (fun x hx (cs : List Value) W hW => hok x hx cs W (smJs_all hs7 x hx) (by have := szJs_le hx; omega) ⟨d + 1, hmk x hx⟩ (hT.below hW))
 have HNK := Lib.hid hnk
 have H3 := Lib.hid h3
 have H5 := Lib.hid h5
 have H7 := Lib.hid h7
 have HS5 := Lib.hid hs5
 simp only [cells6, strV]
 generalize hx : (⟨s.toArray⟩ : ByteArray) = y at *
 have HB := Lib.hid ((Below.refl w.heap.size w).alloc (Nat.le_refl _) (.cells #[.int .i64 k, .bool b, .int .i64 n, .string y, .slice NA names.length nc, .slice A kids.length c] 26))
 have HK := Lib.hid (Blk.new w 26 #[.int .i64 k, .bool b, .int .i64 n, .string y, .slice NA names.length nc, .slice A kids.length c])
 have HOWN := Lib.hid (World.ownsRow_nil (w.alloc (.cells #[.int .i64 k, .bool b, .int .i64 n, .string y, .slice NA names.length nc, .slice A kids.length c] 26)) (w.heap.size + 1) 9 1)
 have hv : Hid (jprint (.mk k b n s names kids) = if k = 6 then 123 :: (Lib.join (partsJ k names kids) [44] ++ [125]) else 91 :: (Lib.join (partsJ k names kids) [44] ++ [93])) := by
  show _ = _
  rw [jprint, partsJ]
  rcases hk with rfl | rfl <;> rfl
 clear hok hnk hmk hL hO hx h3 h5 h7 hT hsm hmay hpl hplb hs5 hn
 rcases hk with rfl | rfl
 ·
  have HV : Hid (jprint (.mk 5 b n s names kids) = 91 :: (Lib.join (partsJ 5 names kids) [44] ++ [93])) := by show _ = _; rw [hv.out, if_neg (by decide)]
  clear hv
  go_enter Tryz.func92, Tryz.ntmps92
  go_wp2_with fail
  go_loopw [3, 30] (fun lv iv wr => ∃ i : Nat, i ≤ kids.length ∧ iv = .int .i64 i ∧ Hid (wr.ownsRow (w.heap.size + 1) 9 1 lv i (strVs ((partsJ 5 names kids).take i))) ∧ Hid (Below w.heap.size w wr) ∧ Hid (Blk wr w.heap.size 26 #[.int .i64 5, .bool b, .int .i64 n, .string y, .slice NA names.length nc, .slice A kids.length c])) (fun _ iv _ => kids.length - (intOf iv).toNat)
  case atStart => exact ⟨0, by omega, rfl, by simpa [strVs] using HOWN, HB, HK⟩
  case round =>
   clear HOWN HB HK
   obtain ⟨i, hi9, rfl, hown, hB, hK⟩ := hrel
   have hKl := hK.out.lt
   by_cases hlt : i < kids.length
   ·
    obtain ⟨kd, hkd⟩ : ∃ a, kids[i]? = some a := ⟨kids[i], List.getElem?_eq_getElem hlt⟩
    obtain ⟨ad, v, rfl, hva, hcv⟩ := jkid_at H7.out H5.out hkd
    have hadl := reads_near H5.out (by omega) rfl
    have hcv2 : ∀ t x, v[t]? = some x → wr.cell? ((ad.add (i * 6)).add t) = some x := fun t x hx => (hB.out.cell (by rw [block_of_add, block_of_add]; exact hadl)).trans (hcv t x hx)
    have cp := Lib.hid (fun W hW => HOK.out kd (List.mem_of_getElem? hkd) v W hW (hva.below hW))
    have HP : Hid ((partsJ 5 names kids).take (i + 1) = (partsJ 5 names kids).take i ++ [jprint kd]) := by
     show _ = _
     rw [List.take_add_one, show (partsJ 5 names kids)[i]? = some (jprint kd) from jprintL_get kids i kd hkd]; rfl
    obtain ⟨k1, b1, n1, s1, NA1, nn1, nc1, A1, m1, c1, rfl⟩ := hva.form
    have HC1 := Lib.hid hcv2
    have HBA := Lib.hid (hB.out.alloc hB.out.size (.cells #[.int .i64 k1, .bool b1, .int .i64 n1, .string s1, .slice NA1 nn1 nc1, .slice A1 m1 c1] 26))
    have HKA := Lib.hid (hK.out.alloc (.cells #[.int .i64 k1, .bool b1, .int .i64 n1, .string s1, .slice NA1 nn1 nc1, .slice A1 m1 c1] 26))
    have HOA := Lib.hid (hown.out.alloc (.cells #[.int .i64 k1, .bool b1, .int .i64 n1, .string s1, .slice NA1 nn1 nc1, .slice A1 m1 c1] 26))
    clear hcv hcv2 hva hkd hown hK
    go_wp2_with (first
     | (refine wpList_load_at rfl 26 _ rfl (ad.add (i * 6)) rfl [.int .i64 k1, .bool b1, .int .i64 n1, .string s1, .slice NA1 nn1 nc1, .slice A1 m1 c1] _ HC1.out Tryz.underlying26 rfl jv_size ?_))
    refine (cp.out _ HBA.out).mono ?_
    rintro _ w3 ⟨rfl, hb3⟩
    have HB3 := Lib.hid (below_next HBA.out hb3)
    have hK3 := HKA.out.below hb3 HKA.out.lt
    have c03 : w3.cell? ⟨w.heap.size, 0, none⟩ = some (.int .i64 5) := hK3.cell 0
    have HK3 := Lib.hid hK3
    have hown3 := ownsRow_below HOA.out hb3
    have hsz3 := HK3.out.lt
    clear hb3 hK3 HBA HKA HOA cp HC1
    go_wp2_with (at_builtin; go_loud (refine wpList_append_new w3 rfl (.tmp 49) (.tmp 51) 23 rfl (w.heap.size + 1) 9 i0 (.string ⟨#[]⟩) 1 16 Tryz.underlying23 hi hz0 hz1 hz2 rfl (by decide) u3 i _ rfl hown3 [.string ⟨(jprint kd).toArray⟩] rfl rfl (by simp [Value.oneCell']) (by unfold maxLen; omega) (by omega) (by omega) ?_); intro v' w4 hown4 hg4)
    have HO4 : Hid (w4.ownsRow (w.heap.size + 1) 9 1 v' (i + 1) (strVs ((partsJ 5 names kids).take (i + 1)))) := by
     show World.ownsRow _ _ _ _ _ _ _
     rw [HP.out, strVs, List.map_append]
     exact hown4
    have hgr := hown3.lt
    have HB4 := Lib.hid (HB3.out.grown hg4 HB3.out.size (fun q e => by have := hgr q e; omega))
    have HK4 := Lib.hid (HK3.out.grown hg4 (fun e => by have := hgr _ e.symm; omega))
    clear hown4 hg4 hown3 hgr
    go_wp2_with fail
    exact ⟨⟨i + 1, by omega, by go_num, HO4, HB4, HK4⟩, by simp [intOf]; omega⟩
   ·
    obtain rfl : i = kids.length := by omega
    have ho := hown.out
    rw [← HPL.out, List.take_length] at ho
    obtain ⟨A', c', eA, hc, hrd⟩ := own_reads ho (Nat.le_refl _)
    have cj := Lib.hid (join_walk A' c' _ (partsJ 5 names kids) wr hrd hc (Nat.le_refl _) HPB.out)
    rw [HPL.out] at eA cj
    obtain ⟨z, hz, hzl⟩ := mk_name (Lib.join (partsJ 5 names kids) [44]) (Nat.le_trans (jp_lens _) HPB.out)
    rw [hz] at cj
    have HZ := Lib.hid hz
    clear hz
    subst eA
    clear ho hrd hown
    have hB0 := hB.out.size
    have c0 : wr.cell? ⟨w.heap.size, 0, none⟩ = some (.int .i64 5) := hK.out.cell 0
    go_wp2_with fail
    refine cj.out.mono ?_
    rintro _ w3 ⟨rfl, hb3⟩
    have HB3 := Lib.hid (below_next hB.out hb3)
    have c03 : w3.cell? ⟨w.heap.size, 0, none⟩ = some (.int .i64 5) := (hK.out.below hb3 hK.out.lt).cell 0
    clear hb3
    go_wp2_with fail
    go_ret
    exact ⟨by rw [HV.out, ← HZ.out]; exact congrArg (fun x => Ending.returned (.string x)) (brack 91 93 _), HB3.out⟩
 ·
  have HV : Hid (jprint (.mk 6 b n s names kids) = 123 :: (Lib.join (partsJ 6 names kids) [44] ++ [125])) := by show _ = _; rw [hv.out, if_pos rfl]
  have HNN : Hid (names.length = kids.length) := HNK.out rfl
  clear hv HNK
  go_enter Tryz.func92, Tryz.ntmps92
  go_wp2_with fail
  go_loopw [3, 30] (fun lv iv wr => ∃ i : Nat, i ≤ kids.length ∧ iv = .int .i64 i ∧ Hid (wr.ownsRow (w.heap.size + 1) 9 1 lv i (strVs ((partsJ 6 names kids).take i))) ∧ Hid (Below w.heap.size w wr) ∧ Hid (Blk wr w.heap.size 26 #[.int .i64 6, .bool b, .int .i64 n, .string y, .slice NA names.length nc, .slice A kids.length c])) (fun _ iv _ => kids.length - (intOf iv).toNat)
  case atStart => exact ⟨0, by omega, rfl, by simpa [strVs] using HOWN, HB, HK⟩
  case round =>
   clear HOWN HB HK
   obtain ⟨i, hi9, rfl, hown, hB, hK⟩ := hrel
   have hKl := hK.out.lt
   by_cases hlt : i < kids.length
   ·
    obtain ⟨kd, hkd⟩ : ∃ a, kids[i]? = some a := ⟨kids[i], List.getElem?_eq_getElem hlt⟩
    obtain ⟨ad, v, rfl, hva, hcv⟩ := jkid_at H7.out H5.out hkd
    have hadl := reads_near H5.out (by omega) rfl
    have hcv2 : ∀ t x, v[t]? = some x → wr.cell? ((ad.add (i * 6)).add t) = some x := fun t x hx => (hB.out.cell (by rw [block_of_add, block_of_add]; exact hadl)).trans (hcv t x hx)
    obtain ⟨bd, nm, rfl, hnm, hbd, hcn⟩ := name_at H3.out (k := i) (by rw [HNN.out]; exact hlt)
    have hnl := HS5.out nm (List.mem_of_getElem? hnm)
    have hql := quotedL_le nm
    have hjl := jprint_le kd (smJs_all hs7 kd (List.mem_of_getElem? hkd))
    have hjz := szJs_le (List.mem_of_getElem? hkd)
    obtain ⟨zq, hzq, hzql⟩ := mk_name (quotedL nm) (n := 1000000) (by omega)
    obtain ⟨zp, hzp, hzpl⟩ := mk_name (jprint kd) (n := 10000000) (by omega)
    have cq := fun W => quoted_walk ⟨nm.toArray⟩ nm (by simp) W (by rw [size_mks]; omega)
    simp only [hzq] at cq
    have CQ := Lib.hid cq
    have cp0 := fun W hW => HOK.out kd (List.mem_of_getElem? hkd) v W hW (hva.below hW)
    simp only [hzp] at cp0
    have cp := Lib.hid cp0
    have HCN := Lib.hid hcn
    have HP : Hid ((partsJ 6 names kids).take (i + 1) = (partsJ 6 names kids).take i ++ [quotedL nm ++ 58 :: jprint kd]) := by
     show _ = _
     rw [List.take_add_one, show (partsJ 6 names kids)[i]? = some (quotedL nm ++ 58 :: jprint kd) from jprintO_get names kids i nm kd hnm hkd]; rfl
    obtain ⟨k1, b1, n1, s1, NA1, nn1, nc1, A1, m1, c1, rfl⟩ := hva.form
    have HC1 := Lib.hid hcv2
    have HCAT : Hid ((zq ++ ⟨#[58]⟩) ++ zp = ⟨(quotedL nm ++ 58 :: jprint kd).toArray⟩) := by show _ = _; rw [← hzq, ← hzp]; exact colon _ _
    have HBA := Lib.hid (hB.out.alloc hB.out.size (.cells #[.int .i64 k1, .bool b1, .int .i64 n1, .string s1, .slice NA1 nn1 nc1, .slice A1 m1 c1] 26))
    have HKA := Lib.hid (hK.out.alloc (.cells #[.int .i64 k1, .bool b1, .int .i64 n1, .string s1, .slice NA1 nn1 nc1, .slice A1 m1 c1] 26))
    have HOA := Lib.hid (hown.out.alloc (.cells #[.int .i64 k1, .bool b1, .int .i64 n1, .string s1, .slice NA1 nn1 nc1, .slice A1 m1 c1] 26))
    generalize (⟨nm.toArray⟩ : ByteArray) = xn at *
    clear hcv hcv2 hva hkd hown hK cq cp0 hzq hzp hnm hnl hql hjl hjz hcn
    go_wp2_with (first
     | (refine wpList_load_at rfl 26 _ rfl (ad.add (i * 6)) rfl [.int .i64 k1, .bool b1, .int .i64 n1, .string s1, .slice NA1 nn1 nc1, .slice A1 m1 c1] _ HC1.out Tryz.underlying26 rfl jv_size ?_))
    refine (cp.out _ HBA.out).mono ?_
    rintro _ w3 ⟨rfl, hb3⟩
    have HB3 := Lib.hid (below_next HBA.out hb3)
    have hK3 := HKA.out.below hb3 HKA.out.lt
    have c03 : w3.cell? ⟨w.heap.size, 0, none⟩ = some (.int .i64 6) := hK3.cell 0
    have HK3 := Lib.hid hK3
    have HO3 := Lib.hid (ownsRow_below HOA.out hb3)
    have c43 : w3.cell? ⟨w.heap.size, 4, none⟩ = some (.slice (some bd) names.length nc) := hK3.cell 4
    have hcn3 : w3.cell? (bd.add i) = some (.string xn) := (HB3.out.cell (p := bd.add i) (by rw [block_of_add]; exact hbd)).trans HCN.out
    have hin : i < names.length := by rw [HNN.out]; exact hlt
    clear hb3 hK3 HBA HKA HOA cp HC1
    go_wp2_with fail
    refine (CQ.out _).mono ?_
    rintro _ w5 ⟨rfl, hb5⟩
    have HB5 := Lib.hid (below_next HB3.out hb5)
    have HK5 := Lib.hid (HK3.out.below hb5 HK3.out.lt)
    have hown3 := ownsRow_below HO3.out hb5
    have hsz3 := HK5.out.lt
    clear hb5 c43 hcn3 c03
    go_wp2_with (at_builtin; go_loud (refine wpList_append_new w5 rfl (.tmp 49) (.tmp 51) 23 rfl (w.heap.size + 1) 9 i0 (.string ⟨#[]⟩) 1 16 Tryz.underlying23 hi hz0 hz1 hz2 rfl (by decide) u3 i _ rfl hown3 [.string _] rfl rfl (by simp [Value.oneCell']) (by unfold maxLen; omega) (by omega) (by omega) ?_); intro v' w4 hown4 hg4)
    have HO4 : Hid (w4.ownsRow (w.heap.size + 1) 9 1 v' (i + 1) (strVs ((partsJ 6 names kids).take (i + 1)))) := by
     show World.ownsRow _ _ _ _ _ _ _
     rw [HP.out, strVs, List.map_append]
     rw [HCAT.out] at hown4
     exact hown4
    have hgr := hown3.lt
    have HB4 := Lib.hid (HB5.out.grown hg4 HB5.out.size (fun q e => by have := hgr q e; omega))
    have HK4 := Lib.hid (HK5.out.grown hg4 (fun e => by have := hgr _ e.symm; omega))
    clear hown4 hg4 hown3 hgr
    go_wp2_with fail
    exact ⟨⟨i + 1, by omega, by go_num, HO4, HB4, HK4⟩, by simp [intOf]; omega⟩
   ·
    obtain rfl : i = kids.length := by omega
    have ho := hown.out
    rw [← HPL.out, List.take_length] at ho
    obtain ⟨A', c', eA, hc, hrd⟩ := own_reads ho (Nat.le_refl _)
    have cj := Lib.hid (join_walk A' c' _ (partsJ 6 names kids) wr hrd hc (Nat.le_refl _) HPB.out)
    rw [HPL.out] at eA cj
    obtain ⟨z, hz, hzl⟩ := mk_name (Lib.join (partsJ 6 names kids) [44]) (Nat.le_trans (jp_lens _) HPB.out)
    rw [hz] at cj
    have HZ := Lib.hid hz
    clear hz
    subst eA
    clear ho hrd hown
    have hB0 := hB.out.size
    have c0 : wr.cell? ⟨w.heap.size, 0, none⟩ = some (.int .i64 6) := hK.out.cell 0
    go_wp2_with fail
    refine cj.out.mono ?_
    rintro _ w3 ⟨rfl, hb3⟩
    have HB3 := Lib.hid (below_next hB.out hb3)
    have c03 : w3.cell? ⟨w.heap.size, 0, none⟩ = some (.int .i64 6) := (hK.out.below hb3 hK.out.lt).cell 0
    clear hb3
    go_wp2_with fail
    go_ret
    exact ⟨by rw [HV.out, ← HZ.out]; exact congrArg (fun x => Ending.returned (.string x)) (brack 123 125 _), HB3.out⟩
theorem prints_one (k : Int) (b : Bool) (n : Int) (s : List UInt8) (names : List (List UInt8)) (kids : List Jv) (hok : ∀ x ∈ kids, PrintOk 92 x) : PrintOk 92 (.mk k b n s names kids) := by
 intro cs w h1 h2 h3 h4 h5
 obtain ⟨d, hd⟩ := h3
 have hk := (may_parts hd).1
 by_cases h : k = 5 ∨ k = 6
 ·
  exact prints_node k b n s names kids h hok cs w h1 h2 ⟨d, hd⟩ h4 h5
 ·
  exact prints_leaf k b n s names kids (by omega) cs w h1 h2 ⟨d, hd⟩ h4 h5
mutual
theorem prints_all : ∀ t : Jv, PrintOk 92 t
 | .mk k b n s names kids => prints_one k b n s names kids (prints_each kids)
theorem prints_each : ∀ ks : List Jv, ∀ k ∈ ks, PrintOk 92 k
 | [], k, h => by simp at h
 | x :: ks, k, h => by
  have h1 := prints_all x
  have h2 := prints_each ks
  rcases List.mem_cons.1 h with e | h
  ·
   rw [e]; exact h1
  ·
   exact h2 k h
end
def printJ (v : Jv) : List UInt8 := if mayB v then jprint v else []
def ShowOk (F : FuncId) : Prop := ∀ (v : Jv) (cs : List Value) (w : World), smJ v → szJ v ≤ 100000 → Tab w → JvV w 0 v cs → Calls Tryz.prog F #[.agg cs.toArray] w fun e w' => e = .returned (.string ⟨(printJ v).toArray⟩) ∧ Below w.heap.size w w'
theorem print_walk : ShowOk 58 := by
 intro v cs w hsm hsz hT hv
 obtain ⟨k1, b1, n1, s1, NA1, nn1, nc1, A1, m1, c1, rfl⟩ := hv.form
 have hb1 := (Below.refl w.heap.size w).alloc (Nat.le_refl _) (.cells #[.int .i64 k1, .bool b1, .int .i64 n1, .string s1, .slice NA1 nn1 nc1, .slice A1 m1 c1] 26)
 have cm := Lib.hid (may_walk v _ _ hsm (hv.below hb1))
 have HK := Lib.hid (Blk.new w 26 #[.int .i64 k1, .bool b1, .int .i64 n1, .string s1, .slice NA1 nn1 nc1, .slice A1 m1 c1])
 have HB := Lib.hid hb1
 cases hm : mayB v
 ·
  have hp : Hid (printJ v = []) := by show _ = _; rw [printJ, hm]; rfl
  rw [hm] at cm
  clear hb1 hv hm
  go_enter Tryz.func58, Tryz.ntmps58
  go_wp2_with (refine wpList_load_at rfl 26 _ rfl ⟨w.heap.size, 0, none⟩ rfl [.int .i64 k1, .bool b1, .int .i64 n1, .string s1, .slice NA1 nn1 nc1, .slice A1 m1 c1] _ (blk_cells HK.out) Tryz.underlying26 rfl jv_size ?_)
  refine cm.out.mono ?_
  rintro _ w5 ⟨rfl, hb5⟩
  have HB5 := Lib.hid (below_next HB.out hb5)
  clear hb5
  go_wp2_with fail
  go_ret
  exact ⟨by rw [hp.out]; rfl, HB5.out⟩
 ·
  have hp : Hid (printJ v = jprint v) := by show _ = _; rw [printJ, hm]; rfl
  have cp := Lib.hid (fun W hW => prints_all v _ W hsm hsz ⟨0, hm⟩ (hT.below hW) (hv.below hW))
  rw [hm] at cm
  clear hb1 hv hm
  go_enter Tryz.func58, Tryz.ntmps58
  go_wp2_with (refine wpList_load_at rfl 26 _ rfl ⟨w.heap.size, 0, none⟩ rfl [.int .i64 k1, .bool b1, .int .i64 n1, .string s1, .slice NA1 nn1 nc1, .slice A1 m1 c1] _ (blk_cells HK.out) Tryz.underlying26 rfl jv_size ?_)
  refine cm.out.mono ?_
  rintro _ w5 ⟨rfl, hb5⟩
  have HB5 := Lib.hid (below_next HB.out hb5)
  have HK5 := Lib.hid (HK.out.below hb5 HK.out.lt)
  clear hb5
  go_wp2_with (refine wpList_load_at rfl 26 _ rfl ⟨w.heap.size, 0, none⟩ rfl [.int .i64 k1, .bool b1, .int .i64 n1, .string s1, .slice NA1 nn1 nc1, .slice A1 m1 c1] _ (blk_cells HK5.out) Tryz.underlying26 rfl jv_size ?_)
  refine (cp.out _ HB5.out).mono ?_
  rintro _ w6 ⟨rfl, hb6⟩
  have HB6 := Lib.hid (below_next HB5.out hb6)
  clear hb6
  go_wp2_with fail
  go_ret
  exact ⟨by rw [hp.out]; rfl, HB6.out⟩
end Go.Proofs.YtieppmppdmcleaaGreatDoor

/- Get and Text of the document, over values in memory. Condition: small values. -/
import Derived.Test.YtokgkifckgnabaaDoorJh
set_option linter.unusedVariables false
set_option linter.unusedSimpArgs false
set_option maxRecDepth 20000
namespace Go.Proofs.YtokgkifckgnabaaDoor
open Go.RowKit
theorem getJ_none {k : Int} {b : Bool} {n : Int} {s : List UInt8} {names : List (List UInt8)} {kids : List Jv} {q : List UInt8} {i : Nat} (h : ∀ j p, j < i → names[j]? = some p → p ≠ q) (hx : names.length ≤ i ∨ kids.length ≤ i ∨ k ≠ 6) : getJ (.mk k b n s names kids) q = none := by
  by_cases h6 : k = 6
  case neg => exact if_neg h6
  rw [getJ, if_pos (show (Jv.mk k b n s names kids).kind = 6 from h6)]
  show (match names.findIdx? (· == q) with | some i => kids[i]? | none => none) = none
  cases hf : names.findIdx? (· == q) with
  | none => rfl
  | some m =>
    show kids[m]? = none
    rw [List.findIdx?_eq_some_iff_getElem] at hf
    obtain ⟨hlt, hp, _⟩ := hf
    have hmi : i ≤ m := by
      rcases Nat.lt_or_ge m i with h9 | h9
      · exact absurd (by simpa using hp) (h m _ h9 (List.getElem?_eq_getElem hlt))
      · exact h9
    rw [List.getElem?_eq_none]
    rcases hx with hx | hx | hx
    · omega
    · omega
    · exact absurd h6 hx
theorem getJ_some {b : Bool} {n : Int} {s : List UInt8} {names : List (List UInt8)} {kids : List Jv} {q : List UInt8} {i : Nat} {kd : Jv} (h : ∀ j p, j < i → names[j]? = some p → p ≠ q) (hq : names[i]? = some q) (hk : kids[i]? = some kd) : getJ (.mk 6 b n s names kids) q = some kd := by
  rw [getJ, if_pos (show (Jv.mk 6 b n s names kids).kind = 6 from rfl)]
  show (match names.findIdx? (· == q) with | some i => kids[i]? | none => none) = _
  rw [find_some h hq]
  exact hk
set_option maxHeartbeats 4000000 in
theorem rget_walk (v : Jv) (cs : List Value) (q : List UInt8) (w : World) (hsm : smJ v) (hv : JvV w 0 v cs) :
    Calls Tryd.prog 17 #[.agg cs.toArray, .string ⟨q.toArray⟩] w (GetR (getJ v q) w) := by
  obtain ⟨k, b, n, s, names, kids⟩ := v
  rw [smJ] at hsm
  obtain ⟨_, _, _, hs4, _, hs6, hs7⟩ := hsm
  rw [JvV] at hv
  obtain ⟨NA, nc, A, c, vs, rfl, h1, h2, h3, _, h5, _, h7⟩ := hv
  simp only [cells6, strV]
  generalize hx : (⟨s.toArray⟩ : ByteArray) = y at *
  clear hx
  have hw1 : (w.alloc (.cells #[.int .i64 k, .bool b, .int .i64 n, .string y, .slice NA names.length nc, .slice A kids.length c] 27)).heap.size = w.heap.size + 1 := by simp
  have hb1 := (Below.refl w.heap.size w).alloc (Nat.le_refl _) (.cells #[.int .i64 k, .bool b, .int .i64 n, .string y, .slice NA names.length nc, .slice A kids.length c] 27)
  have hb2 := hb1.alloc hb1.size (.cells #[.int .i64 0, .bool false, .int .i64 0, .string ⟨#[]⟩, .slice none 0 0, .slice none 0 0] 27)
  have hk1 := (Blk.new w 27 #[.int .i64 k, .bool b, .int .i64 n, .string y, .slice NA names.length nc, .slice A kids.length c]).alloc (.cells #[.int .i64 0, .bool false, .int .i64 0, .string ⟨#[]⟩, .slice none 0 0, .slice none 0 0] 27)
  have hk2 := Blk.new (w.alloc (.cells #[.int .i64 k, .bool b, .int .i64 n, .string y, .slice NA names.length nc, .slice A kids.length c] 27)) 27 #[.int .i64 0, .bool false, .int .i64 0, .string ⟨#[]⟩, .slice none 0 0, .slice none 0 0]
  rw [hw1] at hk2
  go_enter Tryd.func17, Tryd.ntmps17
  go_wp2_with fail
  generalize (w.alloc (.cells #[.int .i64 k, .bool b, .int .i64 n, .string y, .slice NA names.length nc, .slice A kids.length c] 27)).alloc (.cells #[.int .i64 0, .bool false, .int .i64 0, .string ⟨#[]⟩, .slice none 0 0, .slice none 0 0] 27) = w2 at *
  have HB2 := Lib.hid hb2
  have HK2 := Lib.hid hk2
  have c0 : w2.cell? ⟨w.heap.size, 0, none⟩ = some (.int .i64 k) := hk1.cell 0
  have c4 : w2.cell? ⟨w.heap.size, 4, none⟩ = some (.slice NA names.length nc) := hk1.cell 4
  have c5 : w2.cell? ⟨w.heap.size, 5, none⟩ = some (.slice A kids.length c) := hk1.cell 5
  clear hb1 hk1 hk2 hw1 hb2
  go_loopw [6] (fun iv wr => ∃ i : Nat, i ≤ names.length ∧ iv = .int .i64 i ∧ Hid (∀ j p, j < i → names[j]? = some p → p ≠ q) ∧ w2 = wr) (fun iv _ => names.length - (intOf iv).toNat)
  case atStart => exact ⟨0, by omega, rfl, fun j p hj => by omega, rfl⟩
  case round =>
    obtain ⟨i, hi, rfl, hno, rfl⟩ := hrel
    by_cases hlt : i < names.length
    case neg =>
      have hg := Lib.hid (getJ_none (k := k) (b := b) (n := n) (s := s) (kids := kids) hno.out (Or.inl (by omega)))
      have d1 : decide ((i : Int) < (names.length : Int)) = false := by simp; omega
      have d2 : decide (i < names.length) = false := by simp; omega
      go_wp2_with (refine wpList_store_blk rfl 27 _ _ rfl (w.heap.size + 1) _ #[.int .i64 0, .bool false, .int .i64 0, .string ⟨#[]⟩, .slice none 0 0, .slice none 0 0] 27 rfl rfl HK2.out rfl jv_size (jv_ones _ _ _ _ _ _ _ _ _ _) ?_)
      refine bodyPost_ret (results_j_t Tryd.results17 _ _ (w.heap.size + 1) _ _ _ _ _ _ rfl HK2.out.setRow) rfl ?_
      rw [hg.out]
      exact getR_none rfl (below_setRow HB2.out (by omega) _)
    have d1 : decide ((i : Int) < (names.length : Int)) = true := by simp; omega
    have d2 : decide (i < names.length) = true := by simp; omega
    by_cases hlt2 : i < kids.length
    case neg =>
      have hg := Lib.hid (getJ_none (k := k) (b := b) (n := n) (s := s) (kids := kids) hno.out (Or.inr (Or.inl (by omega))))
      have e1 : decide ((i : Int) < (kids.length : Int)) = false := by simp; omega
      have e2 : decide (i < kids.length) = false := by simp; omega
      go_wp2_with (refine wpList_store_blk rfl 27 _ _ rfl (w.heap.size + 1) _ #[.int .i64 0, .bool false, .int .i64 0, .string ⟨#[]⟩, .slice none 0 0, .slice none 0 0] 27 rfl rfl HK2.out rfl jv_size (jv_ones _ _ _ _ _ _ _ _ _ _) ?_)
      refine bodyPost_ret (results_j_t Tryd.results17 _ _ (w.heap.size + 1) _ _ _ _ _ _ rfl HK2.out.setRow) rfl ?_
      rw [hg.out]
      exact getR_none rfl (below_setRow HB2.out (by omega) _)
    have e1 : decide ((i : Int) < (kids.length : Int)) = true := by simp; omega
    have e2 : decide (i < kids.length) = true := by simp; omega
    by_cases h6 : k = 6
    case neg =>
      have hg := Lib.hid (getJ_none (k := k) (b := b) (n := n) (s := s) (kids := kids) hno.out (Or.inr (Or.inr h6)))
      have f1 : (k == 6) = false := by simpa using h6
      have f2 : (k != 6) = true := by simpa using h6
      clear h6
      go_wp2_with (refine wpList_store_blk rfl 27 _ _ rfl (w.heap.size + 1) _ #[.int .i64 0, .bool false, .int .i64 0, .string ⟨#[]⟩, .slice none 0 0, .slice none 0 0] 27 rfl rfl HK2.out rfl jv_size (jv_ones _ _ _ _ _ _ _ _ _ _) ?_)
      refine bodyPost_ret (results_j_t Tryd.results17 _ _ (w.heap.size + 1) _ _ _ _ _ _ rfl HK2.out.setRow) rfl ?_
      rw [hg.out]
      exact getR_none rfl (below_setRow HB2.out (by omega) _)
    subst h6
    obtain ⟨ad, p, rfl, hpk, had, hcu⟩ := name_at h3 hlt
    replace hcu := (HB2.out.cell (p := ad.add i) (by rw [block_of_add]; exact had)).trans hcu
    have hcmp := eq_strL p q
    by_cases he : p = q
    · subst he
      obtain ⟨kd, hkd⟩ : ∃ a, kids[i]? = some a := ⟨kids[i], List.getElem?_eq_getElem hlt2⟩
      obtain ⟨bd, v, rfl, hva, hcv⟩ := jkid_at h7 h5 hkd
      have hbdl := reads_near h5 (by omega) rfl
      have hg := Lib.hid (getJ_some (b := b) (n := n) (s := s) hno.out hpk hkd)
      have hcv2 : ∀ j x, v[j]? = some x → w2.cell? ((bd.add (i * 6)).add j) = some x := fun j x hx => (HB2.out.cell (by rw [block_of_add, block_of_add]; exact hbdl)).trans (hcv j x hx)
      have HV := Lib.hid (hva.below (below_setRow HB2.out (Nat.le_succ _) v.toArray))
      obtain ⟨k1, b1, n1, s1, NA1, nn1, nc1, A1, m1, c1, rfl⟩ := hva.form
      have HC1 := Lib.hid hcv2
      clear hcv hcv2 hva hkd hcmp hpk
      generalize (⟨p.toArray⟩ : ByteArray) = x at *
      go_wp2_with (first
        | (refine wpList_load_at rfl 27 _ rfl (bd.add (i * 6)) rfl [.int .i64 k1, .bool b1, .int .i64 n1, .string s1, .slice NA1 nn1 nc1, .slice A1 m1 c1] _ HC1.out Tryd.underlying27 rfl jv_size ?_)
        | (refine wpList_store_blk rfl 27 _ _ rfl (w.heap.size + 1) _ _ 27 rfl rfl HK2.out rfl jv_size (jv_ones _ _ _ _ _ _ _ _ _ _) ?_))
      refine bodyPost_ret (results_j_t Tryd.results17 _ _ (w.heap.size + 1) _ _ _ _ _ _ rfl HK2.out.setRow) rfl ?_
      rw [hg.out]
      exact ⟨_, rfl, HV.out, below_setRow HB2.out (by omega) _⟩
    · have HN : Hid (∀ j p, j < i + 1 → names[j]? = some p → p ≠ q) := fun j p' hj hp' => by
        rcases Nat.lt_succ_iff_lt_or_eq.1 hj with h | rfl
        · exact hno.out j p' h hp'
        · rw [hpk] at hp'; injection hp' with hp'; subst hp'; exact he
      rw [decide_eq_false he] at hcmp
      clear hpk he
      generalize (⟨q.toArray⟩ : ByteArray) = x at *
      generalize (⟨p.toArray⟩ : ByteArray) = z at *
      go_wp2_with fail
      exact ⟨⟨i + 1, by omega, by go_num, HN, trivial⟩, by simp [intOf]; omega⟩
theorem rtext_walk (v : Jv) (cs : List Value) (q : List UInt8) (w : World) (hsm : smJ v) (hv : JvV w 0 v cs) :
    Calls Tryd.prog 19 #[.agg cs.toArray, .string ⟨q.toArray⟩] w (TextR (textJ v q) w) := by
  obtain ⟨k, b, n, s, NA, nn, nc, A, m, c, rfl⟩ := hv.form
  have hb1 := (Below.refl w.heap.size w).alloc (Nat.le_refl _) (.cells #[.int .i64 k, .bool b, .int .i64 n, .string s, .slice NA nn nc, .slice A m c] 27)
  have HB1 := Lib.hid hb1
  have cp := Lib.hid (rget_walk v _ q _ hsm (hv.below hb1))
  have hk := Blk.new w 27 #[.int .i64 k, .bool b, .int .i64 n, .string s, .slice NA nn nc, .slice A m c]
  have HK := Lib.hid hk
  clear hk hb1
  go_enter Tryd.func19, Tryd.ntmps19
  go_wp2_with (refine wpList_load_at rfl 27 _ rfl ⟨w.heap.size, 0, none⟩ rfl [.int .i64 k, .bool b, .int .i64 n, .string s, .slice NA nn nc, .slice A m c] _ (blk_cells HK.out) Tryd.underlying27 rfl jv_size ?_)
  refine cp.out.mono ?_
  rintro _ w5 ⟨cs5, rfl, hv5, hb5⟩
  have HB5 := Lib.hid (below_next HB1.out hb5)
  clear hb5 cp HK
  cases hg : getJ v q with
  | none =>
    obtain ⟨k2, b2, n2, s2, NA2, nn2, nc2, A2, m2, c2, rfl⟩ := hv5.form
    have ht : Hid (textJ v q = none) := by show _ = _; rw [textJ, hg]
    clear hv5 hg
    go_wp2_with fail
    go_ret2
    exact ⟨by rw [ht.out]; rfl, HB5.out.alloc (HB5.out.size) _⟩
  | some x =>
    rw [hg] at hv5
    obtain ⟨xk, xb, xn, xs, xnames, xkids⟩ := x
    have hv6 : JvV w5 0 (.mk xk xb xn xs xnames xkids) cs5 := hv5
    rw [JvV] at hv6
    obtain ⟨NA2, nc2, A2, c2, vs2, rfl, _⟩ := hv6
    clear hv5
    by_cases h4 : xk = 4
    · have ht : Hid (textJ v q = some xs) := by show _ = _; rw [textJ, hg]; exact if_pos h4
      subst h4
      clear hg
      simp only [cells6, strV]
      go_wp2_with fail
      go_ret2
      exact ⟨by rw [ht.out]; rfl, HB5.out.alloc (HB5.out.size) _⟩
    · have ht : Hid (textJ v q = none) := by show _ = _; rw [textJ, hg]; exact if_neg h4
      have e1 : (xk == 4) = false := by simpa using h4
      have e2 : (xk != 4) = true := by simpa using h4
      clear hg h4
      simp only [cells6, strV]
      go_wp2_with fail
      go_ret2
      exact ⟨by rw [ht.out]; rfl, HB5.out.alloc (HB5.out.size) _⟩
end Go.Proofs.YtokgkifckgnabaaDoor

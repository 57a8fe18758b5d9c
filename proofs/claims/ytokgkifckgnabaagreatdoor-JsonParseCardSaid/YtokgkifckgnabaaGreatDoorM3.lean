/- Get and Text of both, over values in memory. Condition: small values. -/
import Derived.Test.YtokgkifckgnabaaGreatDoorJg
set_option linter.unusedVariables false
set_option linter.unusedSimpArgs false
set_option maxRecDepth 20000
namespace Go.Proofs.YtokgkifckgnabaaGreatDoor
open Go.RowKit
def idxS (q : List UInt8) (ps : List (List UInt8)) : Int := match ps.findIdx? (· == q) with
  | some i => (i : Int)
  | none => -1
theorem find_some {q : List UInt8} {ps : List (List UInt8)} {k : Nat} (h : ∀ j p, j < k → ps[j]? = some p → p ≠ q) (hk : ps[k]? = some q) : ps.findIdx? (· == q) = some k := by
  obtain ⟨hlt, e⟩ := List.getElem?_eq_some_iff.1 hk
  rw [List.findIdx?_eq_some_iff_getElem]
  refine ⟨hlt, by rw [e]; simp, fun j hj => ?_⟩
  have := h j _ hj (List.getElem?_eq_getElem (by omega))
  simpa using this
theorem find_none {q : List UInt8} {ps : List (List UInt8)} (h : ∀ j p, j < ps.length → ps[j]? = some p → p ≠ q) : ps.findIdx? (· == q) = none := by
  rw [List.findIdx?_eq_none_iff]
  intro x hx
  obtain ⟨j, hj, e⟩ := List.getElem_of_mem hx
  have := h j x hj (by rw [List.getElem?_eq_getElem hj, e])
  simpa using this
set_option maxHeartbeats 2000000 in
theorem sidx_walk (A : Option Addr) (c B : Nat) (ps : List (List UInt8)) (q : List UInt8) (w : World) (hr : Reads w B 1 A ps.length (strVs ps)) (hb : ps.length ≤ 1000001) :
    Calls Tryz.prog 37 #[.slice A ps.length c, .string ⟨q.toArray⟩] w fun e w' => e = .returned (.int .i64 (idxS q ps)) ∧ w = w' := by
  go_enter Tryz.func37, Tryz.ntmps37
  go_wp2_with fail
  go_loopw [8] (fun iv wr => ∃ k : Nat, k ≤ ps.length ∧ iv = .int .i64 k ∧ Hid (∀ j p, j < k → ps[j]? = some p → p ≠ q) ∧ w = wr) (fun iv _ => ps.length - (intOf iv).toNat)
  case atStart => exact ⟨0, by omega, rfl, fun j p hj => by omega, rfl⟩
  case round =>
    obtain ⟨k, hk, rfl, hp, rfl⟩ := hrel
    by_cases hlt : k < ps.length
    · obtain ⟨ad, p, rfl, hpk, had, hcu⟩ := name_at hr hlt
      have hcmp := eq_strL q p
      by_cases he : q = p
      · subst he
        have hv : Hid (idxS q ps = (k : Int)) := by show _ = _; rw [idxS, find_some hp.out hpk]
        clear hcmp hpk
        generalize (⟨q.toArray⟩ : ByteArray) = x at *
        go_wp2_with fail
        go_ret
        exact ⟨by rw [hv.out]; rfl, rfl⟩
      · have HN : Hid (∀ j p, j < k + 1 → ps[j]? = some p → p ≠ q) := fun j p' hj hp' => by
          rcases Nat.lt_succ_iff_lt_or_eq.1 hj with h | rfl
          · exact hp.out j p' h hp'
          · rw [hpk] at hp'; injection hp' with hp'; subst hp'; exact fun e => he e.symm
        rw [decide_eq_false he] at hcmp
        clear hpk he
        generalize (⟨q.toArray⟩ : ByteArray) = x at *
        generalize (⟨p.toArray⟩ : ByteArray) = y at *
        go_wp2_with fail
        exact ⟨⟨k + 1, by omega, by go_num, HN, trivial⟩, by simp [intOf]; omega⟩
    · obtain rfl : k = ps.length := by omega
      have hv : Hid (idxS q ps = -1) := by show _ = _; rw [idxS, find_none hp.out]
      go_wp2_with fail
      go_ret
      exact ⟨by rw [hv.out]; rfl, rfl⟩
def getJ (v : Jv) (q : List UInt8) : Option Jv := if v.kind = 6 then (match v.names.findIdx? (· == q) with | some i => v.kids[i]? | none => none) else none
def GetR (r : Option Jv) (w : World) (e : Ending) (w' : World) : Prop := ∃ cs, e = .returned (.tuple #[.agg cs.toArray, .bool r.isSome]) ∧ JvV w' 0 (r.getD jvZ) cs ∧ Below w.heap.size w w'
theorem results_j_t {fn : Func} {p u : Tmp} (h : fn.results = #[.cell p 27, .tmp u]) (tmps : Array Value) (w : World) (g : Nat) (c0 c1 c2 c3 c4 c5 : Value)
    (hp : tmps.getD p undef = .pointer (some ⟨g, 0, none⟩)) (hb : Blk w g 27 #[c0, c1, c2, c3, c4, c5]) : (results fn tmps).run Tryz.prog w = .ok (.tuple #[.agg #[c0, c1, c2, c3, c4, c5], tmps.getD u undef]) w := by
  have hp' : tmps[p]?.getD undef = .pointer (some ⟨g, 0, none⟩) := by simpa using hp
  simp [results, h, hp', asAddr, run_loadVar_row w g 27 27 #[c0, c1, c2, c3, c4, c5] (0, 0) _ hb Tryz.underlying27 rfl jv_size]
theorem getR_none {w w' : World} {e : Ending} (he : e = .returned (.tuple #[.agg #[.int .i64 0, .bool false, .int .i64 0, .string ⟨#[]⟩, .slice none 0 0, .slice none 0 0], .bool false])) (hb : Below w.heap.size w w') : GetR none w e w' :=
  ⟨[.int .i64 0, .bool false, .int .i64 0, .string ⟨#[]⟩, .slice none 0 0, .slice none 0 0], he, jv_leaf w' 0 0 false 0 [], hb⟩
set_option maxHeartbeats 4000000 in
theorem get_walk (v : Jv) (cs : List Value) (q : List UInt8) (w : World) (hsm : smJ v) (hv : JvV w 0 v cs) :
    Calls Tryz.prog 19 #[.agg cs.toArray, .string ⟨q.toArray⟩] w (GetR (getJ v q) w) := by
  obtain ⟨k, b, n, s, names, kids⟩ := v
  rw [smJ] at hsm
  obtain ⟨_, _, _, hs4, _, hs6, hs7⟩ := hsm
  rw [JvV] at hv
  obtain ⟨NA, nc, A, c, vs, rfl, h1, h2, h3, _, h5, _, h7⟩ := hv
  simp only [cells6, strV]
  generalize hx : (⟨s.toArray⟩ : ByteArray) = y at *
  clear hx
  have hw1 : (w.alloc (.cells #[.int .i64 k, .bool b, .int .i64 n, .string y, .slice NA names.length nc, .slice A kids.length c] 27)).heap.size = w.heap.size + 1 := by simp
  have hb1 := (Below.refl w.heap.size w).alloc (Nat.le_refl _) (.cells #[.int .i64 k, .bool b, .int .i64 n, .string y, .slice NA names.length nc, .slice A kids.length c] 27)
  have HB2 := Lib.hid (hb1.alloc hb1.size (.cells #[.int .i64 0, .bool false, .int .i64 0, .string ⟨#[]⟩, .slice none 0 0, .slice none 0 0] 27))
  have hk2 := Blk.new (w.alloc (.cells #[.int .i64 k, .bool b, .int .i64 n, .string y, .slice NA names.length nc, .slice A kids.length c] 27)) 27 #[.int .i64 0, .bool false, .int .i64 0, .string ⟨#[]⟩, .slice none 0 0, .slice none 0 0]
  rw [hw1] at hk2
  have HK2 := Lib.hid hk2
  have cidx := Lib.hid (fun W (hW : Below w.heap.size w W) => sidx_walk NA nc _ names q W (h3.below hW) (by omega))
  clear hb1 hk2 hw1
  by_cases h6 : k = 6
  case neg =>
    have e1 : (k == 6) = false := by simpa using h6
    have e2 : (k != 6) = true := by simpa using h6
    have hg : Hid (getJ (.mk k b n s names kids) q = none) := if_neg h6
    clear h6
    go_enter Tryz.func19, Tryz.ntmps19
    go_wp2_with fail
    refine (cidx.out _ HB2.out).mono ?_
    rintro _ w1 ⟨rfl, rfl⟩
    go_wp2_with (refine wpList_store_blk rfl 27 _ _ rfl (w.heap.size + 1) _ #[.int .i64 0, .bool false, .int .i64 0, .string ⟨#[]⟩, .slice none 0 0, .slice none 0 0] 27 rfl rfl HK2.out rfl jv_size (jv_ones _ _ _ _ _ _ _ _ _ _) ?_)
    refine bodyPost_ret (results_j_t Tryz.results19 _ _ (w.heap.size + 1) _ _ _ _ _ _ rfl HK2.out.setRow) rfl ?_
    rw [hg.out]
    exact getR_none rfl (below_setRow HB2.out (by omega) _)
  subst h6
  cases hf : names.findIdx? (· == q) with
  | none =>
    have hi : idxS q names = -1 := by rw [idxS, hf]
    have hg : Hid (getJ (.mk 6 b n s names kids) q = none) := by
      show _ = _
      rw [getJ, if_pos (show (Jv.mk 6 b n s names kids).kind = 6 from rfl)]
      show (match names.findIdx? (· == q) with | some i => kids[i]? | none => none) = none
      rw [hf]
    rw [hi] at cidx
    clear hi hf
    go_enter Tryz.func19, Tryz.ntmps19
    go_wp2_with fail
    refine (cidx.out _ HB2.out).mono ?_
    rintro _ w1 ⟨rfl, rfl⟩
    go_wp2_with (refine wpList_store_blk rfl 27 _ _ rfl (w.heap.size + 1) _ #[.int .i64 0, .bool false, .int .i64 0, .string ⟨#[]⟩, .slice none 0 0, .slice none 0 0] 27 rfl rfl HK2.out rfl jv_size (jv_ones _ _ _ _ _ _ _ _ _ _) ?_)
    refine bodyPost_ret (results_j_t Tryz.results19 _ _ (w.heap.size + 1) _ _ _ _ _ _ rfl HK2.out.setRow) rfl ?_
    rw [hg.out]
    exact getR_none rfl (below_setRow HB2.out (by omega) _)
  | some i =>
    have hi : idxS q names = (i : Int) := by rw [idxS, hf]
    have hg : Hid (getJ (.mk 6 b n s names kids) q = kids[i]?) := by
      show _ = _
      rw [getJ, if_pos (show (Jv.mk 6 b n s names kids).kind = 6 from rfl)]
      show (match names.findIdx? (· == q) with | some i => kids[i]? | none => none) = _
      rw [hf]
    rw [hi] at cidx
    have hin : i < names.length := by
      rw [List.findIdx?_eq_some_iff_getElem] at hf
      exact hf.1
    have e0 : decide ((i : Int) < 0) = false := by simp
    clear hi hf
    by_cases hlt : i < kids.length
    case neg =>
      have e1 : decide ((kids.length : Int) ≤ (i : Int)) = true := by simp; omega
      have e2 : decide (kids.length ≤ i) = true := by simp; omega
      have hgn : Hid (getJ (.mk 6 b n s names kids) q = none) := by show _ = _; rw [hg.out, List.getElem?_eq_none (by omega)]
      go_enter Tryz.func19, Tryz.ntmps19
      go_wp2_with fail
      refine (cidx.out _ HB2.out).mono ?_
      rintro _ w1 ⟨rfl, rfl⟩
      go_wp2_with (refine wpList_store_blk rfl 27 _ _ rfl (w.heap.size + 1) _ #[.int .i64 0, .bool false, .int .i64 0, .string ⟨#[]⟩, .slice none 0 0, .slice none 0 0] 27 rfl rfl HK2.out rfl jv_size (jv_ones _ _ _ _ _ _ _ _ _ _) ?_)
      refine bodyPost_ret (results_j_t Tryz.results19 _ _ (w.heap.size + 1) _ _ _ _ _ _ rfl HK2.out.setRow) rfl ?_
      rw [hgn.out]
      exact getR_none rfl (below_setRow HB2.out (by omega) _)
    have e1 : decide ((kids.length : Int) ≤ (i : Int)) = false := by simp; omega
    have e2 : decide (kids.length ≤ i) = false := by simp; omega
    obtain ⟨kd, hkd⟩ : ∃ a, kids[i]? = some a := ⟨kids[i], List.getElem?_eq_getElem hlt⟩
    obtain ⟨ad, v, rfl, hva, hcv⟩ := jkid_at h7 h5 hkd
    have hadl := reads_near h5 (by omega) rfl
    have hgs : Hid (getJ (.mk 6 b n s names kids) q = some kd) := by show _ = _; rw [hg.out, hkd]
    have cp := Lib.hid (fun W (hW : Below w.heap.size w W) => own_all kd v W (smJs_all hs7 kd (List.mem_of_getElem? hkd)) (hva.below hW))
    have hcv2 : ∀ j x, v[j]? = some x → ((w.alloc (.cells #[.int .i64 6, .bool b, .int .i64 n, .string y, .slice NA names.length nc, .slice (some ad) kids.length c] 27)).alloc (.cells #[.int .i64 0, .bool false, .int .i64 0, .string ⟨#[]⟩, .slice none 0 0, .slice none 0 0] 27)).cell? ((ad.add (i * 6)).add j) = some x := fun j x hx => (HB2.out.cell (by rw [block_of_add, block_of_add]; exact hadl)).trans (hcv j x hx)
    obtain ⟨k1, b1, n1, s1, NA1, nn1, nc1, A1, m1, c1, rfl⟩ := hva.form
    have HC1 := Lib.hid hcv2
    clear hcv hcv2 hva hkd hg
    go_enter Tryz.func19, Tryz.ntmps19
    go_wp2_with fail
    refine (cidx.out _ HB2.out).mono ?_
    rintro _ w1 ⟨rfl, rfl⟩
    go_wp2_with (refine wpList_load_at rfl 27 _ rfl (ad.add (i * 6)) rfl [.int .i64 k1, .bool b1, .int .i64 n1, .string s1, .slice NA1 nn1 nc1, .slice A1 m1 c1] _ HC1.out Tryz.underlying27 rfl jv_size ?_)
    refine (cp.out _ HB2.out).mono ?_
    rintro _ w5 ⟨cs5, rfl, hv5, hb5⟩
    obtain ⟨k2, b2, n2, s2, NA2, nn2, nc2, A2, m2, c2, rfl⟩ := hv5.form
    have hsz : w.heap.size + 1 < ((w.alloc (.cells #[.int .i64 6, .bool b, .int .i64 n, .string y, .slice NA names.length nc, .slice (some ad) kids.length c] 27)).alloc (.cells #[.int .i64 0, .bool false, .int .i64 0, .string ⟨#[]⟩, .slice none 0 0, .slice none 0 0] 27)).heap.size := by simp
    have HK5 := Lib.hid (HK2.out.below hb5 HK2.out.lt)
    have HB5 := Lib.hid (below_next HB2.out hb5)
    have HV5 := Lib.hid hv5
    clear hv5 hb5 cp cidx HC1
    go_wp2_with (refine wpList_store_blk rfl 27 _ _ rfl (w.heap.size + 1) _ _ 27 rfl rfl HK5.out rfl jv_size (jv_ones _ _ _ _ _ _ _ _ _ _) ?_)
    refine bodyPost_ret (results_j_t Tryz.results19 _ _ (w.heap.size + 1) _ _ _ _ _ _ rfl HK5.out.setRow) rfl ?_
    rw [hgs.out]
    exact ⟨_, rfl, (HV5.out.grown (setRow_only w5 (w.heap.size + 1) _) (fun q e => by injection e with e; omega)).low (Nat.zero_le _), below_setRow HB5.out (by omega) _⟩
def textJ (v : Jv) (q : List UInt8) : Option (List UInt8) := match getJ v q with
  | some x => if x.kind = 4 then some x.str else none
  | none => none
def TextR (r : Option (List UInt8)) (w : World) (e : Ending) (w' : World) : Prop := e = .returned (.tuple #[strV (r.getD []), .bool r.isSome]) ∧ Below w.heap.size w w'
/-- what Text does, whatever Get it calls -/
theorem text_walk (v : Jv) (cs : List Value) (q : List UInt8) (w : World) (hsm : smJ v) (hv : JvV w 0 v cs) :
    Calls Tryz.prog 18 #[.agg cs.toArray, .string ⟨q.toArray⟩] w (TextR (textJ v q) w) := by
  obtain ⟨k, b, n, s, NA, nn, nc, A, m, c, rfl⟩ := hv.form
  have hb1 := (Below.refl w.heap.size w).alloc (Nat.le_refl _) (.cells #[.int .i64 k, .bool b, .int .i64 n, .string s, .slice NA nn nc, .slice A m c] 27)
  have HB1 := Lib.hid hb1
  have cp := Lib.hid (get_walk v _ q _ hsm (hv.below hb1))
  have hk := Blk.new w 27 #[.int .i64 k, .bool b, .int .i64 n, .string s, .slice NA nn nc, .slice A m c]
  have HK := Lib.hid hk
  clear hk hb1
  go_enter Tryz.func18, Tryz.ntmps18
  go_wp2_with (refine wpList_load_at rfl 27 _ rfl ⟨w.heap.size, 0, none⟩ rfl [.int .i64 k, .bool b, .int .i64 n, .string s, .slice NA nn nc, .slice A m c] _ (blk_cells HK.out) Tryz.underlying27 rfl jv_size ?_)
  refine cp.out.mono ?_
  rintro _ w5 ⟨cs5, rfl, hv5, hb5⟩
  have HB5 := Lib.hid (below_next HB1.out hb5)
  clear hb5 cp HK
  cases hg : getJ v q with
  | none =>
    obtain ⟨k2, b2, n2, s2, NA2, nn2, nc2, A2, m2, c2, rfl⟩ := hv5.form
    have ht : Hid (textJ v q = none) := by show _ = _; rw [textJ, hg]
    clear hv5 hg
    go_wp2_with fail
    go_ret2
    exact ⟨by rw [ht.out]; rfl, HB5.out.alloc (HB5.out.size) _⟩
  | some x =>
    rw [hg] at hv5
    obtain ⟨xk, xb, xn, xs, xnames, xkids⟩ := x
    have hv6 : JvV w5 0 (.mk xk xb xn xs xnames xkids) cs5 := hv5
    rw [JvV] at hv6
    obtain ⟨NA2, nc2, A2, c2, vs2, rfl, _⟩ := hv6
    clear hv5
    by_cases h4 : xk = 4
    · have ht : Hid (textJ v q = some xs) := by show _ = _; rw [textJ, hg]; exact if_pos h4
      subst h4
      clear hg
      simp only [cells6, strV]
      go_wp2_with fail
      go_ret2
      exact ⟨by rw [ht.out]; rfl, HB5.out.alloc (HB5.out.size) _⟩
    · have ht : Hid (textJ v q = none) := by show _ = _; rw [textJ, hg]; exact if_neg h4
      have e1 : (xk == 4) = false := by simpa using h4
      have e2 : (xk != 4) = true := by simpa using h4
      clear hg h4
      simp only [cells6, strV]
      go_wp2_with fail
      go_ret2
      exact ⟨by rw [ht.out]; rfl, HB5.out.alloc (HB5.out.size) _⟩
end Go.Proofs.YtokgkifckgnabaaGreatDoor
/- Get and Text of the document, over values in memory. Condition: small values. -/
set_option linter.unusedVariables false
set_option linter.unusedSimpArgs false
set_option maxRecDepth 20000
namespace Go.Proofs.YtokgkifckgnabaaGreatDoor
open Go.RowKit
theorem getJ_none {k : Int} {b : Bool} {n : Int} {s : List UInt8} {names : List (List UInt8)} {kids : List Jv} {q : List UInt8} {i : Nat} (h : ∀ j p, j < i → names[j]? = some p → p ≠ q) (hx : names.length ≤ i ∨ kids.length ≤ i ∨ k ≠ 6) : getJ (.mk k b n s names kids) q = none := by
  by_cases h6 : k = 6
  case neg => exact if_neg h6
  rw [getJ, if_pos (show (Jv.mk k b n s names kids).kind = 6 from h6)]
  show (match names.findIdx? (· == q) with | some i => kids[i]? | none => none) = none
  cases hf : names.findIdx? (· == q) with
  | none => rfl
  | some m =>
    show kids[m]? = none
    rw [List.findIdx?_eq_some_iff_getElem] at hf
    obtain ⟨hlt, hp, _⟩ := hf
    have hmi : i ≤ m := by
      rcases Nat.lt_or_ge m i with h9 | h9
      · exact absurd (by simpa using hp) (h m _ h9 (List.getElem?_eq_getElem hlt))
      · exact h9
    rw [List.getElem?_eq_none]
    rcases hx with hx | hx | hx
    · omega
    · omega
    · exact absurd h6 hx
theorem getJ_some {b : Bool} {n : Int} {s : List UInt8} {names : List (List UInt8)} {kids : List Jv} {q : List UInt8} {i : Nat} {kd : Jv} (h : ∀ j p, j < i → names[j]? = some p → p ≠ q) (hq : names[i]? = some q) (hk : kids[i]? = some kd) : getJ (.mk 6 b n s names kids) q = some kd := by
  rw [getJ, if_pos (show (Jv.mk 6 b n s names kids).kind = 6 from rfl)]
  show (match names.findIdx? (· == q) with | some i => kids[i]? | none => none) = _
  rw [find_some h hq]
  exact hk
end Go.Proofs.YtokgkifckgnabaaGreatDoor

/- countersignref12.Same over values in memory. No condition of its own. -/
import Derived.Test.YtieppmppdmcleaaGreatDoorB2
set_option linter.unusedVariables false
set_option linter.unusedSimpArgs false
set_option maxRecDepth 20000
namespace Go.Proofs.YtieppmppdmcleaaGreatDoor
open Go.RowKit
theorem yieldsIf_load_jv {ops : Array Oper} {S : World → Prop} {op : Oper} {a : Act} (hw : Region.wanted op (yielded ops a.tmps) = true) (x : Operand) (ho : op.op = .load 26 x)
  (ad : Addr) (hx : a.eval x = .pointer (some ad)) (v1 v2 v3 v4 v5 v6 : Value) (hS : ∀ w, S w → ∀ j u, [v1, v2, v3, v4, v5, v6][j]? = some u → w.cell? (ad.add j) = some u) : YieldsIf Tryz.prog ops S op (.agg #[v1, v2, v3, v4, v5, v6]) a :=
 .inl ⟨hw, fun w hw' => by
  unfold execOp
  simp only [ho, hx, Instr.loadAt, Instr.sureAddr, Sem.run_bind, Sem.run_pure, Result.andThen_ok, run_loadVar_at w ad 26 [v1, v2, v3, v4, v5, v6] _ (hS w hw') Tryz.underlying26 rfl jv_size]⟩
theorem reads_near {w : World} {B size n : Nat} {A : Option Addr} {xs : List Value} (h : Reads w B size A n xs) {ad : Addr} (h0 : 0 < n) (e : A = some ad) : ad.block < B := by
 obtain ⟨ad', e', hb, _⟩ := h.2 h0
 rw [e] at e'; injection e' with e'; subst e'; exact hb
theorem name_at {w : World} {B : Nat} {A : Option Addr} {ps : List (List UInt8)} (h : Reads w B 1 A ps.length (strVs ps)) {k : Nat} (hk : k < ps.length) : ∃ ad p, A = some ad ∧ ps[k]? = some p ∧ ad.block < B ∧ w.cell? (ad.add k) = some (.string ⟨p.toArray⟩) := by
 obtain ⟨ad, u, e, had, hu, hcu⟩ := h.at_ hk
 have hpk : ps[k]? = some (ps[k]'hk) := List.getElem?_eq_getElem hk
 refine ⟨ad, ps[k]'hk, e, hpk, had, ?_⟩
 obtain rfl : u = .string ⟨(ps[k]'hk).toArray⟩ := by
  rw [strVs, List.getElem?_map, hpk] at hu
  injection hu with hu
  exact hu.symm
 exact hcu
theorem take_more {α : Type} {ps qs : List α} {k : Nat} {p q : α} (h : ps.take k = qs.take k) (hp : ps[k]? = some p) (hq : qs[k]? = some q) (e : p = q) : ps.take (k + 1) = qs.take (k + 1) := by
 rw [List.take_add_one, List.take_add_one, h, hp, hq, e]
theorem take_no {α : Type} {ps qs : List α} {k : Nat} {p q : α} (hp : ps[k]? = some p) (hq : qs[k]? = some q) (e : p ≠ q) : ps ≠ qs := by
 rintro rfl
 rw [hp] at hq; injection hq with hq; exact e hq
set_option maxHeartbeats 8000000 in
theorem rsame_node (k : Int) (b : Bool) (n : Int) (s : List UInt8) (names : List (List UInt8)) (kids : List Jv) (hok : ∀ x ∈ kids, SameOk 14 x) : SameOk 14 (.mk k b n s names kids) := by
 intro y cs ds w hy1 hy2
 obtain ⟨k', b', n', s', names', kids'⟩ := y
 rw [JvV] at hy1 hy2
 obtain ⟨NA, nc, A, c, vs, rfl, h1, h2, h3, _, h5, _, h7⟩ := hy1
 obtain ⟨NB, nd, B, d, us, rfl, g1, g2, g3, _, g5, _, g7⟩ := hy2
 have hstr := eq_strL s s'
 simp only [cells6, strV]
 generalize hx : (⟨s.toArray⟩ : ByteArray) = x at *
 generalize hy : (⟨s'.toArray⟩ : ByteArray) = y at *
 have HXY := Lib.hid (And.intro hx hy)
 have hb1 := (Below.refl w.heap.size w).alloc (Nat.le_refl _) (.cells #[.int .i64 k, .bool b, .int .i64 n, .string x, .slice NA names.length nc, .slice A kids.length c] 26)
 have hb2 := hb1.alloc hb1.size (.cells #[.int .i64 k', .bool b', .int .i64 n', .string y, .slice NB names'.length nd, .slice B kids'.length d] 26)
 have HB2 := Lib.hid hb2
 have HK1 := Lib.hid ((Blk.new w 26 #[.int .i64 k, .bool b, .int .i64 n, .string x, .slice NA names.length nc, .slice A kids.length c]).alloc (.cells #[.int .i64 k', .bool b', .int .i64 n', .string y, .slice NB names'.length nd, .slice B kids'.length d] 26))
 have hk2 := Blk.new (w.alloc (.cells #[.int .i64 k, .bool b, .int .i64 n, .string x, .slice NA names.length nc, .slice A kids.length c] 26)) 26 #[.int .i64 k', .bool b', .int .i64 n', .string y, .slice NB names'.length nd, .slice B kids'.length d]
 rw [show (w.alloc (.cells #[.int .i64 k, .bool b, .int .i64 n, .string x, .slice NA names.length nc, .slice A kids.length c] 26)).heap.size = w.heap.size + 1 by simp] at hk2
 have HK2 := Lib.hid hk2
 clear hb1 hb2 hk2 hx hy
 rw [sameJ]
 cases h1 : k == k'
 ·
  have hn1 : (k != k') = true := by rw [bne, h1]; rfl
  go_enter Tryz.func14, Tryz.ntmps14
  go_wp2_with fail
  go_ret
  exact ⟨by simp, HB2.out⟩
 obtain rfl : k = k' := by simpa using h1
 clear h1
 cases h2 : b == b'
 ·
  have hn1 : (b != b') = true := by rw [bne, h2]; rfl
  go_enter Tryz.func14, Tryz.ntmps14
  go_wp2_with fail
  go_ret
  exact ⟨by simp, HB2.out⟩
 obtain rfl : b = b' := by simpa using h2
 clear h2
 cases h3 : n == n'
 ·
  have hn1 : (n != n') = true := by rw [bne, h3]; rfl
  go_enter Tryz.func14, Tryz.ntmps14
  go_wp2_with fail
  go_ret
  exact ⟨by simp, HB2.out⟩
 obtain rfl : n = n' := by simpa using h3
 clear h3
 cases h4 : decide (s = s')
 ·
  rw [h4] at hstr
  have hn1 : (x.toList != y.toList) = true := by rw [bne, hstr]; rfl
  go_enter Tryz.func14, Tryz.ntmps14
  go_wp2_with fail
  go_ret
  exact ⟨by simp, HB2.out⟩
 obtain rfl : s = s' := of_decide_eq_true h4
 obtain rfl : x = y := HXY.out.1.symm.trans HXY.out.2
 clear h4 hstr HXY
 by_cases hl1 : names.length = names'.length
 case neg =>
  have hd1 : ((names.length : Int) == (names'.length : Int)) = false := by rw [beq_eq_false_iff_ne]; omega
  have hd2 : ((names.length : Int) != (names'.length : Int)) = true := by rw [bne, hd1]; rfl
  have hv : Hid (decide (names = names') = false) := decide_eq_false fun e => hl1 (by rw [e])
  clear hl1
  go_enter Tryz.func14, Tryz.ntmps14
  go_wp2_with fail
  go_ret
  exact ⟨by rw [hv.out]; simp, HB2.out⟩
 have hd1 : ((names.length : Int) == (names'.length : Int)) = true := by rw [hl1]; simp
 have hd2 : ((names.length : Int) != (names'.length : Int)) = false := by rw [hl1]; simp
 have HL1 := Lib.hid hl1
 clear hl1
 by_cases hl2 : kids.length = kids'.length
 case neg =>
  have he1 : ((kids.length : Int) == (kids'.length : Int)) = false := by rw [beq_eq_false_iff_ne]; omega
  have he2 : ((kids.length : Int) != (kids'.length : Int)) = true := by rw [bne, he1]; rfl
  have hv := Lib.hid (sameJs_len hl2)
  clear hl2
  go_enter Tryz.func14, Tryz.ntmps14
  go_wp2_with fail
  go_ret
  exact ⟨by rw [hv.out]; simp, HB2.out⟩
 have he1 : ((kids.length : Int) == (kids'.length : Int)) = true := by rw [hl2]; simp
 have he2 : ((kids.length : Int) != (kids'.length : Int)) = false := by rw [hl2]; simp
 have HL2 := Lib.hid hl2
 clear hl2
 have H3 := Lib.hid h3
 have G3 := Lib.hid g3
 have H5 := Lib.hid h5
 have G5 := Lib.hid g5
 have H7 := Lib.hid h7
 have G7 := Lib.hid g7
 have HOK := Lib.hid hok
 clear h3 g3 h5 g5 h7 g7 hok
 go_enter Tryz.func14, Tryz.ntmps14
 go_wp2_with fail
 go_loopw [5] (fun iv wr => ∃ i : Nat, i ≤ names.length ∧ iv = .int .i64 i ∧ Hid (names.take i = names'.take i) ∧ Hid (Below w.heap.size w wr) ∧ Hid (Blk wr w.heap.size 26 #[.int .i64 k, .bool b, .int .i64 n, .string x, .slice NA names.length nc, .slice A kids.length c]) ∧ Hid (Blk wr (w.heap.size + 1) 26 #[.int .i64 k, .bool b, .int .i64 n, .string x, .slice NB names'.length nd, .slice B kids'.length d])) (fun iv _ => names.length - (intOf iv).toNat)
 case atStart => exact ⟨0, by omega, rfl, rfl, HB2, HK1, HK2⟩
 case round =>
  clear HB2 HK1 HK2
  obtain ⟨i, hi, rfl, heq, hb, hk1, hk2⟩ := hrel
  have c4 : wr.cell? ⟨w.heap.size, 4, none⟩ = some (.slice NA names.length nc) := hk1.out.cell 4
  have c4' : wr.cell? ⟨w.heap.size + 1, 4, none⟩ = some (.slice NB names'.length nd) := hk2.out.cell 4
  by_cases hlt : i < names.length
  ·
   have hlt2 : i < names'.length := by rw [← HL1.out]; exact hlt
   obtain ⟨ad, p, rfl, hpi, had, hcp⟩ := name_at H3.out hlt
   obtain ⟨bd, q, rfl, hqi, hbd, hcq⟩ := name_at G3.out hlt2
   replace hcp := (hb.out.cell (p := ad.add i) (by rw [block_of_add]; exact had)).trans hcp
   replace hcq := (hb.out.cell (p := bd.add i) (by rw [block_of_add]; exact hbd)).trans hcq
   have hstr := eq_strL p q
   by_cases hpq : p = q
   ·
    have HN := Lib.hid (take_more heq.out hpi hqi hpq)
    subst hpq
    clear hstr hpi hqi
    generalize (⟨p.toArray⟩ : ByteArray) = z at *
    go_wp2_with fail
    go_quiet (fail)
    have HB1 := Lib.hid (dnN hb.out nq)
    go_wp2_with fail
    exact ⟨⟨i + 1, by omega, by go_num, HN, HB1, hk1, hk2⟩, by simp [intOf]; omega⟩
   ·
    have HN := Lib.hid (take_no hpi hqi hpq)
    rw [decide_eq_false hpq] at hstr
    have hv : Hid (decide (names = names') = false) := decide_eq_false HN.out
    clear hpi hqi hpq
    generalize (⟨p.toArray⟩ : ByteArray) = z at *
    generalize (⟨q.toArray⟩ : ByteArray) = z' at *
    have hn1 : (z.toList != z'.toList) = true := by rw [bne, hstr]; rfl
    go_wp2_with fail
    go_quiet (fail)
    have HB1 := Lib.hid (dnN hb.out nq)
    go_wp2_with fail
    go_ret
    exact ⟨by rw [hv.out]; simp, HB1.out⟩
  ·
   obtain rfl : i = names.length := by omega
   have hv : Hid (names = names') := by
    show _ = _
    have := heq.out
    rw [List.take_length, HL1.out, List.take_length] at this
    exact this
   have hvd : Hid (decide (names = names') = true) := decide_eq_true hv.out
   clear heq
   go_wp2_with fail
   clear c4 c4'
   go_loopw [6] (fun iv wq => ∃ i : Nat, i ≤ kids.length ∧ iv = .int .i64 i ∧ Hid (sameJs kids kids' = sameJs (kids.drop i) (kids'.drop i)) ∧ Hid (Below w.heap.size w wq) ∧ Hid (Blk wq w.heap.size 26 #[.int .i64 k, .bool b, .int .i64 n, .string x, .slice NA names.length nc, .slice A kids.length c]) ∧ Hid (Blk wq (w.heap.size + 1) 26 #[.int .i64 k, .bool b, .int .i64 n, .string x, .slice NB names'.length nd, .slice B kids'.length d])) (fun iv _ => kids.length - (intOf iv).toNat)
   case atStart => exact ⟨0, by omega, rfl, rfl, hb, hk1, hk2⟩
   case round =>
    clear hb hk1 hk2
    obtain ⟨i, hi, rfl, heq, hb, hk1, hk2⟩ := hrel
    have c5 : wr.cell? ⟨w.heap.size, 5, none⟩ = some (.slice A kids.length c) := hk1.out.cell 5
    have c5' : wr.cell? ⟨w.heap.size + 1, 5, none⟩ = some (.slice B kids'.length d) := hk2.out.cell 5
    by_cases hlt : i < kids.length
    ·
     have hlt2 : i < kids'.length := by rw [← HL2.out]; exact hlt
     obtain ⟨ka, hak⟩ : ∃ a, kids[i]? = some a := ⟨kids[i], List.getElem?_eq_getElem hlt⟩
     obtain ⟨kb, hbk⟩ : ∃ a, kids'[i]? = some a := ⟨kids'[i], List.getElem?_eq_getElem hlt2⟩
     obtain ⟨ad, v, rfl, hva, hcv⟩ := jkid_at H7.out H5.out hak
     obtain ⟨bd, u, rfl, hvb, hcu⟩ := jkid_at G7.out G5.out hbk
     have hadl := reads_near H5.out (by omega) rfl
     have hbdl := reads_near G5.out (by omega) rfl
     have HD : Hid (sameJs (kids.drop i) (kids'.drop i) = (sameJ ka kb && sameJs (kids.drop (i + 1)) (kids'.drop (i + 1)))) := by
      show _ = _
      obtain ⟨h9, e9⟩ := List.getElem?_eq_some_iff.1 hak
      obtain ⟨h8, e8⟩ := List.getElem?_eq_some_iff.1 hbk
      rw [List.drop_eq_getElem_cons h9, List.drop_eq_getElem_cons h8, e9, e8, sameJs_cons]
     have cp := Lib.hid (fun W (hW : Below w.heap.size w W) => HOK.out ka (List.mem_of_getElem? hak) kb v u W (hva.below hW) (hvb.below hW))
     have hcv2 : ∀ W, Below w.heap.size w W → ∀ j x, v[j]? = some x → W.cell? ((ad.add (i * 6)).add j) = some x := fun W hW j x hx => (hW.cell (by rw [block_of_add, block_of_add]; exact hadl)).trans (hcv j x hx)
     have hcu2 : ∀ W, Below w.heap.size w W → ∀ j x, u[j]? = some x → W.cell? ((bd.add (i * 6)).add j) = some x := fun W hW j x hx => (hW.cell (by rw [block_of_add, block_of_add]; exact hbdl)).trans (hcu j x hx)
     obtain ⟨k1, b1, n1, s1, NA1, nn1, nc1, A1, m1, c1, rfl⟩ := hva.form
     obtain ⟨k2, b2, n2, s2, NA2, nn2, nc2, A2, m2, c2, rfl⟩ := hvb.form
     have HC1 := Lib.hid hcv2
     have HC2 := Lib.hid hcu2
     have HS0 := Lib.hid (And.intro c5 (And.intro c5' (And.intro (hcv2 _ hb.out) (hcu2 _ hb.out))))
     clear hcv hcu hva hvb hak hbk hcv2 hcu2
     go_wp2_with fail
     refine wp_region_held_drew (S := fun W => W.cell? ⟨w.heap.size, 5, none⟩ = some (.slice (some ad) kids.length c) ∧ W.cell? ⟨w.heap.size + 1, 5, none⟩ = some (.slice (some bd) kids'.length d) ∧ (∀ j x, ([.int .i64 k1, .bool b1, .int .i64 n1, .string s1, .slice NA1 nn1 nc1, .slice A1 m1 c1] : List Value)[j]? = some x → W.cell? ((ad.add (i * 6)).add j) = some x) ∧ (∀ j x, ([.int .i64 k2, .bool b2, .int .i64 n2, .string s2, .slice NA2 nn2 nc2, .slice A2 m2 c2] : List Value)[j]? = some x → W.cell? ((bd.add (i * 6)).add j) = some x)) (by kernel_rfl) HS0.out (fun hHeld => ?_)
     refine tkr 0 rfl ?_
     try simp only [nrm, Act.put]
     refine tkr 1 rfl ?_
     try simp only [nrm, Act.put]
     refine tkr 2 rfl ?_
     try simp only [nrm, Act.put]
     refine tkr 3 rfl ?_
     try simp only [nrm, Act.put]
     refine tk 4 rfl (v := _) (yieldsIf_load_jv (by rfl) _ rfl (ad.add (i * 6)) rfl _ _ _ _ _ _ (fun w h => h.2.2.1)) ?_
     try simp only [nrm, Act.put]
     refine tkr 5 rfl ?_
     try simp only [nrm, Act.put]
     refine tkr 6 rfl ?_
     try simp only [nrm, Act.put]
     refine tkr 7 rfl ?_
     try simp only [nrm, Act.put]
     refine tkr 8 rfl ?_
     try simp only [nrm, Act.put]
     refine tk 9 rfl (v := _) (yieldsIf_load_jv (by rfl) _ rfl (bd.add (i * 6)) rfl _ _ _ _ _ _ (fun w h => h.2.2.2)) ?_
     try simp only [nrm, Act.put]
     refine rd1 10 rfl fun K hK => ?_
     go_simp
     go_at_call 14
     with_reducible refine (cp.out _ (hb.out.drew)).mono ?_
     rintro _ w5 ⟨rfl, hb5⟩
     have HB5 := Lib.hid (below_next hb.out.drew hb5)
     have HK1 := Lib.hid (hk1.out.drew.below hb5 hk1.out.lt)
     have HK2 := Lib.hid (hk2.out.drew.below hb5 hk2.out.lt)
     refine hK.out _ _ ⟨HK1.out.cell 5, HK2.out.cell 5, HC1.out _ HB5.out, HC2.out _ HB5.out⟩ (fun hHeld => ?_)
     clear hK K
     try simp only [nrm, Act.put]
     refine tkr 11 rfl ?_
     try simp only [nrm, Act.put]
     refine wpAnyH_done (by kernel_rfl) ?_ _
     clear hHeld HS0 HC1 HC2 cp hb5 hb hk1 hk2
     cases hS : sameJ ka kb
     ·
      have hv : Hid (sameJs kids kids' = false) := by show _ = _; rw [heq.out, HD.out, hS, Bool.false_and]
      clear heq HD hS
      go_wp2_with fail
      go_ret
      exact ⟨by rw [hv.out]; simp, HB5.out⟩
     ·
      have hv : Hid (sameJs kids kids' = sameJs (kids.drop (i + 1)) (kids'.drop (i + 1))) := by show _ = _; rw [heq.out, HD.out, hS, Bool.true_and]
      clear heq HD hS
      go_wp2_with fail
      exact ⟨⟨i + 1, by omega, by go_num, hv, HB5, HK1, HK2⟩, by simp [intOf]; omega⟩
    ·
     obtain rfl : i = kids.length := by omega
     have hv2 : Hid (sameJs kids kids' = true) := by show _ = _; rw [heq.out, List.drop_length, HL2.out, List.drop_length, sameJs]
     go_wp2_with fail
     go_ret
     exact ⟨by rw [hv2.out, hvd.out]; simp, hb.out⟩
mutual
theorem rsame_all : ∀ t : Jv, SameOk 14 t
 | .mk k b n s names kids => rsame_node k b n s names kids (rsame_each kids)
theorem rsame_each : ∀ ks : List Jv, ∀ k ∈ ks, SameOk 14 k
 | [], k, h => by simp at h
 | x :: ks, k, h => by
  have h1 := rsame_all x
  have h2 := rsame_each ks
  rcases List.mem_cons.1 h with e | h
  ·
   rw [e]; exact h1
  ·
   exact h2 k h
end
end Go.Proofs.YtieppmppdmcleaaGreatDoor

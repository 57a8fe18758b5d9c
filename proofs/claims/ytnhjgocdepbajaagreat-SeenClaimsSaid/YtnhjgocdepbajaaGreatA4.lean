/- countersignref12.Same over values in memory. No condition of its own. -/
import Derived.Test.YtnhjgocdepbajaaGreatA3
set_option linter.unusedVariables false
set_option linter.unusedSimpArgs false
set_option maxRecDepth 20000
set_option maxHeartbeats 8000000
namespace Go.Proofs.YtnhjgocdepbajaaGreat
open Go.RowKit
theorem yieldsIf_load_jv {ops : Array Oper} {S : World → Prop} {op : Oper} {a : Act} (hw : Region.wanted op (yielded ops a.tmps) = true) (x : Operand) (ho : op.op = .load 48 x)
  (ad : Addr) (hx : a.eval x = .pointer (some ad)) (v1 v2 v3 v4 v5 v6 : Value) (hS : ∀ w, S w → ∀ j u, [v1, v2, v3, v4, v5, v6][j]? = some u → w.cell? (ad.add j) = some u) : YieldsIf Tryz.prog ops S op (.agg #[v1, v2, v3, v4, v5, v6]) a :=
 .inl ⟨hw, fun w hw' => by
  unfold execOp
  simp only [ho, hx, Instr.loadAt, Instr.sureAddr, Sem.run_bind, Sem.run_pure, Result.andThen_ok, run_loadVar_at w ad 48 [v1, v2, v3, v4, v5, v6] _ (hS w hw') Tryz.underlying48 rfl jv_size]⟩
theorem reads_near {w : World} {B size n : Nat} {A : Option Addr} {xs : List Value} (h : Reads w B size A n xs) {ad : Addr} (h0 : 0 < n) (e : A = some ad) : ad.block < B := by
 obtain ⟨ad', e', hb, _⟩ := h.2 h0
 rw [e] at e'; injection e' with e'; subst e'; exact hb
theorem name_at {w : World} {B : Nat} {A : Option Addr} {ps : List (List UInt8)} (h : Reads w B 1 A ps.length (strVs ps)) {k : Nat} (hk : k < ps.length) : ∃ ad p, A = some ad ∧ ps[k]? = some p ∧ ad.block < B ∧ w.cell? (ad.add k) = some (.string ⟨p.toArray⟩) := by
 obtain ⟨ad, u, e, had, hu, hcu⟩ := h.at_ hk
 have hpk : ps[k]? = some (ps[k]'hk) := List.getElem?_eq_getElem hk
 refine ⟨ad, ps[k]'hk, e, hpk, had, ?_⟩
 obtain rfl : u = .string ⟨(ps[k]'hk).toArray⟩ := by
  rw [strVs, List.getElem?_map, hpk] at hu
  injection hu with hu
  exact hu.symm
 exact hcu
theorem take_more {α : Type} {ps qs : List α} {k : Nat} {p q : α} (h : ps.take k = qs.take k) (hp : ps[k]? = some p) (hq : qs[k]? = some q) (e : p = q) : ps.take (k + 1) = qs.take (k + 1) := by
 rw [List.take_add_one, List.take_add_one, h, hp, hq, e]
theorem take_no {α : Type} {ps qs : List α} {k : Nat} {p q : α} (hp : ps[k]? = some p) (hq : qs[k]? = some q) (e : p ≠ q) : ps ≠ qs := by
 rintro rfl
 rw [hp] at hq; injection hq with hq; exact e hq
theorem rsame_node (k : Int) (b : Bool) (n : Int) (s : List UInt8) (names : List (List UInt8)) (kids : List Jv) (hok : ∀ x ∈ kids, SameOk 12 x) : SameOk 12 (.mk k b n s names kids) := by
 intro y cs ds w hy1 hy2
 obtain ⟨k', b', n', s', names', kids'⟩ := y
 rw [JvV] at hy1 hy2
 obtain ⟨NA, nc, A, c, vs, rfl, h1, h2, h3, _, h5, _, h7⟩ := hy1
 obtain ⟨NB, nd, B, d, us, rfl, g1, g2, g3, _, g5, _, g7⟩ := hy2
 have hstr := eq_strL s s'
 simp only [cells6, strV]
 generalize hx : (⟨s.toArray⟩ : ByteArray) = x at *
 generalize hy : (⟨s'.toArray⟩ : ByteArray) = y at *
 have HXY := Lib.hid (And.intro hx hy)
 have hb1 := (Below.refl w.heap.size w).alloc (Nat.le_refl _) (.cells #[.int .i64 k, .bool b, .int .i64 n, .string x, .slice NA names.length nc, .slice A kids.length c] 48)
 have hb2 := hb1.alloc hb1.size (.cells #[.int .i64 k', .bool b', .int .i64 n', .string y, .slice NB names'.length nd, .slice B kids'.length d] 48)
 have HB2 := Lib.hid hb2
 have HK1 := Lib.hid ((Blk.new w 48 #[.int .i64 k, .bool b, .int .i64 n, .string x, .slice NA names.length nc, .slice A kids.length c]).alloc (.cells #[.int .i64 k', .bool b', .int .i64 n', .string y, .slice NB names'.length nd, .slice B kids'.length d] 48))
 have hk2 := Blk.new (w.alloc (.cells #[.int .i64 k, .bool b, .int .i64 n, .string x, .slice NA names.length nc, .slice A kids.length c] 48)) 48 #[.int .i64 k', .bool b', .int .i64 n', .string y, .slice NB names'.length nd, .slice B kids'.length d]
 rw [show (w.alloc (.cells #[.int .i64 k, .bool b, .int .i64 n, .string x, .slice NA names.length nc, .slice A kids.length c] 48)).heap.size = w.heap.size + 1 by simp] at hk2
 have HK2 := Lib.hid hk2
 clear hb1 hb2 hk2 hx hy
 rw [sameJ]
 cases h1 : k == k'
 ·
  have hn1 : (k != k') = true := by rw [bne, h1]; rfl
  go_enter Tryz.func12, Tryz.ntmps12
  go_wp2_with fail
  go_ret
  exact ⟨by simp, HB2.out⟩
 obtain rfl : k = k' := by simpa using h1
 clear h1
 cases h2 : b == b'
 ·
  have hn1 : (b != b') = true := by rw [bne, h2]; rfl
  go_enter Tryz.func12, Tryz.ntmps12
  go_wp2_with fail
  go_ret
  exact ⟨by simp, HB2.out⟩
 obtain rfl : b = b' := by simpa using h2
 clear h2
 cases h3 : n == n'
 ·
  have hn1 : (n != n') = true := by rw [bne, h3]; rfl
  go_enter Tryz.func12, Tryz.ntmps12
  go_wp2_with fail
  go_ret
  exact ⟨by simp, HB2.out⟩
 obtain rfl : n = n' := by simpa using h3
 clear h3
 cases h4 : decide (s = s')
 ·
  rw [h4] at hstr
  have hn1 : (x.toList != y.toList) = true := by rw [bne, hstr]; rfl
  go_enter Tryz.func12, Tryz.ntmps12
  go_wp2_with fail
  go_ret
  exact ⟨by simp, HB2.out⟩
 obtain rfl : s = s' := of_decide_eq_true h4
 obtain rfl : x = y := HXY.out.1.symm.trans HXY.out.2
 clear h4 hstr HXY
 by_cases hl1 : names.length = names'.length
 case neg =>
  have hd1 : ((names.length : Int) == (names'.length : Int)) = false := by rw [beq_eq_false_iff_ne]; omega
  have hd2 : ((names.length : Int) != (names'.length : Int)) = true := by rw [bne, hd1]; rfl
  have hv : Hid (decide (names = names') = false) := decide_eq_false fun e => hl1 (by rw [e])
  clear hl1
  go_enter Tryz.func12, Tryz.ntmps12
  go_wp2_with fail
  go_ret
  exact ⟨by rw [hv.out]; simp, HB2.out⟩
 have hd1 : ((names.length : Int) == (names'.length : Int)) = true := by rw [hl1]; simp
 have hd2 : ((names.length : Int) != (names'.length : Int)) = false := by rw [hl1]; simp
 have HL1 := Lib.hid hl1
 clear hl1
 by_cases hl2 : kids.length = kids'.length
 case neg =>
  have he1 : ((kids.length : Int) == (kids'.length : Int)) = false := by rw [beq_eq_false_iff_ne]; omega
  have he2 : ((kids.length : Int) != (kids'.length : Int)) = true := by rw [bne, he1]; rfl
  have hv := Lib.hid (sameJs_len hl2)
  clear hl2
  go_enter Tryz.func12, Tryz.ntmps12
  go_wp2_with fail
  go_ret
  exact ⟨by rw [hv.out]; simp, HB2.out⟩
 have he1 : ((kids.length : Int) == (kids'.length : Int)) = true := by rw [hl2]; simp
 have he2 : ((kids.length : Int) != (kids'.length : Int)) = false := by rw [hl2]; simp
 have HL2 := Lib.hid hl2
 clear hl2
 have H3 := Lib.hid h3
 have G3 := Lib.hid g3
 have H5 := Lib.hid h5
 have G5 := Lib.hid g5
 have H7 := Lib.hid h7
 have G7 := Lib.hid g7
 have HOK := Lib.hid hok
 clear h3 g3 h5 g5 h7 g7 hok
 go_enter Tryz.func12, Tryz.ntmps12
 go_wp2_with fail
 go_loopw [5] (fun iv wr => ∃ i : Nat, i ≤ names.length ∧ iv = .int .i64 i ∧ Hid (names.take i = names'.take i) ∧ Hid (Below w.heap.size w wr) ∧ Hid (Blk wr w.heap.size 48 #[.int .i64 k, .bool b, .int .i64 n, .string x, .slice NA names.length nc, .slice A kids.length c]) ∧ Hid (Blk wr (w.heap.size + 1) 48 #[.int .i64 k, .bool b, .int .i64 n, .string x, .slice NB names'.length nd, .slice B kids'.length d])) (fun iv _ => names.length - (intOf iv).toNat)
 case atStart => exact ⟨0, by omega, rfl, rfl, HB2, HK1, HK2⟩
 case round =>
  clear HB2 HK1 HK2
  obtain ⟨i, hi, rfl, heq, hb, hk1, hk2⟩ := hrel
  have c4 : wr.cell? ⟨w.heap.size, 4, none⟩ = some (.slice NA names.length nc) := hk1.out.cell 4
  have c4' : wr.cell? ⟨w.heap.size + 1, 4, none⟩ = some (.slice NB names'.length nd) := hk2.out.cell 4
  by_cases hlt : i < names.length
  ·
   have hlt2 : i < names'.length := by rw [← HL1.out]; exact hlt
   obtain ⟨ad, p, rfl, hpi, had, hcp⟩ := name_at H3.out hlt
   obtain ⟨bd, q, rfl, hqi, hbd, hcq⟩ := name_at G3.out hlt2
   replace hcp := (hb.out.cell (p := ad.add i) (by rw [block_of_add]; exact had)).trans hcp
   replace hcq := (hb.out.cell (p := bd.add i) (by rw [block_of_add]; exact hbd)).trans hcq
   have hstr := eq_strL p q
   by_cases hpq : p = q
   ·
    have HN := Lib.hid (take_more heq.out hpi hqi hpq)
    subst hpq
    clear hstr hpi hqi
    generalize (⟨p.toArray⟩ : ByteArray) = z at *
    go_wp2_with fail
    go_quiet (fail)
    have HB1 := Lib.hid (dnN hb.out nq)
    go_wp2_with fail
    exact ⟨⟨i + 1, by omega, by go_num, HN, HB1, hk1, hk2⟩, by simp [intOf]; omega⟩
   ·
    have HN := Lib.hid (take_no hpi hqi hpq)
    rw [decide_eq_false hpq] at hstr
    have hv : Hid (decide (names = names') = false) := decide_eq_false HN.out
    clear hpi hqi hpq
    generalize (⟨p.toArray⟩ : ByteArray) = z at *
    generalize (⟨q.toArray⟩ : ByteArray) = z' at *
    have hn1 : (z.toList != z'.toList) = true := by rw [bne, hstr]; rfl
    go_wp2_with fail
    go_quiet (fail)
    have HB1 := Lib.hid (dnN hb.out nq)
    go_wp2_with fail
    go_ret
    exact ⟨by rw [hv.out]; simp, HB1.out⟩
  ·
   obtain rfl : i = names.length := by omega
   have hv : Hid (names = names') := by
    show _ = _
    have := heq.out
    rw [List.take_length, HL1.out, List.take_length] at this
    exact this
   have hvd : Hid (decide (names = names') = true) := decide_eq_true hv.out
   clear heq
   go_wp2_with fail
   clear c4 c4'
   go_loopw [6] (fun iv wq => ∃ i : Nat, i ≤ kids.length ∧ iv = .int .i64 i ∧ Hid (sameJs kids kids' = sameJs (kids.drop i) (kids'.drop i)) ∧ Hid (Below w.heap.size w wq) ∧ Hid (Blk wq w.heap.size 48 #[.int .i64 k, .bool b, .int .i64 n, .string x, .slice NA names.length nc, .slice A kids.length c]) ∧ Hid (Blk wq (w.heap.size + 1) 48 #[.int .i64 k, .bool b, .int .i64 n, .string x, .slice NB names'.length nd, .slice B kids'.length d])) (fun iv _ => kids.length - (intOf iv).toNat)
   case atStart => exact ⟨0, by omega, rfl, rfl, hb, hk1, hk2⟩
   case round =>
    clear hb hk1 hk2
    obtain ⟨i, hi, rfl, heq, hb, hk1, hk2⟩ := hrel
    have c5 : wr.cell? ⟨w.heap.size, 5, none⟩ = some (.slice A kids.length c) := hk1.out.cell 5
    have c5' : wr.cell? ⟨w.heap.size + 1, 5, none⟩ = some (.slice B kids'.length d) := hk2.out.cell 5
    by_cases hlt : i < kids.length
    ·
     have hlt2 : i < kids'.length := by rw [← HL2.out]; exact hlt
     obtain ⟨ka, hak⟩ : ∃ a, kids[i]? = some a := ⟨kids[i], List.getElem?_eq_getElem hlt⟩
     obtain ⟨kb, hbk⟩ : ∃ a, kids'[i]? = some a := ⟨kids'[i], List.getElem?_eq_getElem hlt2⟩
     obtain ⟨ad, v, rfl, hva, hcv⟩ := jkid_at H7.out H5.out hak
     obtain ⟨bd, u, rfl, hvb, hcu⟩ := jkid_at G7.out G5.out hbk
     have hadl := reads_near H5.out (by omega) rfl
     have hbdl := reads_near G5.out (by omega) rfl
     have HD : Hid (sameJs (kids.drop i) (kids'.drop i) = (sameJ ka kb && sameJs (kids.drop (i + 1)) (kids'.drop (i + 1)))) := by
      show _ = _
      obtain ⟨h9, e9⟩ := List.getElem?_eq_some_iff.1 hak
      obtain ⟨h8, e8⟩ := List.getElem?_eq_some_iff.1 hbk
      rw [List.drop_eq_getElem_cons h9, List.drop_eq_getElem_cons h8, e9, e8, sameJs_cons]
     have cp := Lib.hid (fun W (hW : Below w.heap.size w W) => HOK.out ka (List.mem_of_getElem? hak) kb v u W (hva.below hW) (hvb.below hW))
     have hcv2 : ∀ W, Below w.heap.size w W → ∀ j x, v[j]? = some x → W.cell? ((ad.add (i * 6)).add j) = some x := fun W hW j x hx => (hW.cell (by rw [block_of_add, block_of_add]; exact hadl)).trans (hcv j x hx)
     have hcu2 : ∀ W, Below w.heap.size w W → ∀ j x, u[j]? = some x → W.cell? ((bd.add (i * 6)).add j) = some x := fun W hW j x hx => (hW.cell (by rw [block_of_add, block_of_add]; exact hbdl)).trans (hcu j x hx)
     obtain ⟨k1, b1, n1, s1, NA1, nn1, nc1, A1, m1, c1, rfl⟩ := hva.form
     obtain ⟨k2, b2, n2, s2, NA2, nn2, nc2, A2, m2, c2, rfl⟩ := hvb.form
     have HC1 := Lib.hid hcv2
     have HC2 := Lib.hid hcu2
     have HS0 := Lib.hid (And.intro c5 (And.intro c5' (And.intro (hcv2 _ hb.out) (hcu2 _ hb.out))))
     clear hcv hcu hva hvb hak hbk hcv2 hcu2
     go_wp2_with fail
     refine wp_region_held_drew (S := fun W => W.cell? ⟨w.heap.size, 5, none⟩ = some (.slice (some ad) kids.length c) ∧ W.cell? ⟨w.heap.size + 1, 5, none⟩ = some (.slice (some bd) kids'.length d) ∧ (∀ j x, ([.int .i64 k1, .bool b1, .int .i64 n1, .string s1, .slice NA1 nn1 nc1, .slice A1 m1 c1] : List Value)[j]? = some x → W.cell? ((ad.add (i * 6)).add j) = some x) ∧ (∀ j x, ([.int .i64 k2, .bool b2, .int .i64 n2, .string s2, .slice NA2 nn2 nc2, .slice A2 m2 c2] : List Value)[j]? = some x → W.cell? ((bd.add (i * 6)).add j) = some x)) (by kernel_rfl) HS0.out (fun hHeld => ?_)
     refine tkr 0 rfl ?_
     try simp only [nrm, Act.put]
     refine tkr 1 rfl ?_
     try simp only [nrm, Act.put]
     refine tkr 2 rfl ?_
     try simp only [nrm, Act.put]
     refine tkr 3 rfl ?_
     try simp only [nrm, Act.put]
     refine tk 4 rfl (v := _) (yieldsIf_load_jv (by rfl) _ rfl (ad.add (i * 6)) rfl _ _ _ _ _ _ (fun w h => h.2.2.1)) ?_
     try simp only [nrm, Act.put]
     refine tkr 5 rfl ?_
     try simp only [nrm, Act.put]
     refine tkr 6 rfl ?_
     try simp only [nrm, Act.put]
     refine tkr 7 rfl ?_
     try simp only [nrm, Act.put]
     refine tkr 8 rfl ?_
     try simp only [nrm, Act.put]
     refine tk 9 rfl (v := _) (yieldsIf_load_jv (by rfl) _ rfl (bd.add (i * 6)) rfl _ _ _ _ _ _ (fun w h => h.2.2.2)) ?_
     try simp only [nrm, Act.put]
     refine rd1 10 rfl fun K hK => ?_
     go_simp
     go_at_call 12
     with_reducible refine (cp.out _ (hb.out.drew)).mono ?_
     rintro _ w5 ⟨rfl, hb5⟩
     have HB5 := Lib.hid (below_next hb.out.drew hb5)
     have HK1 := Lib.hid (hk1.out.drew.below hb5 hk1.out.lt)
     have HK2 := Lib.hid (hk2.out.drew.below hb5 hk2.out.lt)
     refine hK.out _ _ ⟨HK1.out.cell 5, HK2.out.cell 5, HC1.out _ HB5.out, HC2.out _ HB5.out⟩ (fun hHeld => ?_)
     clear hK K
     try simp only [nrm, Act.put]
     refine tkr 11 rfl ?_
     try simp only [nrm, Act.put]
     refine wpAnyH_done (by kernel_rfl) ?_ _
     clear hHeld HS0 HC1 HC2 cp hb5 hb hk1 hk2
     cases hS : sameJ ka kb
     ·
      have hv : Hid (sameJs kids kids' = false) := by show _ = _; rw [heq.out, HD.out, hS, Bool.false_and]
      clear heq HD hS
      go_wp2_with fail
      go_ret
      exact ⟨by rw [hv.out]; simp, HB5.out⟩
     ·
      have hv : Hid (sameJs kids kids' = sameJs (kids.drop (i + 1)) (kids'.drop (i + 1))) := by show _ = _; rw [heq.out, HD.out, hS, Bool.true_and]
      clear heq HD hS
      go_wp2_with fail
      exact ⟨⟨i + 1, by omega, by go_num, hv, HB5, HK1, HK2⟩, by simp [intOf]; omega⟩
    ·
     obtain rfl : i = kids.length := by omega
     have hv2 : Hid (sameJs kids kids' = true) := by show _ = _; rw [heq.out, List.drop_length, HL2.out, List.drop_length, sameJs]
     go_wp2_with fail
     go_ret
     exact ⟨by rw [hv2.out, hvd.out]; simp, hb.out⟩
mutual
theorem rsame_all : ∀ t : Jv, SameOk 12 t
 | .mk k b n s names kids => rsame_node k b n s names kids (rsame_each kids)
theorem rsame_each : ∀ ks : List Jv, ∀ k ∈ ks, SameOk 12 k
 | [], k, h => by simp at h
 | x :: ks, k, h => by
  have h1 := rsame_all x
  have h2 := rsame_each ks
  rcases List.mem_cons.1 h with e | h
  ·
   rw [e]; exact h1
  ·
   exact h2 k h
end
end Go.Proofs.YtnhjgocdepbajaaGreat
/- own.Texts and own.Value: copies in memory of their own. Condition: small values. -/
set_option linter.unusedVariables false
set_option linter.unusedSimpArgs false
set_option maxRecDepth 20000
namespace Go.Proofs.YtnhjgocdepbajaaGreat
open Go.RowKit
mutual
def smJ : Jv → Prop
 | .mk k _ n s names kids => (-9223372036854775808 ≤ k ∧ k ≤ 9223372036854775807) ∧ (-9223372036854775808 ≤ n ∧ n ≤ 9223372036854775807) ∧ s.length ≤ 100000 ∧ names.length ≤ 100000 ∧ (∀ p ∈ names, p.length ≤ 100000) ∧ kids.length ≤ 100000 ∧ smJs kids
def smJs : List Jv → Prop
 | [] => True
 | k :: ks => smJ k ∧ smJs ks
end
theorem smJs_all : ∀ {ks : List Jv}, smJs ks → ∀ k ∈ ks, smJ k
 | [], _, k, h => by simp at h
 | x :: ks, h, k, hk => by
  rw [smJs] at h
  rcases List.mem_cons.1 hk with e | hk
  ·
   rw [e]; exact h.1
  ·
   exact smJs_all h.2 k hk
def RowOf (w : World) (g : Nat) (t : TypeId) (N : Nat) (xs : List Value) : Prop := ∃ cur : Array Value, Blk w g t cur ∧ cur.size = N ∧ ∀ (j : Nat) (u : Value), xs[j]? = some u → cur[j]? = some u
theorem RowOf.lt {w : World} {g N : Nat} {t : TypeId} {xs : List Value} (h : RowOf w g t N xs) : g < w.heap.size := by obtain ⟨cur, h, _⟩ := h; exact h.lt
theorem RowOf.below {w w' : World} {g N B : Nat} {t : TypeId} {xs : List Value} (h : RowOf w g t N xs) (hb : Below B w w') (hg : g < B) : RowOf w' g t N xs := by
 obtain ⟨cur, h1, h2⟩ := h
 exact ⟨cur, h1.below hb hg, h2⟩
theorem RowOf.grown {w w' : World} {g N : Nat} {t : TypeId} {xs : List Value} {row : Option Nat} (h : RowOf w g t N xs) (hb : w.grownBy w' row) (hg : some g ≠ row) : RowOf w' g t N xs := by
 obtain ⟨cur, h1, h2⟩ := h
 exact ⟨cur, h1.grown hb hg, h2⟩
theorem blk_cells {w : World} {g : Nat} {t : TypeId} {cs : List Value} (h : Blk w g t cs.toArray) : ∀ j u, cs[j]? = some u → w.cell? ((⟨g, 0, none⟩ : Addr).add j) = some u := by
 intro j u hu
 rw [add_zero_at, h.cell]
 simpa using hu
theorem strVs_ones (ps : List (List UInt8)) : ∀ u ∈ strVs ps, u.oneCell' = true := by
 intro u hu
 obtain ⟨p, _, rfl⟩ := List.mem_map.1 hu
 rfl
theorem jv_ones (kind : Int) (b : Bool) (n : Int) (s : ByteArray) (NA : Option Addr) (nn nc : Nat) (A : Option Addr) (m c : Nat) : (#[Value.int .i64 kind, .bool b, .int .i64 n, .string s, .slice NA nn nc, .slice A m c]).all (·.oneCell') = true := by simp [Value.oneCell']
def TextsR (ps : List (List UInt8)) (w : World) (e : Ending) (w' : World) : Prop :=
 ∃ g : Nat, e = .returned (.slice (some ⟨g, 0, none⟩) ps.length ps.length) ∧ w.heap.size ≤ g ∧ Blk w' g 9 (strVs ps).toArray ∧ Below w.heap.size w w'
theorem list_walk (ps : List (List UInt8)) (A : Option Addr) (c S : Nat) (w : World) (hr : Reads w S 1 A ps.length (strVs ps)) (hn : ps.length ≤ 100000) (hS : S ≤ w.heap.size) :
  Calls Tryz.prog 105 #[.slice A ps.length c] w (TextsR ps w) := by
 obtain ⟨i0, hi, hz0, hz1, hz2⟩ := infoS4 info_string
 have hbr := Blk.new w 9 (madeCells #[.string ⟨#[]⟩] ps.length)
 have hbl := (Below.refl w.heap.size w).alloc (Nat.le_refl _) (.cells (madeCells #[.string ⟨#[]⟩] ps.length) 9)
 have HR := Lib.hid (hr.alloc hS (.cells (madeCells #[.string ⟨#[]⟩] ps.length) 9))
 have hsl : (strVs ps).length = ps.length := by simp [strVs]
 have hml := size_madeCells #[.string ⟨#[]⟩] ps.length
 rw [fillS_made] at hbr hbl HR hml
 have HBR : Hid ((w.alloc (.cells (fillS [] ps.length).toArray 9)).heap[w.heap.size]? = some (.cells (fillS [] ps.length).toArray 9 (0, 0))) := hbr
 have HBL := Lib.hid hbl
 have HSL := Lib.hid hsl
 have HML := Lib.hid hml
 have HP : Hid (0 < (strVs ps).length → (some (⟨w.heap.size, 0, none⟩ : Addr) = some ⟨w.heap.size, 0, none⟩) ∧ ∃ ad, A = some ad ∧ ∀ j v, (strVs ps)[j]? = some v → (w.alloc (.cells (fillS [] ps.length).toArray 9)).cell? (ad.add j) = some v) := fun h0 => ⟨rfl, by rw [HSL.out] at h0; obtain ⟨ad, e, _, hc⟩ := HR.out.2 h0; exact ⟨ad, e, hc⟩⟩
 clear hbr hbl hr hsl hml
 go_enter Tryz.func105, Tryz.ntmps105
 go_wp2_with (first
  | (refine wpList_make_row w rfl _ _ 45 rfl 9 i0 (.string ⟨#[]⟩) Tryz.underlying45 hi hz0 hz1 rfl .i64 .i64 ps.length rfl rfl (by rw [hz2]; omega) (by omega) ?_; rw [fillS_made])
  | ((with_reducible refine wpList_copy_splice rfl (.tmp 7) (.tmp 8) 45 45 rfl 9 Tryz.underlying45 (by kernel_rfl) _ _ _ _ _ _ rfl rfl w.heap.size 0 (fillS [] ps.length) 9 HBR.out (strVs ps) (by rw [HSL.out]; exact (Nat.min_self _).symm) HP.out (by rw [HSL.out, fillS_len (by simp)]; simp) (strVs_ones ps) w.heap.size w HBL.out (Nat.le_refl _) ?_); intro w2 hh2 hb2; go_frame))
 go_ret
 refine ⟨w.heap.size, rfl, Nat.le_refl _, ?_, hb2⟩
 have h := hh2.out
 have e : splice (fillS [] ps.length) 0 (strVs ps) = strVs ps := by
  simp [splice]
  rw [fillS_len (by simp), ← HSL.out]
  exact Nat.le_refl _
 rw [e] at h
 exact h
theorem texts_walk (ps : List (List UInt8)) (A : Option Addr) (c S : Nat) (w : World) (hr : Reads w S 1 A ps.length (strVs ps)) (hn : ps.length ≤ 100000) (hS : S ≤ w.heap.size) :
  Calls Tryz.prog 77 #[.slice A ps.length c] w (TextsR ps w) := by
 have cp := Lib.hid (list_walk ps A c S w hr hn hS)
 clear hr
 go_enter Tryz.func77, Tryz.ntmps77
 go_wp2_with fail
 refine cp.out.mono ?_
 rintro _ w1 ⟨g, rfl, h1, h2, h3⟩
 have H2 := Lib.hid h2
 clear h2
 go_wp2_with fail
 go_ret
 exact ⟨g, rfl, h1, H2.out, h3⟩
end Go.Proofs.YtnhjgocdepbajaaGreat
/- Get and Text of both, over values in memory. Condition: small values. -/
set_option linter.unusedVariables false
set_option linter.unusedSimpArgs false
set_option maxRecDepth 20000
namespace Go.Proofs.YtnhjgocdepbajaaGreat
open Go.RowKit
theorem find_some {q : List UInt8} {ps : List (List UInt8)} {k : Nat} (h : ∀ j p, j < k → ps[j]? = some p → p ≠ q) (hk : ps[k]? = some q) : ps.findIdx? (· == q) = some k := by
 obtain ⟨hlt, e⟩ := List.getElem?_eq_some_iff.1 hk
 rw [List.findIdx?_eq_some_iff_getElem]
 refine ⟨hlt, by rw [e]; simp, fun j hj => ?_⟩
 have := h j _ hj (List.getElem?_eq_getElem (by omega))
 simpa using this
def getJ (v : Jv) (q : List UInt8) : Option Jv := if v.kind = 6 then (match v.names.findIdx? (· == q) with | some i => v.kids[i]? | none => none) else none
def GetR (r : Option Jv) (w : World) (e : Ending) (w' : World) : Prop := ∃ cs, e = .returned (.tuple #[.agg cs.toArray, .bool r.isSome]) ∧ JvV w' 0 (r.getD jvZ) cs ∧ Below w.heap.size w w'
theorem results_j_t {fn : Func} {p u : Tmp} (h : fn.results = #[.cell p 48, .tmp u]) (tmps : Array Value) (w : World) (g : Nat) (c0 c1 c2 c3 c4 c5 : Value)
  (hp : tmps.getD p undef = .pointer (some ⟨g, 0, none⟩)) (hb : Blk w g 48 #[c0, c1, c2, c3, c4, c5]) : (results fn tmps).run Tryz.prog w = .ok (.tuple #[.agg #[c0, c1, c2, c3, c4, c5], tmps.getD u undef]) w := by
 have hp' : tmps[p]?.getD undef = .pointer (some ⟨g, 0, none⟩) := by simpa using hp
 simp [results, h, hp', asAddr, run_loadVar_row w g 48 48 #[c0, c1, c2, c3, c4, c5] (0, 0) _ hb Tryz.underlying48 rfl jv_size]
theorem getR_none {w w' : World} {e : Ending} (he : e = .returned (.tuple #[.agg #[.int .i64 0, .bool false, .int .i64 0, .string ⟨#[]⟩, .slice none 0 0, .slice none 0 0], .bool false])) (hb : Below w.heap.size w w') : GetR none w e w' :=
 ⟨[.int .i64 0, .bool false, .int .i64 0, .string ⟨#[]⟩, .slice none 0 0, .slice none 0 0], he, jv_leaf w' 0 0 false 0 [], hb⟩
def textJ (v : Jv) (q : List UInt8) : Option (List UInt8) := match getJ v q with
 | some x => if x.kind = 4 then some x.str else none
 | none => none
def TextR (r : Option (List UInt8)) (w : World) (e : Ending) (w' : World) : Prop := e = .returned (.tuple #[strV (r.getD []), .bool r.isSome]) ∧ Below w.heap.size w w'
end Go.Proofs.YtnhjgocdepbajaaGreat
/- Get and Text of the document, over values in memory. Condition: small values. -/
set_option linter.unusedVariables false
set_option linter.unusedSimpArgs false
set_option maxRecDepth 20000
namespace Go.Proofs.YtnhjgocdepbajaaGreat
open Go.RowKit
theorem getJ_none {k : Int} {b : Bool} {n : Int} {s : List UInt8} {names : List (List UInt8)} {kids : List Jv} {q : List UInt8} {i : Nat} (h : ∀ j p, j < i → names[j]? = some p → p ≠ q) (hx : names.length ≤ i ∨ kids.length ≤ i ∨ k ≠ 6) : getJ (.mk k b n s names kids) q = none := by
 by_cases h6 : k = 6
 case neg => exact if_neg h6
 rw [getJ, if_pos (show (Jv.mk k b n s names kids).kind = 6 from h6)]
 show (match names.findIdx? (· == q) with | some i => kids[i]? | none => none) = none
 cases hf : names.findIdx? (· == q) with
 | none => rfl
 | some m =>
  show kids[m]? = none
  rw [List.findIdx?_eq_some_iff_getElem] at hf
  obtain ⟨hlt, hp, _⟩ := hf
  have hmi : i ≤ m := by
   rcases Nat.lt_or_ge m i with h9 | h9
   ·
    exact absurd (by simpa using hp) (h m _ h9 (List.getElem?_eq_getElem hlt))
   ·
    exact h9
  rw [List.getElem?_eq_none]
  rcases hx with hx | hx | hx
  ·
   omega
  ·
   omega
  ·
   exact absurd h6 hx
theorem getJ_some {b : Bool} {n : Int} {s : List UInt8} {names : List (List UInt8)} {kids : List Jv} {q : List UInt8} {i : Nat} {kd : Jv} (h : ∀ j p, j < i → names[j]? = some p → p ≠ q) (hq : names[i]? = some q) (hk : kids[i]? = some kd) : getJ (.mk 6 b n s names kids) q = some kd := by
 rw [getJ, if_pos (show (Jv.mk 6 b n s names kids).kind = 6 from rfl)]
 show (match names.findIdx? (· == q) with | some i => kids[i]? | none => none) = _
 rw [find_some h hq]
 exact hk
theorem rget_walk (v : Jv) (cs : List Value) (q : List UInt8) (w : World) (hsm : smJ v) (hv : JvV w 0 v cs) :
  Calls Tryz.prog 28 #[.agg cs.toArray, .string ⟨q.toArray⟩] w (GetR (getJ v q) w) := by
 obtain ⟨k, b, n, s, names, kids⟩ := v
 rw [smJ] at hsm
 obtain ⟨_, _, _, hs4, _, hs6, hs7⟩ := hsm
 rw [JvV] at hv
 obtain ⟨NA, nc, A, c, vs, rfl, h1, h2, h3, _, h5, _, h7⟩ := hv
 simp only [cells6, strV]
 generalize hx : (⟨s.toArray⟩ : ByteArray) = y at *
 clear hx
 have hw1 : (w.alloc (.cells #[.int .i64 k, .bool b, .int .i64 n, .string y, .slice NA names.length nc, .slice A kids.length c] 48)).heap.size = w.heap.size + 1 := by simp
 have hb1 := (Below.refl w.heap.size w).alloc (Nat.le_refl _) (.cells #[.int .i64 k, .bool b, .int .i64 n, .string y, .slice NA names.length nc, .slice A kids.length c] 48)
 have hb2 := hb1.alloc hb1.size (.cells #[.int .i64 0, .bool false, .int .i64 0, .string ⟨#[]⟩, .slice none 0 0, .slice none 0 0] 48)
 have hk1 := (Blk.new w 48 #[.int .i64 k, .bool b, .int .i64 n, .string y, .slice NA names.length nc, .slice A kids.length c]).alloc (.cells #[.int .i64 0, .bool false, .int .i64 0, .string ⟨#[]⟩, .slice none 0 0, .slice none 0 0] 48)
 have hk2 := Blk.new (w.alloc (.cells #[.int .i64 k, .bool b, .int .i64 n, .string y, .slice NA names.length nc, .slice A kids.length c] 48)) 48 #[.int .i64 0, .bool false, .int .i64 0, .string ⟨#[]⟩, .slice none 0 0, .slice none 0 0]
 rw [hw1] at hk2
 go_enter Tryz.func28, Tryz.ntmps28
 go_wp2_with fail
 generalize (w.alloc (.cells #[.int .i64 k, .bool b, .int .i64 n, .string y, .slice NA names.length nc, .slice A kids.length c] 48)).alloc (.cells #[.int .i64 0, .bool false, .int .i64 0, .string ⟨#[]⟩, .slice none 0 0, .slice none 0 0] 48) = w2 at *
 have HB2 := Lib.hid hb2
 have HK2 := Lib.hid hk2
 have c0 : w2.cell? ⟨w.heap.size, 0, none⟩ = some (.int .i64 k) := hk1.cell 0
 have c4 : w2.cell? ⟨w.heap.size, 4, none⟩ = some (.slice NA names.length nc) := hk1.cell 4
 have c5 : w2.cell? ⟨w.heap.size, 5, none⟩ = some (.slice A kids.length c) := hk1.cell 5
 clear hb1 hk1 hk2 hw1 hb2
 go_loopw [6] (fun iv wr => ∃ i : Nat, i ≤ names.length ∧ iv = .int .i64 i ∧ Hid (∀ j p, j < i → names[j]? = some p → p ≠ q) ∧ w2 = wr) (fun iv _ => names.length - (intOf iv).toNat)
 case atStart => exact ⟨0, by omega, rfl, fun j p hj => by omega, rfl⟩
 case round =>
  obtain ⟨i, hi, rfl, hno, rfl⟩ := hrel
  by_cases hlt : i < names.length
  case neg =>
   have hg := Lib.hid (getJ_none (k := k) (b := b) (n := n) (s := s) (kids := kids) hno.out (Or.inl (by omega)))
   have d1 : decide ((i : Int) < (names.length : Int)) = false := by simp; omega
   have d2 : decide (i < names.length) = false := by simp; omega
   go_wp2_with (refine wpList_store_blk rfl 48 _ _ rfl (w.heap.size + 1) _ #[.int .i64 0, .bool false, .int .i64 0, .string ⟨#[]⟩, .slice none 0 0, .slice none 0 0] 48 rfl rfl HK2.out rfl jv_size (jv_ones _ _ _ _ _ _ _ _ _ _) ?_)
   refine bodyPost_ret (results_j_t Tryz.results28 _ _ (w.heap.size + 1) _ _ _ _ _ _ rfl HK2.out.setRow) rfl ?_
   rw [hg.out]
   exact getR_none rfl (below_setRow HB2.out (by omega) _)
  have d1 : decide ((i : Int) < (names.length : Int)) = true := by simp; omega
  have d2 : decide (i < names.length) = true := by simp; omega
  by_cases hlt2 : i < kids.length
  case neg =>
   have hg := Lib.hid (getJ_none (k := k) (b := b) (n := n) (s := s) (kids := kids) hno.out (Or.inr (Or.inl (by omega))))
   have e1 : decide ((i : Int) < (kids.length : Int)) = false := by simp; omega
   have e2 : decide (i < kids.length) = false := by simp; omega
   go_wp2_with (refine wpList_store_blk rfl 48 _ _ rfl (w.heap.size + 1) _ #[.int .i64 0, .bool false, .int .i64 0, .string ⟨#[]⟩, .slice none 0 0, .slice none 0 0] 48 rfl rfl HK2.out rfl jv_size (jv_ones _ _ _ _ _ _ _ _ _ _) ?_)
   refine bodyPost_ret (results_j_t Tryz.results28 _ _ (w.heap.size + 1) _ _ _ _ _ _ rfl HK2.out.setRow) rfl ?_
   rw [hg.out]
   exact getR_none rfl (below_setRow HB2.out (by omega) _)
  have e1 : decide ((i : Int) < (kids.length : Int)) = true := by simp; omega
  have e2 : decide (i < kids.length) = true := by simp; omega
  by_cases h6 : k = 6
  case neg =>
   have hg := Lib.hid (getJ_none (k := k) (b := b) (n := n) (s := s) (kids := kids) hno.out (Or.inr (Or.inr h6)))
   have f1 : (k == 6) = false := by simpa using h6
   have f2 : (k != 6) = true := by simpa using h6
   clear h6
   go_wp2_with (refine wpList_store_blk rfl 48 _ _ rfl (w.heap.size + 1) _ #[.int .i64 0, .bool false, .int .i64 0, .string ⟨#[]⟩, .slice none 0 0, .slice none 0 0] 48 rfl rfl HK2.out rfl jv_size (jv_ones _ _ _ _ _ _ _ _ _ _) ?_)
   refine bodyPost_ret (results_j_t Tryz.results28 _ _ (w.heap.size + 1) _ _ _ _ _ _ rfl HK2.out.setRow) rfl ?_
   rw [hg.out]
   exact getR_none rfl (below_setRow HB2.out (by omega) _)
  subst h6
  obtain ⟨ad, p, rfl, hpk, had, hcu⟩ := name_at h3 hlt
  replace hcu := (HB2.out.cell (p := ad.add i) (by rw [block_of_add]; exact had)).trans hcu
  have hcmp := eq_strL p q
  by_cases he : p = q
  ·
   subst he
   obtain ⟨kd, hkd⟩ : ∃ a, kids[i]? = some a := ⟨kids[i], List.getElem?_eq_getElem hlt2⟩
   obtain ⟨bd, v, rfl, hva, hcv⟩ := jkid_at h7 h5 hkd
   have hbdl := reads_near h5 (by omega) rfl
   have hg := Lib.hid (getJ_some (b := b) (n := n) (s := s) hno.out hpk hkd)
   have hcv2 : ∀ j x, v[j]? = some x → w2.cell? ((bd.add (i * 6)).add j) = some x := fun j x hx => (HB2.out.cell (by rw [block_of_add, block_of_add]; exact hbdl)).trans (hcv j x hx)
   have HV := Lib.hid (hva.below (below_setRow HB2.out (Nat.le_succ _) v.toArray))
   obtain ⟨k1, b1, n1, s1, NA1, nn1, nc1, A1, m1, c1, rfl⟩ := hva.form
   have HC1 := Lib.hid hcv2
   clear hcv hcv2 hva hkd hcmp hpk
   generalize (⟨p.toArray⟩ : ByteArray) = x at *
   go_wp2_with (first
    | (refine wpList_load_at rfl 48 _ rfl (bd.add (i * 6)) rfl [.int .i64 k1, .bool b1, .int .i64 n1, .string s1, .slice NA1 nn1 nc1, .slice A1 m1 c1] _ HC1.out Tryz.underlying48 rfl jv_size ?_)
    | (refine wpList_store_blk rfl 48 _ _ rfl (w.heap.size + 1) _ _ 48 rfl rfl HK2.out rfl jv_size (jv_ones _ _ _ _ _ _ _ _ _ _) ?_))
   refine bodyPost_ret (results_j_t Tryz.results28 _ _ (w.heap.size + 1) _ _ _ _ _ _ rfl HK2.out.setRow) rfl ?_
   rw [hg.out]
   exact ⟨_, rfl, HV.out, below_setRow HB2.out (by omega) _⟩
  ·
   have HN : Hid (∀ j p, j < i + 1 → names[j]? = some p → p ≠ q) := fun j p' hj hp' => by
    rcases Nat.lt_succ_iff_lt_or_eq.1 hj with h | rfl
    ·
     exact hno.out j p' h hp'
    ·
     rw [hpk] at hp'; injection hp' with hp'; subst hp'; exact he
   rw [decide_eq_false he] at hcmp
   clear hpk he
   generalize (⟨q.toArray⟩ : ByteArray) = x at *
   generalize (⟨p.toArray⟩ : ByteArray) = z at *
   go_wp2_with fail
   exact ⟨⟨i + 1, by omega, by go_num, HN, trivial⟩, by simp [intOf]; omega⟩
theorem rtext_walk (v : Jv) (cs : List Value) (q : List UInt8) (w : World) (hsm : smJ v) (hv : JvV w 0 v cs) :
  Calls Tryz.prog 29 #[.agg cs.toArray, .string ⟨q.toArray⟩] w (TextR (textJ v q) w) := by
 obtain ⟨k, b, n, s, NA, nn, nc, A, m, c, rfl⟩ := hv.form
 have hb1 := (Below.refl w.heap.size w).alloc (Nat.le_refl _) (.cells #[.int .i64 k, .bool b, .int .i64 n, .string s, .slice NA nn nc, .slice A m c] 48)
 have HB1 := Lib.hid hb1
 have cp := Lib.hid (rget_walk v _ q _ hsm (hv.below hb1))
 have hk := Blk.new w 48 #[.int .i64 k, .bool b, .int .i64 n, .string s, .slice NA nn nc, .slice A m c]
 have HK := Lib.hid hk
 clear hk hb1
 go_enter Tryz.func29, Tryz.ntmps29
 go_wp2_with (refine wpList_load_at rfl 48 _ rfl ⟨w.heap.size, 0, none⟩ rfl [.int .i64 k, .bool b, .int .i64 n, .string s, .slice NA nn nc, .slice A m c] _ (blk_cells HK.out) Tryz.underlying48 rfl jv_size ?_)
 refine cp.out.mono ?_
 rintro _ w5 ⟨cs5, rfl, hv5, hb5⟩
 have HB5 := Lib.hid (below_next HB1.out hb5)
 clear hb5 cp HK
 cases hg : getJ v q with
 | none =>
  obtain ⟨k2, b2, n2, s2, NA2, nn2, nc2, A2, m2, c2, rfl⟩ := hv5.form
  have ht : Hid (textJ v q = none) := by show _ = _; rw [textJ, hg]
  clear hv5 hg
  go_wp2_with fail
  go_ret2
  exact ⟨by rw [ht.out]; rfl, HB5.out.alloc (HB5.out.size) _⟩
 | some x =>
  rw [hg] at hv5
  obtain ⟨xk, xb, xn, xs, xnames, xkids⟩ := x
  have hv6 : JvV w5 0 (.mk xk xb xn xs xnames xkids) cs5 := hv5
  rw [JvV] at hv6
  obtain ⟨NA2, nc2, A2, c2, vs2, rfl, _⟩ := hv6
  clear hv5
  by_cases h4 : xk = 4
  ·
   have ht : Hid (textJ v q = some xs) := by show _ = _; rw [textJ, hg]; exact if_pos h4
   subst h4
   clear hg
   simp only [cells6, strV]
   go_wp2_with fail
   go_ret2
   exact ⟨by rw [ht.out]; rfl, HB5.out.alloc (HB5.out.size) _⟩
  ·
   have ht : Hid (textJ v q = none) := by show _ = _; rw [textJ, hg]; exact if_neg h4
   have e1 : (xk == 4) = false := by simpa using h4
   have e2 : (xk != 4) = true := by simpa using h4
   clear hg h4
   simp only [cells6, strV]
   go_wp2_with fail
   go_ret2
   exact ⟨by rw [ht.out]; rfl, HB5.out.alloc (HB5.out.size) _⟩
end Go.Proofs.YtnhjgocdepbajaaGreat

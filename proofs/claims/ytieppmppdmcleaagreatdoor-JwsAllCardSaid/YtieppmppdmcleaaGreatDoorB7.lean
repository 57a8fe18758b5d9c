/- jws.token's parted, claimed, signed; jws.Verify. Condition: a text of at most 6000 bytes; the laid variables. -/
import Derived.Test.YtieppmppdmcleaaGreatDoorZb
set_option linter.unusedVariables false
set_option linter.unusedSimpArgs false
set_option maxRecDepth 20000
set_option maxHeartbeats 8000000
namespace Go.Proofs.YtieppmppdmcleaaGreatDoor
open Go.RowKit Go.Maps
theorem join46 (A : Option Addr) (c B : Nat) (p q r : List UInt8) (w : World) (hr : Reads w B 1 A 3 (strVs [p, q, r])) (hc : 3 ≤ c) (hB : B ≤ w.heap.size) (hl : p.length + q.length + r.length ≤ 100000000) :
  Calls Tryz.prog 51 #[.slice A 3 c, .string ⟨#[46]⟩] w fun e w' => e = .returned (.string ⟨(p ++ [46] ++ q ++ [46] ++ r).toArray⟩) ∧ Below w.heap.size w w' := by
 obtain ⟨b1, o1, rfl, hb1, hc1⟩ := reads_spot hr (by omega)
 have hj : Lib.join [p, q, r] [46] = p ++ [46] ++ q ++ [46] ++ r := by simp [Lib.join, List.intercalate]
 have h := Tryz.strings_Join b1 o1 c [⟨p.toArray⟩, ⟨q.toArray⟩, ⟨r.toArray⟩] ⟨#[46]⟩ w (fun j x hx => hc1 j _ (by
  match j, hx with
  | 0, hx => simp at hx; subst hx; rfl
  | 1, hx => simp at hx; subst hx; rfl
  | 2, hx => simp at hx; subst hx; rfl)) (by omega) (by simp) (by simpa using hc) (by
   show (Lib.join [p, q, r] [46]).length ≤ _
   rw [hj]; simp only [List.length_append, List.length_cons, List.length_nil]; omega)
 rw [← hj]
 exact h
theorem as_err (v : Value) (W : World) : (Instr.typeAssert (.iface 67 v) 70 67 true).run Tryz.prog W = .ok (.tuple #[v, .bool true]) W := by kernel_rfl
theorem as_nil (W : World) : (Instr.typeAssert .nilIface 70 67 true).run Tryz.prog W = .ok (.tuple #[.int .i64 0, .bool false]) W := by kernel_rfl
structure Tok (key : Int) (ps : List (List UInt8)) (gp g : Nat) (x0 x1 x2 x3 x4 x5 : Value) (W : World) : Prop where
 row : Blk W gp 9 (strVs ps).toArray
 blk : Blk W g 63 #[.int .i64 key, .slice (some ⟨gp, 0, none⟩) ps.length ps.length, x0, x1, x2, x3, x4, x5]
 ne : gp ≠ g
section
variable {key : Int} {ps : List (List UInt8)} {gp g : Nat} {x0 x1 x2 x3 x4 x5 : Value} {W W' : World}
theorem Tok.below (h : Tok key ps gp g x0 x1 x2 x3 x4 x5 W) (hb : Below W.heap.size W W') : Tok key ps gp g x0 x1 x2 x3 x4 x5 W' := ⟨h.row.below hb h.row.lt, h.blk.below hb h.blk.lt, h.ne⟩
theorem Tok.facts (h : Tok key ps gp g x0 x1 x2 x3 x4 x5 W) : W.cell? ⟨g, 0, none⟩ = some (.int .i64 key) ∧ W.cell? ⟨g, 1, none⟩ = some (.slice (some ⟨gp, 0, none⟩) ps.length ps.length) := ⟨h.blk.cell 0, h.blk.cell 1⟩
theorem Tok.reads (h : Tok key ps gp g x0 x1 x2 x3 x4 x5 W) : Reads W W.heap.size 1 (some ⟨gp, 0, none⟩) ps.length (strVs ps) := by
 refine ⟨by simp [strVs], fun _ => ⟨_, rfl, h.row.lt, fun j u hu => ?_⟩⟩
 have := h.row.cell j
 rw [show ((⟨gp, 0, none⟩ : Addr).add j) = ⟨gp, j, none⟩ by unfold Addr.add; split <;> simp_all, this]
 simpa using hu
theorem Tok.claims (h : Tok key ps gp g x0 x1 x2 x3 x4 x5 W) : ∀ j u, ([x0, x1, x2, x3, x4, x5] : List Value)[j]? = some u → W.cell? ((⟨g, 2, none⟩ : Addr).add j) = some u := fun j u hu => by
 have := h.blk.cell (2 + j)
 rw [show ((⟨g, 2, none⟩ : Addr).add j) = ⟨g, 2 + j, none⟩ by unfold Addr.add; split <;> simp_all, this]
 match j, hu with
 | 0, hu => exact hu
 | 1, hu => exact hu
 | 2, hu => exact hu
 | 3, hu => exact hu
 | 4, hu => exact hu
 | 5, hu => exact hu
 | j + 6, hu => simp at hu
end
theorem wpList_store_tok {ops : Array Oper} {rest : List Oper} {op : Oper} {a : Act} {w : World} {Q : Exit → Act → World → Prop} (hgd : op.guard = none) (x y : Operand) (ho : op.op = .store 26 x y)
  (g : Nat) (a0 a1 x0 x1 x2 x3 x4 x5 : Value) (k : Int) (b : Bool) (n : Int) (s : ByteArray) (NA : Option Addr) (nn nc : Nat) (A : Option Addr) (m c : Nat)
  (hx : a.eval x = .pointer (some ⟨g, 2, none⟩)) (hy : a.eval y = .agg #[.int .i64 k, .bool b, .int .i64 n, .string s, .slice NA nn nc, .slice A m c]) (hb : Blk w g 63 #[a0, a1, x0, x1, x2, x3, x4, x5])
  (h : wpList Tryz.prog ops Q rest (a.put op.dst undef) (w.setRow g #[a0, a1, .int .i64 k, .bool b, .int .i64 n, .string s, .slice NA nn nc, .slice A m c])) : wpList Tryz.prog ops Q (op :: rest) a w := by
 refine wpList_store_mid hgd 26 x y ho g 2 #[.int .i64 k, .bool b, .int .i64 n, .string s, .slice NA nn nc, .slice A m c] hx hy (fun j hj => ?_) jv_size (jv_ones _ _ _ _ _ _ _ _ _ _) ?_
 ·
  rw [hb.cell]
  simp at hj
  exact ⟨by rw [Array.getElem?_eq_getElem (by simp; omega)]; rfl, hb.frozen _⟩
 ·
  rw [setCells_row g 63 _ 2 _ _ hb]
  exact h
theorem grown_below2_set {a b c : World} {g : Nat} (h : Below a.heap.size a b) (k : Below b.heap.size b c) (cells : Array Value) : a.grownBy (c.setRow g cells) (some g) :=
 grown_then (only_of_below (below_next h k) (some g)) (setRow_only c g cells) (fun q e => .inl (by injection e with e; exact e.symm))
theorem parted_walk (key : Int) (ps : List (List UInt8)) (gp g : Nat) (x0 x1 x2 x3 x4 x5 : Value) (w : World) (h : Tok key ps gp g x0 x1 x2 x3 x4 x5 w) (hm : ps.length ≤ 1000000) :
  Calls Tryz.prog 31 #[.pointer (some ⟨g, 0, none⟩)] w fun e w' => e = .returned (if ps.length = 3 then .nilIface else .iface 67 (.int .i64 3)) ∧ w = w' := by
 obtain ⟨c0, c1⟩ := h.facts
 clear h
 by_cases h3 : ps.length = 3
 ·
  have e1 : ((ps.length : Int) != 3) = false := by simp; omega
  have e2 : ((ps.length : Int) == 3) = true := by simp; omega
  rw [if_pos h3]
  clear h3
  go_enter Tryz.func31, Tryz.ntmps31
  go_wp2_with fail
  go_ret
  exact ⟨rfl, rfl⟩
 ·
  have e1 : ((ps.length : Int) != 3) = true := by simp; omega
  have e2 : ((ps.length : Int) == 3) = false := by simp; omega
  rw [if_neg h3]
  clear h3
  go_enter Tryz.func31, Tryz.ntmps31
  go_wp2_with fail
  go_ret
  exact ⟨rfl, rfl⟩
theorem parse_er15 (s : ByteArray) (l : List UInt8) (er : Nat) (v : Jv) (hs : s.data.toList = l) (hp : parseL l = (er, v)) (hm : s.size ≤ 1000000) (w : World) (hL : LaidB w w.heap.size) : Calls Tryz.prog 50 #[.string s] w fun e w' => ∃ cs, e = .returned (.tuple #[.agg cs.toArray, .int .i64 (er : Int)]) ∧ JvV w' w.heap.size v cs ∧ Below w.heap.size w w' := by
 refine (parse_walk s l hs hm w hL).mono ?_
 rintro e w' ⟨cs, he, hv, hb⟩
 rw [hp] at he hv
 exact ⟨cs, he, hv, hb⟩
def ClaimedR (key : Int) (ps : List (List UInt8)) (gp g : Nat) (b : List UInt8) (w : World) (e : Ending) (w' : World) : Prop :=
 w.grownBy w' (some g) ∧ ((∃ (er : Int), (match K9.B64.dec b with | none => True | some x => (parseL x).1 ≠ 0) ∧ e = .returned (.iface 67 (.int .i64 er))) ∨
  (∃ x y0 y1 y2 y3 y4 y5, K9.B64.dec b = some x ∧ (parseL x).1 = 0 ∧ e = .returned .nilIface ∧ Tok key ps gp g y0 y1 y2 y3 y4 y5 w' ∧ JvV w' w.heap.size (parseL x).2 [y0, y1, y2, y3, y4, y5]))
theorem claimed_walk (key : Int) (a b c : List UInt8) (gp g : Nat) (x0 x1 x2 x3 x4 x5 : Value) (w : World) (h : Tok key [a, b, c] gp g x0 x1 x2 x3 x4 x5 w) (hm : b.length ≤ 100000) (hL : LaidB w w.heap.size) :
  Calls Tryz.prog 32 #[.pointer (some ⟨g, 0, none⟩)] w (ClaimedR key [a, b, c] gp g b w) := by
 obtain ⟨c0, c1⟩ := h.facts
 have cp : w.cell? ⟨gp, 1, none⟩ = some (strV b) := h.row.cell 1
 rw [strV] at cp
 obtain ⟨zb, hzb, hzbl⟩ := mk_name b (n := 100000) hm
 have hzd : zb.data.toList = b := by rw [← hzb]
 rw [hzb] at cp
 have cd := Lib.hid (K9.dec_walk zb b hzd w (by omega))
 have H := Lib.hid h
 have HL := Lib.hid hL
 clear h hL hzb hzd
 simp only [List.length_cons, List.length_nil] at c1
 go_enter Tryz.func32, Tryz.ntmps32
 go_wp2_with fail
 refine cd.out.mono ?_
 rintro _ w1 ⟨hb, hc⟩
 have HB1 := Lib.hid hb
 rcases hc with ⟨x, vv, hx, rfl, hown⟩ | ⟨hn, rfl⟩
 case inr =>
  have HN := Lib.hid hn
  clear hn hb cd c0 c1 cp
  go_wp2_with fail
  go_ret
  refine ⟨below_row HB1.out (some g), .inl ⟨3, ?_, rfl⟩⟩
  rw [HN.out]
  trivial
 have HX := Lib.hid hx
 have H1 := Lib.hid (H.out.below hb)
 have HL1 := Lib.hid ((HL.out.below hb).up)
 have hxl : x.length ≤ 200000 := by
  have h1 := K9.B64.enc_dec b.length b x (Nat.le_refl _) hx
  have h2 := K9.B64.enc_length x
  rw [h1] at h2
  omega
 obtain ⟨A, cc, rfl, hcc, hrd⟩ := own_reads hown (Nat.le_refl _)
 have hcs := str_string (c := cc) hrd
 obtain ⟨zx, hzx, hzxl⟩ := mk_name x (n := 200000) hxl
 have hzd : zx.data.toList = x := by rw [← hzx]
 rw [hzx] at hcs
 obtain ⟨er, v, hpz⟩ : ∃ er z, parseL x = (er, z) := ⟨_, _, rfl⟩
 have HP := Lib.hid hpz
 have cpa := Lib.hid (parse_er15 zx x er v hzd hpz (by omega) w1 HL1.out)
 obtain ⟨c0, c1⟩ := H1.out.facts
 have hgl := H1.out.blk.lt
 clear hx hb hown hrd hzx hzd hpz cd cp
 go_wp2_with fail
 refine cpa.out.mono ?_
 rintro _ w2 ⟨cs, rfl, hv, hb⟩
 obtain ⟨k2, b2, n2, s2, N2, nn2, nc2, A2, m2, c2, rfl⟩ := hv.form
 have HB2 := Lib.hid hb
 have H2 := Lib.hid (H1.out.below hb)
 have HV := Lib.hid hv
 clear hb hv cpa
 obtain ⟨c0, c1⟩ := H2.out.facts
 have hgl2 : g < w2.heap.size := H2.out.blk.lt
 by_cases her : er = 0
 case neg =>
  have e1 : ((er : Int) == 0) = false := by simp; omega
  have e2 : ((er : Int) != 0) = true := by simp; omega
  have HE := Lib.hid her
  clear her
  go_wp2_with (refine wpList_store_tok rfl _ _ rfl g _ _ _ _ _ _ _ _ k2 b2 n2 s2 N2 nn2 nc2 A2 m2 c2 rfl rfl H2.out.blk ?_)
  go_ret
  refine ⟨?_, .inl ⟨er, ?_, rfl⟩⟩
  ·
   exact grown_below2_set HB1.out HB2.out _
  ·
   rw [HX.out]; show (parseL x).1 ≠ 0; rw [HP.out]; exact HE.out
 subst her
 go_wp2_with (refine wpList_store_tok rfl _ _ rfl g _ _ _ _ _ _ _ _ k2 b2 n2 s2 N2 nn2 nc2 A2 m2 c2 rfl rfl H2.out.blk ?_)
 go_ret
 refine ⟨grown_below2_set HB1.out HB2.out _, .inr ⟨x, .int .i64 k2, .bool b2, .int .i64 n2, .string s2, .slice N2 nn2 nc2, .slice A2 m2 c2, HX.out, by rw [HP.out], rfl, ⟨?_, ?_, H2.out.ne⟩, ?_⟩⟩
 ·
  exact H2.out.row.setOther H2.out.ne _
 ·
  exact H2.out.blk.setRow
 ·
  rw [HP.out]
  have hsz := HB1.out.size
  exact (HV.out.grown (setRow_only w2 g _) (fun q e => by injection e with e; omega)).low hsz
def SignedR (key : Int) (v : Jv) (a b c : List UInt8) (w : World) (e : Ending) (w' : World) : Prop := e = .returned (if signL key v = a ++ [46] ++ b ++ [46] ++ c ∧ signL key v ≠ [] then .nilIface else .iface 67 (.int .i64 20)) ∧ Below w.heap.size w w'
theorem signed_walk (key : Int) (a b c : List UInt8) (v : Jv) (gp g : Nat) (x0 x1 x2 x3 x4 x5 : Value) (w : World) (h : Tok key [a, b, c] gp g x0 x1 x2 x3 x4 x5 w) (hv : JvV w 0 v [x0, x1, x2, x3, x4, x5]) (hm : a.length + b.length + c.length ≤ 100000) (hsm : smJ v) (hsz : szJ v ≤ 10000) (hT : Tab w) :
  Calls Tryz.prog 33 #[.pointer (some ⟨g, 0, none⟩)] w (SignedR key v a b c w) := by
 have cs := Lib.hid (fun W (hb : Below w.heap.size w W) => sign_walk key v [x0, x1, x2, x3, x4, x5] W hsm hsz (hT.below hb) (hv.below hb))
 have H := Lib.hid h
 clear h hv hsm hT
 go_enter Tryz.func33, Tryz.ntmps33
 go_wp2_with fail
 have HB1 := Lib.hid (Below.refl w.heap.size w).drew
 have hSA : ∀ W, Below w.heap.size w W → W.cell? ⟨g, 0, none⟩ = some (.int .i64 key) ∧ (∀ j t, ([x0, x1, x2, x3, x4, x5] : List Value)[j]? = some t → W.cell? ((⟨g, 2, none⟩ : Addr).add j) = some t) := fun W hb => ⟨(H.out.below hb).facts.1, (H.out.below hb).claims⟩
 have HSA := Lib.hid hSA
 clear hSA
 have hS0 := HSA.out w.drew HB1.out
 refine wp_region_held_drew (S := fun W => W.cell? ⟨g, 0, none⟩ = some (.int .i64 key) ∧ (∀ j t, ([x0, x1, x2, x3, x4, x5] : List Value)[j]? = some t → W.cell? ((⟨g, 2, none⟩ : Addr).add j) = some t)) (by kernel_rfl) hS0 (fun hHeld => ?_)
 clear hS0
 refine tkr 0 rfl ?_
 try simp only [nrm, Act.put]
 refine tkr 1 rfl ?_
 try simp only [nrm, Act.put]
 refine tkr 2 rfl ?_
 try simp only [nrm, Act.put]
 refine tkr 3 rfl ?_
 try simp only [nrm, Act.put]
 refine tkr 4 rfl ?_
 try simp only [nrm, Act.put]
 refine tkr 5 rfl ?_
 try simp only [nrm, Act.put]
 refine tkr 6 rfl ?_
 try simp only [nrm, Act.put]
 refine tk 7 rfl (v := _) (yieldsIf_load_jv (by rfl) _ rfl ⟨g, 2, none⟩ rfl _ _ _ _ _ _ (fun w h => h.2)) ?_
 try simp only [nrm, Act.put]
 refine rd1 8 rfl fun K hK => ?_
 go_simp
 refine (cs.out w.drew HB1.out).mono ?_
 rintro _ W2 ⟨rfl, hb⟩
 have HB2 := Lib.hid (below_next HB1.out hb)
 clear hb HB1
 go_simp
 refine hK.out _ _ (HSA.out _ HB2.out) (fun hHeld2 => ?_)
 clear hK K hHeld
 have hHeld := hHeld2
 clear hHeld2
 try simp only [nrm, Act.put]
 refine tkr 9 rfl ?_
 try simp only [nrm, Act.put]
 refine wpAnyH_done (by kernel_rfl) ?_ _
 clear hHeld cs
 have HT2 := Lib.hid (H.out.below HB2.out)
 obtain ⟨d0, d1⟩ := HT2.out.facts
 have hrd := HT2.out.reads
 obtain ⟨sl, hsl⟩ : ∃ sl, signL key v = sl := ⟨_, rfl⟩
 have HSL := Lib.hid hsl
 rw [hsl]
 by_cases h0 : sl = []
 ·
  have hp : Hid ((if signL key v = a ++ [46] ++ b ++ [46] ++ c ∧ signL key v ≠ [] then Value.nilIface else .iface 67 (.int .i64 20)) = .iface 67 (.int .i64 20)) := if_neg (fun h => h.2 (by rw [HSL.out, h0]))
  subst h0
  go_wp2_with fail
  go_ret
  exact ⟨by rw [hp.out]; rfl, HB2.out⟩
 have cj := Lib.hid (join46 (some ⟨gp, 0, none⟩) 3 W2.heap.size a b c W2 hrd (Nat.le_refl _) (Nat.le_refl _) (by omega))
 have e0 : ((⟨sl.toArray⟩ : ByteArray).toList == []) = false := by rw [ByteArray.toList_eq]; simpa using h0
 obtain ⟨l, hll⟩ : ∃ l, a ++ [46] ++ b ++ [46] ++ c = l := ⟨_, rfl⟩
 have HLL := Lib.hid hll
 rw [hll] at cj
 obtain ⟨zs, hzs⟩ : ∃ z : ByteArray, (⟨sl.toArray⟩ : ByteArray) = z := ⟨_, rfl⟩
 obtain ⟨zl, hzl⟩ : ∃ z : ByteArray, (⟨l.toArray⟩ : ByteArray) = z := ⟨_, rfl⟩
 have hzsl : zs.toList = sl := by rw [← hzs, ByteArray.toList_eq]
 have hzll : zl.toList = l := by rw [← hzl, ByteArray.toList_eq]
 rw [hzs] at e0 ⊢
 rw [hzl] at cj
 simp only [List.length_cons, List.length_nil] at d1
 clear hrd hsl hll hzs hzl
 by_cases he : sl = l
 ·
  have e1 : (zs.toList == zl.toList) = true := by rw [hzsl, hzll, he]; simp
  have e2 : (zs.toList != zl.toList) = false := by rw [hzsl, hzll, he]; simp
  have hp : Hid ((if signL key v = a ++ [46] ++ b ++ [46] ++ c ∧ signL key v ≠ [] then Value.nilIface else .iface 67 (.int .i64 20)) = .nilIface) := if_pos ⟨by rw [HSL.out, HLL.out, he], by rw [HSL.out]; exact h0⟩
  clear hzsl hzll he h0
  go_wp2_with fail
  refine cj.out.mono ?_
  rintro _ W3 ⟨rfl, hb⟩
  have HB3 := Lib.hid (below_next HB2.out hb)
  clear hb
  go_wp2_with fail
  go_ret
  exact ⟨by rw [hp.out]; rfl, HB3.out⟩
 ·
  have e1 : (zs.toList == zl.toList) = false := by rw [hzsl, hzll]; simpa using he
  have e2 : (zs.toList != zl.toList) = true := by rw [hzsl, hzll]; simpa using he
  have hp : Hid ((if signL key v = a ++ [46] ++ b ++ [46] ++ c ∧ signL key v ≠ [] then Value.nilIface else .iface 67 (.int .i64 20)) = .iface 67 (.int .i64 20)) := if_neg (fun h => he (by rw [← HSL.out, h.1, HLL.out]))
  clear hzsl hzll he h0
  go_wp2_with fail
  refine cj.out.mono ?_
  rintro _ W3 ⟨rfl, hb⟩
  have HB3 := Lib.hid (below_next HB2.out hb)
  clear hb
  go_wp2_with fail
  go_ret
  exact ⟨by rw [hp.out]; rfl, HB3.out⟩
end Go.Proofs.YtieppmppdmcleaaGreatDoor
/- jws.Verify. Condition: a text of at most 6000 bytes; the laid variables. -/
namespace Go.Proofs.YtieppmppdmcleaaGreatDoor
open Go.RowKit Go.Maps
def VerR (key : Int) (l : List UInt8) (w : World) (e : Ending) (w' : World) : Prop :=
 ∃ cs : List Value, e = .returned (.tuple #[.agg cs.toArray, .bool (verO key l).isSome]) ∧ JvV w' w.heap.size ((verO key l).getD jvZ) cs ∧ Below w.heap.size w w'
def glueC (c : UInt8) : List (List UInt8) → List UInt8
 | [] => []
 | [p] => p
 | p :: q :: r => p ++ c :: glueC c (q :: r)
theorem glue_split (c : UInt8) : ∀ l, glueC c (splitC c l) = l
 | [] => rfl
 | x :: l => by
  have ih := glue_split c l
  have hne := splitC_ne c l
  rw [splitC]
  cases hs : splitC c l with
  | nil => exact absurd hs hne
  | cons p ps =>
   rw [hs] at ih
   split
   ·
    rename_i hx
    rw [glueC, ih, hx]; rfl
   ·
    simp only
    cases ps with
    | nil => rw [glueC] at ih ⊢; rw [ih]
    | cons q r => rw [glueC] at ih ⊢; rw [← ih]; rfl
theorem split_three {l a b c : List UInt8} (h : splitC 46 l = [a, b, c]) : a ++ [46] ++ b ++ [46] ++ c = l := by
 have := glue_split 46 l
 rw [h] at this
 rw [← this]
 simp [glueC]
theorem ver_no0 {key : Int} {l : List UInt8} (h : (splitC 46 l).length ≠ 3) : verO key l = none := by
 unfold verO
 split
 ·
  rename_i e; rw [e] at h; exact absurd rfl h
 ·
  rfl
theorem ver_no1 {key : Int} {l a b c : List UInt8} (h : splitC 46 l = [a, b, c]) (hb : match K9.B64.dec b with | none => True | some x => (parseL x).1 ≠ 0) : verO key l = none := by
 unfold verO
 rw [h]
 simp only
 cases hd : K9.B64.dec b with
 | none => rfl
 | some x => rw [hd] at hb; simp only; rw [if_neg (fun e => hb e.1)]
theorem ver_yes {key : Int} {l a b c x : List UInt8} (h : splitC 46 l = [a, b, c]) (hb : K9.B64.dec b = some x) (h0 : (parseL x).1 = 0) : verO key l = if signL key (parseL x).2 = l ∧ signL key (parseL x).2 ≠ [] then some (parseL x).2 else none := by
 unfold verO
 rw [h]
 simp only
 rw [hb]
 simp only
 by_cases hs : signL key (parseL x).2 = l ∧ l ≠ []
 ·
  rw [if_pos ⟨h0, hs.1, hs.2⟩, if_pos ⟨hs.1, by rw [hs.1]; exact hs.2⟩]
 ·
  rw [if_neg (fun e => hs e.2), if_neg (fun e => hs ⟨e.1, by rw [← e.1]; exact e.2⟩)]
structure VerS (key : Int) (l : List UInt8) (w : World) (gp g gf : Nat) (x0 x1 x2 x3 x4 x5 : Value) (W : World) : Prop where
 below : Below w.heap.size w W
 res : Blk W w.heap.size 26 #[.int .i64 0, .bool false, .int .i64 0, .string ⟨#[]⟩, .slice none 0 0, .slice none 0 0]
 tok : Tok key (splitC 46 l) gp g x0 x1 x2 x3 x4 x5 W
 fns : Blk W gf 64 #[.func (.func 31) #[] #[], .func (.func 32) #[] #[], .func (.func 33) #[] #[]]
 laid : LaidB W w.heap.size
 lo : w.heap.size < gp ∧ w.heap.size < g ∧ g ≠ gf
theorem VerS.next {key : Int} {l : List UInt8} {w : World} {gp g gf : Nat} {x0 x1 x2 x3 x4 x5 : Value} {W W' : World} (h : VerS key l w gp g gf x0 x1 x2 x3 x4 x5 W) (hb : Below W.heap.size W W') : VerS key l w gp g gf x0 x1 x2 x3 x4 x5 W' :=
 ⟨below_next h.below hb, h.res.below hb h.res.lt, h.tok.below hb, h.fns.below hb h.fns.lt, h.laid.below hb, h.lo⟩
def VerI (key : Int) (l : List UInt8) (w : World) (i : Nat) (x0 x1 x2 x3 x4 x5 : Value) (W : World) : Prop := match i with
 | 0 => True
 | 1 => (splitC 46 l).length = 3
 | 2 => ∃ a b c x, splitC 46 l = [a, b, c] ∧ K9.B64.dec b = some x ∧ (parseL x).1 = 0 ∧ JvV W (w.heap.size + 1) (parseL x).2 [x0, x1, x2, x3, x4, x5]
 | _ => ∃ v, verO key l = some v ∧ JvV W (w.heap.size + 1) v [x0, x1, x2, x3, x4, x5]
theorem list_three {α : Type} {l : List α} (h : l.length = 3) : ∃ a b c, l = [a, b, c] := by
 match l, h with
 | [a, b, c], _ => exact ⟨a, b, c, rfl⟩
theorem split_lens {l a b c : List UInt8} (h : splitC 46 l = [a, b, c]) : a.length + b.length + c.length ≤ l.length := by
 have := congrArg List.length (split_three h)
 simp only [List.length_append, List.length_cons, List.length_nil] at this
 omega
theorem dec_len {b x : List UInt8} (h : K9.B64.dec b = some x) : x.length ≤ b.length := by
 have h1 := K9.B64.enc_dec b.length b x (Nat.le_refl _) h
 have h2 := K9.B64.enc_length x
 rw [h1] at h2
 omega
theorem ver_fail {key : Int} {l : List UInt8} {w W : World} {gp g gf : Nat} {x0 x1 x2 x3 x4 x5 : Value} (h : VerS key l w gp g gf x0 x1 x2 x3 x4 x5 W) (hn : verO key l = none) :
  VerR key l w (.returned (.tuple #[.agg #[.int .i64 0, .bool false, .int .i64 0, .string ⟨#[]⟩, .slice none 0 0, .slice none 0 0], .bool false])) (W.setRow w.heap.size #[.int .i64 0, .bool false, .int .i64 0, .string ⟨#[]⟩, .slice none 0 0, .slice none 0 0]) := by
 refine ⟨cells6 0 false 0 [] none 0 0 none 0 0, ?_, ?_, below_setRow h.below (Nat.le_refl _) _⟩
 ·
  rw [hn]; rfl
 ·
  rw [hn]; exact jv_leaf _ _ _ _ _ _
theorem ver_fail2 {key : Int} {l : List UInt8} {w W : World} (h : Below w.heap.size w W) (hn : verO key l = none) :
  VerR key l w (.returned (.tuple #[.agg #[.int .i64 0, .bool false, .int .i64 0, .string ⟨#[]⟩, .slice none 0 0, .slice none 0 0], .bool false])) (W.setRow w.heap.size #[.int .i64 0, .bool false, .int .i64 0, .string ⟨#[]⟩, .slice none 0 0, .slice none 0 0]) := by
 refine ⟨cells6 0 false 0 [] none 0 0 none 0 0, ?_, ?_, below_setRow h (Nat.le_refl _) _⟩
 ·
  rw [hn]; rfl
 ·
  rw [hn]; exact jv_leaf _ _ _ _ _ _
theorem ver_walk (key : Int) (s : ByteArray) (l : List UInt8) (hs : s.data.toList = l) (hm : s.size ≤ 6000) (w : World) (hL : LaidB w w.heap.size) :
  Calls Tryz.prog 12 #[.int .i64 key, .string s] w (VerR key l w) := by
 have hb1 := alloc_below w (.cells #[.int .i64 0, .bool false, .int .i64 0, .string ⟨#[]⟩, .slice none 0 0, .slice none 0 0] 26)
 have HB1 := Lib.hid hb1
 have HK1 := Lib.hid (Blk.new w 26 #[.int .i64 0, .bool false, .int .i64 0, .string ⟨#[]⟩, .slice none 0 0, .slice none 0 0])
 have HL := Lib.hid hL
 have csp := Lib.hid (fun W => split_walk s l hs 46 W (by omega))
 have hll : l.length = s.size := by rw [← hs, Lib.size_eq]
 clear hb1 hL
 go_enter Tryz.func12, Tryz.ntmps12
 go_wp2_with fail
 refine (csp.out _).mono ?_
 rintro _ w2 ⟨gp, rfl, hgp, hrow, hb⟩
 have HB2 := Lib.hid (below_next HB1.out hb)
 have HK2 := Lib.hid (HK1.out.below hb HK1.out.lt)
 have HR2 := Lib.hid hrow
 have hgp2 : w.heap.size < gp := by simp at hgp; omega
 clear hb hrow hgp csp HK1 HB1
 go_wp2_with fail
 have hbt := Blk.new w2 63 #[.int .i64 key, .slice (some ⟨gp, 0, none⟩) (splitC 46 l).length (splitC 46 l).length, .int .i64 0, .bool false, .int .i64 0, .string ⟨#[]⟩, .slice none 0 0, .slice none 0 0]
 have hbf := Blk.new (w2.alloc (.cells #[.int .i64 key, .slice (some ⟨gp, 0, none⟩) (splitC 46 l).length (splitC 46 l).length, .int .i64 0, .bool false, .int .i64 0, .string ⟨#[]⟩, .slice none 0 0, .slice none 0 0] 63)) 64 #[.func (.func 31) #[] #[], .func (.func 32) #[] #[], .func (.func 33) #[] #[]]
 rw [show (w2.alloc (.cells #[.int .i64 key, .slice (some ⟨gp, 0, none⟩) (splitC 46 l).length (splitC 46 l).length, .int .i64 0, .bool false, .int .i64 0, .string ⟨#[]⟩, .slice none 0 0, .slice none 0 0] 63)).heap.size = w2.heap.size + 1 by simp] at hbf
 have hgpl := HR2.out.lt
 have hw2 := HB2.out.size
 have hk2 := HK2.out.lt
 have HS0 : Hid (VerS key l w gp w2.heap.size (w2.heap.size + 1) (.int .i64 0) (.bool false) (.int .i64 0) (.string ⟨#[]⟩) (.slice none 0 0) (.slice none 0 0) _) :=
  ⟨below_next (below_next HB2.out (alloc_below w2 _)) (alloc_below _ _), (HK2.out.alloc _).alloc _, ⟨(HR2.out.alloc _).alloc _, hbt.alloc _, by omega⟩, hbf, ((HL.out.below HB2.out).below (alloc_below w2 _)).below (alloc_below _ _), by omega, by omega, by omega⟩
 have hc1 : ∀ args W, (callFunc 31 args).run Tryz.prog W = .ok (.enter 31 args) W := fun args W => by kernel_rfl
 have hc2 : ∀ args W, (callFunc 32 args).run Tryz.prog W = .ok (.enter 32 args) W := fun args W => by kernel_rfl
 have hc3 : ∀ args W, (callFunc 33 args).run Tryz.prog W = .ok (.enter 33 args) W := fun args W => by kernel_rfl
 have as1 := as_err
 have as2 := as_nil
 generalize hg : w2.heap.size = g at HS0 ⊢
 clear hbt hbf hgpl hw2 hk2 HB2 HK2 HR2 hg
 go_loopw [18] (fun iv wr => ∃ (i : Nat) (x0 x1 x2 x3 x4 x5 : Value), i ≤ 3 ∧ iv = .int .i64 (i : Int) ∧ Hid (VerS key l w gp g (g + 1) x0 x1 x2 x3 x4 x5 wr) ∧ Hid (VerI key l w i x0 x1 x2 x3 x4 x5 wr)) (fun iv _ => 3 - (intOf iv).toNat)
 case atStart => exact ⟨0, _, _, _, _, _, _, by omega, rfl, HS0, trivial⟩
 case round =>
  clear HS0
  obtain ⟨i, x0, x1, x2, x3, x4, x5, hi, rfl, HS, HI⟩ := hrel
  have f0 := HS.out.fns.cell 0
  have f1 := HS.out.fns.cell 1
  have f2 := HS.out.fns.cell 2
  simp only [List.getElem?_toArray, List.getElem?_cons_zero, List.getElem?_cons_succ] at f0 f1 f2
  rcases (show i = 0 ∨ i = 1 ∨ i = 2 ∨ i = 3 by omega) with rfl | rfl | rfl | rfl
  ·
   have cp := Lib.hid (parted_walk key (splitC 46 l) gp g x0 x1 x2 x3 x4 x5 wr HS.out.tok (by rw [splitC_len]; have := List.count_le_length (a := (46 : UInt8)) (l := l); omega))
   by_cases h3 : (splitC 46 l).length = 3
   ·
    rw [if_pos h3] at cp
    have H3 := Lib.hid h3
    clear h3
    go_wp2_with fail
    refine cp.out.mono ?_
    rintro _ _ ⟨rfl, rfl⟩
    clear cp
    go_wp2_with fail
    exact ⟨⟨1, x0, x1, x2, x3, x4, x5, by omega, by go_num, HS, H3.out⟩, by simp [intOf]⟩
   ·
    have HN : Hid (verO key l = none) := ver_no0 h3
    rw [if_neg h3] at cp
    go_wp2_with fail
    refine cp.out.mono ?_
    rintro _ _ ⟨rfl, rfl⟩
    clear cp
    go_wp2_with (refine wpList_store_blk rfl 26 _ _ rfl w.heap.size _ #[.int .i64 0, .bool false, .int .i64 0, .string ⟨#[]⟩, .slice none 0 0, .slice none 0 0] 26 rfl rfl HS.out.res rfl jv_size (jv_ones _ _ _ _ _ _ _ _ _ _) ?_)
    refine bodyPost_ret (results_j_t Tryz.results12 _ _ w.heap.size _ _ _ _ _ _ rfl HS.out.res.setRow) rfl ?_
    exact ver_fail HS.out HN.out
  ·
   obtain ⟨a, b, c, habc⟩ : ∃ a b c, splitC 46 l = [a, b, c] := by
    have h3 : (splitC 46 l).length = 3 := HI.out
    exact list_three h3
   have hlen := split_lens habc
   have HABC := Lib.hid habc
   have htk := HS.out.tok
   rw [habc] at htk
   have cp := Lib.hid (claimed_walk key a b c gp g x0 x1 x2 x3 x4 x5 wr htk (by omega) (HS.out.laid.up))
   clear habc htk
   go_wp2_with fail
   refine cp.out.mono ?_
   rintro _ w3 ⟨hg3, hc⟩
   have hlo := HS.out.lo
   have hbel := HS.out.below.grown hg3 HS.out.below.size (fun q e => by injection e with e; omega)
   have hres := HS.out.res.grown hg3 (fun e => by injection e with e; omega)
   have hfns := HS.out.fns.grown hg3 (fun e => by injection e with e; omega)
   have hlaid := HS.out.laid.grown hg3 (fun q e => by injection e with e; omega)
   rcases hc with ⟨er, hb, rfl⟩ | ⟨x, y0, y1, y2, y3, y4, y5, hx, h0, rfl, htk, hjv⟩
   ·
    have HN : Hid (verO key l = none) := ver_no1 HABC.out hb
    have HRS := Lib.hid hres
    have HBEL := Lib.hid hbel
    clear cp hg3 hb hbel hres hfns hlaid hlo f0 f1 f2
    go_wp2_with (refine wpList_store_blk rfl 26 _ _ rfl w.heap.size _ #[.int .i64 0, .bool false, .int .i64 0, .string ⟨#[]⟩, .slice none 0 0, .slice none 0 0] 26 rfl rfl HRS.out rfl jv_size (jv_ones _ _ _ _ _ _ _ _ _ _) ?_)
    refine bodyPost_ret (results_j_t Tryz.results12 _ _ w.heap.size _ _ _ _ _ _ rfl HRS.out.setRow) rfl ?_
    exact ver_fail2 HBEL.out HN.out
   ·
    rw [← HABC.out] at htk
    have hsz := HS.out.below.size
    have HS3 : Hid (VerS key l w gp g (g + 1) y0 y1 y2 y3 y4 y5 w3) := ⟨hbel, hres, htk, hfns, hlaid, hlo⟩
    have HI3 : Hid (VerI key l w 2 y0 y1 y2 y3 y4 y5 w3) := ⟨a, b, c, x, HABC.out, hx, h0, hjv.low (show w.heap.size + 1 ≤ wr.heap.size from HS.out.res.lt)⟩
    clear cp hg3 hx h0 hbel hres hfns hlaid hlo htk hjv f0 f1 f2 HS HI hsz
    go_wp2_with fail
    exact ⟨⟨2, y0, y1, y2, y3, y4, y5, by omega, by go_num, HS3, HI3⟩, by simp [intOf]⟩
  ·
   obtain ⟨a, b, c, x, habc, hx, h0, hjv⟩ := HI.out
   have hlen := split_lens habc
   have hdl := dec_len hx
   have hyes := ver_yes (key := key) habc hx h0
   obtain ⟨v, hpv⟩ : ∃ v, parseL x = (0, v) := ⟨(parseL x).2, by rw [← h0]⟩
   have hmz := parse_may hpv
   have hsz := parse_sz hpv
   have hsm := smJ_of_may v 0 hmz (by omega)
   rw [hpv] at hyes hjv
   have htk := HS.out.tok
   rw [habc] at htk
   have cp := signed_walk key a b c v gp g x0 x1 x2 x3 x4 x5 wr htk (hjv.low (Nat.zero_le _)) (by omega) hsm (by omega) HS.out.laid.tab
   have HJ := Lib.hid hjv
   have hjoin := split_three habc
   have HYES : Hid (verO key l = if signL key v = l ∧ signL key v ≠ [] then some v else none) := hyes
   by_cases hok : signL key v = l ∧ signL key v ≠ []
   ·
    have hv : Hid (verO key l = some v) := by show _ = _; rw [HYES.out, if_pos hok]
    have CP : Hid (Calls Tryz.prog 33 #[.pointer (some ⟨g, 0, none⟩)] wr fun e w' => e = .returned .nilIface ∧ Below wr.heap.size wr w') := cp.mono fun e w' h => ⟨by rw [h.1, hjoin, if_pos hok], h.2⟩
    clear cp hok hjoin hyes hpv hmz hsz hsm htk hjv hdl hlen hx h0 habc HYES
    go_wp2_with fail
    refine CP.out.mono ?_
    rintro _ w3 ⟨rfl, hb⟩
    have HS3 := Lib.hid (HS.out.next hb)
    have HI3 : Hid (VerI key l w 3 x0 x1 x2 x3 x4 x5 w3) := ⟨v, hv.out, HJ.out.below hb⟩
    clear hb CP HS HI f0 f1 f2
    go_wp2_with fail
    exact ⟨⟨3, x0, x1, x2, x3, x4, x5, by omega, by go_num, HS3, HI3⟩, by simp [intOf]⟩
   ·
    have HN : Hid (verO key l = none) := by show _ = _; rw [HYES.out, if_neg hok]
    have CP : Hid (Calls Tryz.prog 33 #[.pointer (some ⟨g, 0, none⟩)] wr fun e w' => e = .returned (.iface 67 (.int .i64 20)) ∧ Below wr.heap.size wr w') := cp.mono fun e w' h => ⟨by rw [h.1, hjoin, if_neg hok], h.2⟩
    clear cp hok hjoin hyes hpv hmz hsz hsm htk hjv hdl hlen hx h0 habc HYES
    go_wp2_with fail
    refine CP.out.mono ?_
    rintro _ w3 ⟨rfl, hb⟩
    have HS3 := Lib.hid (HS.out.next hb)
    clear hb CP HS HI f0 f1 f2
    go_wp2_with (refine wpList_store_blk rfl 26 _ _ rfl w.heap.size _ #[.int .i64 0, .bool false, .int .i64 0, .string ⟨#[]⟩, .slice none 0 0, .slice none 0 0] 26 rfl rfl HS3.out.res rfl jv_size (jv_ones _ _ _ _ _ _ _ _ _ _) ?_)
    refine bodyPost_ret (results_j_t Tryz.results12 _ _ w.heap.size _ _ _ _ _ _ rfl HS3.out.res.setRow) rfl ?_
    exact ver_fail HS3.out HN.out
  ·
   obtain ⟨v, hv, hjv⟩ := HI.out
   obtain ⟨k5, b5, n5, s5, N5, nn5, nc5, A5, m5, c5, hform⟩ := hjv.form
   injection hform with e0 hform
   injection hform with e1 hform
   injection hform with e2 hform
   injection hform with e3 hform
   injection hform with e4 hform
   injection hform with e5 hform
   subst e0 e1 e2 e3 e4 e5
   have HV := Lib.hid hv
   have HJ := Lib.hid hjv
   have hcl := HS.out.tok.claims
   have HCL := Lib.hid hcl
   clear hv hjv hcl hform f0 f1 f2
   go_wp2_with (first | refine wpList_load_at rfl 26 _ rfl ⟨g, 2, none⟩ rfl [.int .i64 k5, .bool b5, .int .i64 n5, .string s5, .slice N5 nn5 nc5, .slice A5 m5 c5] _ HCL.out Tryz.underlying26 rfl jv_size ?_ | refine wpList_store_blk rfl 26 _ _ rfl w.heap.size _ #[.int .i64 k5, .bool b5, .int .i64 n5, .string s5, .slice N5 nn5 nc5, .slice A5 m5 c5] 26 rfl rfl HS.out.res rfl jv_size (jv_ones _ _ _ _ _ _ _ _ _ _) ?_)
   refine bodyPost_ret (results_j_t Tryz.results12 _ _ w.heap.size _ _ _ _ _ _ rfl HS.out.res.setRow) rfl ?_
   refine ⟨[.int .i64 k5, .bool b5, .int .i64 n5, .string s5, .slice N5 nn5 nc5, .slice A5 m5 c5], ?_, ?_, below_setRow HS.out.below (Nat.le_refl _) _⟩
   ·
    rw [HV.out]; rfl
   ·
    rw [HV.out]
    have hlo := HS.out.res.lt
    exact (HJ.out.grown (setRow_only wr w.heap.size _) (fun q e => by injection e with e; omega)).low (Nat.le_succ _)
end Go.Proofs.YtieppmppdmcleaaGreatDoor

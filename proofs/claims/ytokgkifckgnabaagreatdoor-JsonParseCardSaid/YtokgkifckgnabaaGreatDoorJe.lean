/- Same of both, over values in memory. No condition of its own. -/
import Derived.Test.YtokgkifckgnabaaGreatDoorM2
import Derived.Test.YtokgkifckgnabaaGreatDoorM7
import Derived.Deep.RegionHeld3
set_option linter.unusedVariables false
set_option linter.unusedSimpArgs false
set_option maxRecDepth 20000
namespace Go.Proofs.YtokgkifckgnabaaGreatDoor
open Go.RowKit
theorem below_next {w0 w1 w2 : World} (h : Below w0.heap.size w0 w1) (k : Below w1.heap.size w1 w2) : Below w0.heap.size w0 w2 := h.trans (k.mono h.size)
theorem dnN {B : Nat} {a w : World} (h : Below B a w) (n : Nat) : Below B a (w.drewN n) := h.trans ⟨rfl, rfl, rfl, Nat.le_refl _, fun _ _ => rfl⟩
theorem eq_strL (p q : List UInt8) : ((⟨p.toArray⟩ : ByteArray).toList == (⟨q.toArray⟩ : ByteArray).toList) = decide (p = q) := by
  rw [ByteArray.toList_eq, ByteArray.toList_eq, Bool.eq_iff_iff]; simp
mutual
def sameJ : Jv → Jv → Bool
  | .mk k b n s names kids, .mk k' b' n' s' names' kids' => (k == k') && (b == b') && (n == n') && decide (s = s') && decide (names = names') && sameJs kids kids'
def sameJs : List Jv → List Jv → Bool
  | [], [] => true
  | a :: xs, b :: ys => sameJ a b && sameJs xs ys
  | _, _ => false
end
mutual
theorem sameJ_iff : ∀ a b : Jv, sameJ a b = true ↔ a = b
  | .mk k b n s names kids, .mk k' b' n' s' names' kids' => by
    rw [sameJ]
    simp only [Bool.and_eq_true, decide_eq_true_eq, beq_iff_eq, sameJs_iff kids kids', Jv.mk.injEq]
    constructor
    · rintro ⟨⟨⟨⟨⟨h1, h2⟩, h3⟩, h4⟩, h5⟩, h6⟩; exact ⟨h1, h2, h3, h4, h5, h6⟩
    · rintro ⟨h1, h2, h3, h4, h5, h6⟩; exact ⟨⟨⟨⟨⟨h1, h2⟩, h3⟩, h4⟩, h5⟩, h6⟩
theorem sameJs_iff : ∀ xs ys : List Jv, sameJs xs ys = true ↔ xs = ys
  | [], [] => by simp [sameJs]
  | a :: xs, b :: ys => by
    rw [sameJs, Bool.and_eq_true, sameJ_iff a b, sameJs_iff xs ys, List.cons.injEq]
  | [], b :: ys => by simp [sameJs]
  | a :: xs, [] => by simp [sameJs]
end
theorem sameJs_len {xs ys : List Jv} (h : xs.length ≠ ys.length) : sameJs xs ys = false := by
  rw [Bool.eq_false_iff, ne_eq, sameJs_iff]
  intro e; exact h (by rw [e])
theorem sameJs_cons (a b : Jv) (xs ys : List Jv) : sameJs (a :: xs) (b :: ys) = (sameJ a b && sameJs xs ys) := by rw [sameJs]
theorem JvV.form {w : World} {lo : Nat} {t : Jv} {cs : List Value} (h : JvV w lo t cs) : ∃ (kd : Int) (b : Bool) (nm : Int) (s : ByteArray) (NA : Option Addr) (nn nc : Nat) (A : Option Addr) (m cp : Nat), cs = [.int .i64 kd, .bool b, .int .i64 nm, .string s, .slice NA nn nc, .slice A m cp] := by
  cases t
  rw [JvV] at h
  obtain ⟨NA, nc, A, c, vs, rfl, _⟩ := h
  exact ⟨_, _, _, _, _, _, _, _, _, _, rfl⟩
/-- the place of a readable row of one-cell things -/
theorem reads_spot {w : World} {B n : Nat} {A : Option Addr} {xs : List Value} (h : Reads w B 1 A n xs) (h0 : 0 < n) : ∃ b o, A = some ⟨b, o, none⟩ ∧ b < B ∧ ∀ j u, xs[j]? = some u → w.cell? ⟨b, o + j, none⟩ = some u := by
  obtain ⟨ad, e, hb, hc⟩ := h.2 h0
  have hl := h.1
  have hg : xs[0]? = some (xs[0]'(by omega)) := List.getElem?_eq_getElem (by omega)
  have hs := World.cell?_spot (hc 0 _ hg)
  obtain ⟨b, o, sp⟩ := ad
  have hsp : sp = none := by simpa [Addr.add] using hs
  subst hsp
  refine ⟨b, o, e, hb, fun j u hu => ?_⟩
  have hk' := hc j u hu
  rwa [show ((⟨b, o, none⟩ : Addr).add j) = ⟨b, o + j, none⟩ by unfold Addr.add; split <;> simp_all] at hk'
def mkS (ps : List (List UInt8)) : List ByteArray := ps.map fun p => ⟨p.toArray⟩
theorem mkS_inj {ps qs : List (List UInt8)} : mkS ps = mkS qs ↔ ps = qs := by
  constructor
  · intro h
    have := congrArg (List.map fun x : ByteArray => x.data.toList) h
    simpa [mkS, Function.comp_def] using this
  · rintro rfl; rfl
theorem mkS_cells {w : World} {b o : Nat} {ps : List (List UInt8)} (h : ∀ j u, (strVs ps)[j]? = some u → w.cell? ⟨b, o + j, none⟩ = some u) : ∀ j, j < (mkS ps).length → w.cell? ⟨b, o + j, none⟩ = some (.string ((mkS ps).getD j ByteArray.empty)) := by
  intro j hj
  refine h j _ ?_
  have hj2 : j < ps.length := by simpa [mkS] using hj
  simp [strVs, strV, mkS, List.getElem?_map, List.getElem?_eq_getElem hj2, List.getD]
theorem equalS_walk (A B : Option Addr) (c d : Nat) (ps qs : List (List UInt8)) (w : World) (S T : Nat) (hp : Reads w S 1 A ps.length (strVs ps)) (hq : Reads w T 1 B qs.length (strVs qs)) (h1 : ps.length ≤ 9223372036854775807) (h2 : qs.length ≤ 9223372036854775807) :
    Calls Tryz.prog 39 #[.slice A ps.length c, .slice B qs.length d] w fun e w' => e = .returned (.bool (decide (ps = qs))) ∧ ∃ q, w' = w.drewN q := by
  by_cases hl : ps.length = qs.length
  · by_cases h0 : ps.length = 0
    · have e1 : ps = [] := List.eq_nil_of_length_eq_zero h0
      have e2 : qs = [] := List.eq_nil_of_length_eq_zero (by omega)
      subst e1 e2
      refine (Tryz.slices_Equal_string_empty A B c 0 d w (by omega)).mono ?_
      rintro _ w1 ⟨rfl, rfl⟩
      exact ⟨rfl, 0, rfl⟩
    · obtain ⟨b1, o1, rfl, _, hc1⟩ := reads_spot hp (by omega)
      obtain ⟨b2, o2, rfl, _, hc2⟩ := reads_spot hq (by omega)
      refine (Tryz.slices_Equal_string b1 o1 ps.length c b2 o2 qs.length d (mkS ps) (mkS qs) w (by simp [mkS]) (by simp [mkS]) h1 h2 (mkS_cells hc1) (mkS_cells hc2)).mono ?_
      rintro _ w1 ⟨rfl, hw⟩
      refine ⟨?_, hw⟩
      congr 2
      rw [List.take_of_length_le (by simp [mkS]), List.take_of_length_le (by simp [mkS])]
      exact decide_eq_decide.2 mkS_inj
  · refine (Tryz.slices_Equal_string_lens A B ps.length c qs.length d w hl).mono ?_
    rintro _ w1 ⟨rfl, rfl⟩
    exact ⟨by rw [decide_eq_false (fun e => hl (by rw [e]))], 0, rfl⟩
def SameOk (F : FuncId) (a : Jv) : Prop := ∀ (b : Jv) (cs ds : List Value) (w : World), JvV w 0 a cs → JvV w 0 b ds →
  Calls Tryz.prog F #[.agg cs.toArray, .agg ds.toArray] w fun e w' => e = .returned (.bool (sameJ a b)) ∧ Below w.heap.size w w'
set_option maxHeartbeats 2000000 in
theorem equalF_walk (xs ys : List Jv) (hok : ∀ k ∈ xs, SameOk 20 k) (A B : Option Addr) (c d : Nat) (vs us : List (List Value)) (w : World) (hca : xs.length ≤ c ∧ c ≤ 9223372036854775807) (hcb : ys.length ≤ d ∧ d ≤ 9223372036854775807)
    (hA : JvsV w 0 xs vs) (hB : JvsV w 0 ys us) (hrA : Reads w w.heap.size 6 A xs.length vs.flatten) (hrB : Reads w w.heap.size 6 B ys.length us.flatten) :
    Calls Tryz.prog 40 #[.slice A xs.length c, .slice B ys.length d, .func (.func 20) #[] #[]] w fun e w' => e = .returned (.bool (sameJs xs ys)) ∧ Below w.heap.size w w' := by
  have hcf : ∀ args w, (callFunc 20 args).run Tryz.prog w = .ok (.enter 20 args) w := fun args w => by kernel_rfl
  by_cases hl : xs.length = ys.length
  · have hne : ((xs.length : Int) == (ys.length : Int)) = true := by rw [hl]; simp
    have hne2 : ((xs.length : Int) != (ys.length : Int)) = false := by rw [hl]; simp
    have HL := Lib.hid hl
    clear hl
    go_enter Tryz.func40, Tryz.ntmps40
    go_wp2_with fail
    go_loopw [17] (fun iv wr => ∃ k : Nat, k ≤ xs.length ∧ iv = .int .i64 k ∧ Hid (sameJs xs ys = sameJs (xs.drop k) (ys.drop k)) ∧ Hid (Below w.heap.size w wr)) (fun iv _ => xs.length - (intOf iv).toNat)
    case atStart => exact ⟨0, by omega, rfl, rfl, Below.refl _ _⟩
    case round =>
      obtain ⟨k, hk, rfl, heq, hbl⟩ := hrel
      by_cases hlt : k < xs.length
      · have hlt2 : k < ys.length := by rw [← HL.out]; exact hlt
        obtain ⟨a, hak⟩ : ∃ a, xs[k]? = some a := ⟨xs[k], List.getElem?_eq_getElem hlt⟩
        obtain ⟨b, hbk⟩ : ∃ a, ys[k]? = some a := ⟨ys[k], List.getElem?_eq_getElem hlt2⟩
        obtain ⟨ad, v, rfl, hva, hcv⟩ := jkid_at hA hrA hak
        obtain ⟨bd, u, rfl, hvb, hcu⟩ := jkid_at hB hrB hbk
        have hadl : ad.block < w.heap.size := by obtain ⟨ad', e', h, _⟩ := hrA.2 (by omega); injection e' with e'; subst e'; exact h
        have hbdl : bd.block < w.heap.size := by obtain ⟨ad', e', h, _⟩ := hrB.2 (by omega); injection e' with e'; subst e'; exact h
        have HD : Hid (sameJs (xs.drop k) (ys.drop k) = (sameJ a b && sameJs (xs.drop (k + 1)) (ys.drop (k + 1)))) := by
          show _ = _
          obtain ⟨h9, e9⟩ := List.getElem?_eq_some_iff.1 hak
          obtain ⟨h8, e8⟩ := List.getElem?_eq_some_iff.1 hbk
          rw [List.drop_eq_getElem_cons h9, List.drop_eq_getElem_cons h8, e9, e8, sameJs_cons]
        have cp := Lib.hid (fun W (hW : Below w.heap.size w W) => hok a (List.mem_of_getElem? hak) b v u W (hva.below hW) (hvb.below hW))
        have hcv2 : ∀ W, Below w.heap.size w W → ∀ j x, v[j]? = some x → W.cell? ((ad.add (k * 6)).add j) = some x := fun W hW j x hx => (hW.cell (by rw [block_of_add, block_of_add]; exact hadl)).trans (hcv j x hx)
        have hcu2 : ∀ W, Below w.heap.size w W → ∀ j x, u[j]? = some x → W.cell? ((bd.add (k * 6)).add j) = some x := fun W hW j x hx => (hW.cell (by rw [block_of_add, block_of_add]; exact hbdl)).trans (hcu j x hx)
        obtain ⟨k1, b1, n1, s1, NA1, nn1, nc1, A1, m1, c1, rfl⟩ := hva.form
        obtain ⟨k2, b2, n2, s2, NA2, nn2, nc2, A2, m2, c2, rfl⟩ := hvb.form
        have HC1 := Lib.hid hcv2
        have HC2 := Lib.hid hcu2
        clear hcv hcu hva hvb hak hbk hcv2 hcu2
        have hsz := hbl.out.size
        have hB1 := hbl.out.alloc hsz (.cells #[.int .i64 k1, .bool b1, .int .i64 n1, .string s1, .slice NA1 nn1 nc1, .slice A1 m1 c1] 27)
        have HB2 := Lib.hid (hB1.alloc hB1.size (.cells #[.int .i64 k2, .bool b2, .int .i64 n2, .string s2, .slice NA2 nn2 nc2, .slice A2 m2 c2] 27))
        have HB1 := Lib.hid hB1
        have hB : Below w.heap.size w wr := hbl.out
        have hx1 := Lib.hid ((Blk.new wr 27 #[.int .i64 k1, .bool b1, .int .i64 n1, .string s1, .slice NA1 nn1 nc1, .slice A1 m1 c1]).alloc (.cells #[.int .i64 k2, .bool b2, .int .i64 n2, .string s2, .slice NA2 nn2 nc2, .slice A2 m2 c2] 27))
        clear hB1
        go_wp2_with (first
          | (refine wpList_load_at rfl 27 _ rfl (ad.add (k * 6)) rfl [.int .i64 k1, .bool b1, .int .i64 n1, .string s1, .slice NA1 nn1 nc1, .slice A1 m1 c1] _ (HC1.out _ hB) Tryz.underlying27 rfl jv_size ?_)
          | (refine wpList_load_at rfl 27 _ rfl (bd.add (k * 6)) rfl [.int .i64 k2, .bool b2, .int .i64 n2, .string s2, .slice NA2 nn2 nc2, .slice A2 m2 c2] _ (HC2.out _ HB1.out) Tryz.underlying27 rfl jv_size ?_))
        refine (cp.out _ HB2.out).mono ?_
        rintro _ w5 ⟨rfl, hb5⟩
        have HB5 := Lib.hid (below_next HB2.out hb5)
        clear hb5 cp HB1 HB2 hx1 HC1 HC2 hB hsz hbl
        cases hS : sameJ a b
        · have hv : Hid (sameJs xs ys = false) := by show _ = _; rw [heq.out, HD.out, hS, Bool.false_and]
          clear heq HD hS
          go_wp2_with fail
          go_ret
          exact ⟨by rw [hv.out]; rfl, HB5.out⟩
        · have hv : Hid (sameJs xs ys = sameJs (xs.drop (k + 1)) (ys.drop (k + 1))) := by show _ = _; rw [heq.out, HD.out, hS, Bool.true_and]
          clear heq HD hS
          go_wp2_with fail
          exact ⟨⟨k + 1, by omega, by go_num, hv, HB5⟩, by simp [intOf]; omega⟩
      · obtain rfl : k = xs.length := by omega
        have hv : Hid (sameJs xs ys = true) := by show _ = _; rw [heq.out, List.drop_length, HL.out, List.drop_length, sameJs]
        go_wp2_with fail
        go_ret
        exact ⟨by rw [hv.out]; rfl, hbl.out⟩
  · have hne : ((xs.length : Int) == (ys.length : Int)) = false := by rw [beq_eq_false_iff_ne]; omega
    have hv := Lib.hid (sameJs_len hl)
    clear hl
    go_enter Tryz.func40, Tryz.ntmps40
    go_wp2_with fail
    go_ret
    exact ⟨by rw [hv.out]; rfl, Below.refl _ _⟩
set_option maxHeartbeats 4000000 in
theorem same_node (k : Int) (b : Bool) (n : Int) (s : List UInt8) (names : List (List UInt8)) (kids : List Jv) (hok : ∀ x ∈ kids, SameOk 20 x) : SameOk 20 (.mk k b n s names kids) := by
  intro y cs ds w hy1 hy2
  obtain ⟨k', b', n', s', names', kids'⟩ := y
  rw [JvV] at hy1 hy2
  obtain ⟨NA, nc, A, c, vs, rfl, h1, h2, h3, _, h5, _, h7⟩ := hy1
  obtain ⟨NB, nd, B, d, us, rfl, g1, g2, g3, _, g5, _, g7⟩ := hy2
  have hb1 := (Below.refl w.heap.size w).alloc (Nat.le_refl _) (.cells #[.int .i64 k, .bool b, .int .i64 n, .string ⟨s.toArray⟩, .slice NA names.length nc, .slice A kids.length c] 27)
  have hb2 := hb1.alloc hb1.size (.cells #[.int .i64 k', .bool b', .int .i64 n', .string ⟨s'.toArray⟩, .slice NB names'.length nd, .slice B kids'.length d] 27)
  have HB2 := Lib.hid hb2
  have cnm := Lib.hid (fun W (hW : Below w.heap.size w W) => equalS_walk NA NB nc nd names names' W _ _ (h3.below hW) (g3.below hW) (by omega) (by omega))
  have ckd := Lib.hid (fun W (hW : Below w.heap.size w W) => equalF_walk kids kids' hok A B c d vs us W h2 g2 (h7.below hW) (g7.below hW) ((h5.below hW).more hW.size) ((g5.below hW).more hW.size))
  have hstr := eq_strL s s'
  generalize hx : (⟨s.toArray⟩ : ByteArray) = x at *
  generalize hy : (⟨s'.toArray⟩ : ByteArray) = y at *
  clear h3 g3 h5 g5 h7 g7 hb1 hb2
  simp only [cells6, strV]
  rw [hx, hy]
  have HXY := Lib.hid (And.intro hx hy)
  clear hx hy
  rw [sameJ]
  cases h1 : k == k'
  · go_enter Tryz.func20, Tryz.ntmps20
    go_wp2_with fail
    go_ret
    exact ⟨by simp, HB2.out⟩
  obtain rfl : k = k' := by simpa using h1
  clear h1
  cases h2 : b == b'
  · go_enter Tryz.func20, Tryz.ntmps20
    go_wp2_with fail
    go_ret
    exact ⟨by simp, HB2.out⟩
  obtain rfl : b = b' := by simpa using h2
  clear h2
  cases h3 : n == n'
  · go_enter Tryz.func20, Tryz.ntmps20
    go_wp2_with fail
    go_ret
    exact ⟨by simp, HB2.out⟩
  obtain rfl : n = n' := by simpa using h3
  clear h3
  cases h4 : decide (s = s')
  · rw [h4] at hstr
    go_enter Tryz.func20, Tryz.ntmps20
    go_wp2_with fail
    go_ret
    exact ⟨by simp, HB2.out⟩
  obtain rfl : s = s' := of_decide_eq_true h4
  obtain rfl : x = y := HXY.out.1.symm.trans HXY.out.2
  clear h4 hstr HXY
  cases h5 : decide (names = names')
  · rw [h5] at cnm
    go_enter Tryz.func20, Tryz.ntmps20
    go_wp2_with fail
    refine (cnm.out _ HB2.out).mono ?_
    rintro _ w1 ⟨rfl, q, rfl⟩
    go_wp2_with fail
    go_ret
    exact ⟨by simp, dnN HB2.out q⟩
  rw [h5] at cnm
  clear h5
  go_enter Tryz.func20, Tryz.ntmps20
  go_wp2_with fail
  refine (cnm.out _ HB2.out).mono ?_
  rintro _ w1 ⟨rfl, q, rfl⟩
  go_wp2_with fail
  refine (ckd.out _ (dnN HB2.out q)).mono ?_
  rintro _ w2 ⟨rfl, hb3⟩
  have HB3 := Lib.hid (below_next (dnN HB2.out q) hb3)
  clear hb3
  go_wp2_with fail
  go_ret
  exact ⟨by simp, HB3.out⟩
mutual
theorem same_all : ∀ t : Jv, SameOk 20 t
  | .mk k b n s names kids => same_node k b n s names kids (same_each kids)
theorem same_each : ∀ ks : List Jv, ∀ k ∈ ks, SameOk 20 k
  | [], k, h => by simp at h
  | x :: ks, k, h => by
    have h1 := same_all x
    have h2 := same_each ks
    rcases List.mem_cons.1 h with e | h
    · rw [e]; exact h1
    · exact h2 k h
end
end Go.Proofs.YtokgkifckgnabaaGreatDoor

/- JsonBack: what is printed is parsed, with blanks between, too; what is parsed may be, and is parsed of its print. Condition: the laid variables. -/
import Derived.Test.YtokgkifckgnabaaDoorLg
set_option linter.unusedVariables false
set_option linter.unusedSimpArgs false
set_option maxRecDepth 20000
namespace Go.Proofs.YtokgkifckgnabaaDoor
open Go.RowKit Go.Maps
def pairJ (v : Jv) : Jv := .mk 5 false 0 [] [] [v, .mk 3 false 1 [] [] []]
theorem parse_zero {l : List UInt8} {er : Nat} {z : Jv} (h : parseL l = (er, z)) (he : er ≠ 0) : z = jvZ := by
  unfold parseL at h
  split at h
  · injection h with h1 h2; exact h2.symm
  · split at h
    · injection h with h1 h2; exact absurd h1.symm he
    · injection h with h1 h2; exact h2.symm
theorem parse_okw (s : ByteArray) (l : List UInt8) (v : Jv) (hs : s.data.toList = l) (hp : parseL l = (0, v)) (hm : s.size ≤ 1000000) (w : World) (hL : LaidB w w.heap.size) : Calls Tryd.prog 8 #[.string s] w fun e w' => ∃ cs, e = .returned (.tuple #[.agg cs.toArray, .int .i64 0]) ∧ JvV w' w.heap.size v cs ∧ Below w.heap.size w w' := by
  refine (parse_walk s l hs hm w hL).mono ?_
  rintro e w' ⟨cs, he, hv, hb⟩
  rw [hp] at he hv
  exact ⟨cs, he, hv, hb⟩
theorem parse_erw (s : ByteArray) (l : List UInt8) (er : Nat) (v : Jv) (hs : s.data.toList = l) (hp : parseL l = (er, v)) (hm : s.size ≤ 1000000) (w : World) (hL : LaidB w w.heap.size) : Calls Tryd.prog 8 #[.string s] w fun e w' => ∃ cs, e = .returned (.tuple #[.agg cs.toArray, .int .i64 (er : Int)]) ∧ JvV w' w.heap.size v cs ∧ Below w.heap.size w w' := by
  refine (parse_walk s l hs hm w hL).mono ?_
  rintro e w' ⟨cs, he, hv, hb⟩
  rw [hp] at he hv
  exact ⟨cs, he, hv, hb⟩
theorem jvZ_sm : smJ jvZ := by rw [jvZ, smJ, smJs]; simp
theorem jvZ_may : mayB jvZ = false := by decide +kernel
theorem two_at (x t : ByteArray) (i : Nat) (hi : i < 2) (hx : x.size ≤ 300) (ht : t.size ≤ 16 * 14) : ∃ y : ByteArray, (#[Value.string x, .string t] : Array Value)[i]? = some (.string y) ∧ y.size ≤ 300 := by
  match i, hi with
  | 0, _ => exact ⟨x, rfl, hx⟩
  | 1, _ => exact ⟨t, rfl, by omega⟩
/-- the first kid of a list of two -/
theorem pair_kid {w : World} {v : Jv} {k : Int} {b : Bool} {n : Int} {st : ByteArray} {NA A : Option Addr} {nn nc m c : Nat} (h : JvV w 0 (pairJ v) [.int .i64 k, .bool b, .int .i64 n, .string st, .slice NA nn nc, .slice A m c]) :
    m = 2 ∧ ∃ (ad : Addr) (cs : List Value), A = some ad ∧ 2 ≤ c ∧ JvV w 0 v cs ∧ ∀ j u, cs[j]? = some u → w.cell? (ad.add j) = some u := by
  rw [pairJ, JvV] at h
  obtain ⟨NA', nc', A', c', vs, e, _, h3, _, _, h6, _, h8⟩ := h
  injection e with _ e
  injection e with _ e
  injection e with _ e
  injection e with _ e
  injection e with _ e
  injection e with e _
  injection e with e1 e2 e3
  subst e1 e2 e3
  obtain ⟨ad, cs, hA, hv, hc⟩ := jkid_at h8 h6 (i := 0) (k := v) rfl
  exact ⟨rfl, ad, cs, hA, h3.1, hv, fun j u hu => by have := hc j u hu; rwa [Nat.zero_mul, show ad.add 0 = ad from by simp [Addr.add]] at this⟩
set_option maxHeartbeats 40000000 in
theorem back12_law (zs : List Int) (A : Option Addr) (c : Nat) (x : ByteArray) (w : World) (hr : IntsIn w A c zs) (hL : LaidB w w.heap.size) :
    Calls Tryd.prog 3 #[.slice A zs.length c, .string x] w fun e w' => e = .returned (.bool true) ∧ Below w.heap.size w w' := by
  have ck := Lib.hid (known12_walk w hL)
  have HR := Lib.hid hr
  clear hL hr
  go_enter Tryd.func3, Tryd.ntmps3
  go_wp2_with fail
  refine ck.out.mono ?_
  rintro _ w1 ⟨rfl, hS1⟩
  have HA := Lib.hid (show StA w [] [] w1 from ⟨hS1.laid, hS1.below, fun p hp => by simp at hp, fun p hp => by simp at hp⟩)
  clear hS1 ck
  by_cases hx : x.size ≤ 300
  case neg =>
    have d1 : decide ((300 : Int) < (x.size : Int)) = true := by simp; omega
    have d2 : decide (300 < x.size) = true := by simp; omega
    go_wp2_with fail
    go_ret
    exact ⟨rfl, HA.out.below⟩
  have d1 : decide ((300 : Int) < (x.size : Int)) = false := by simp; omega
  have d2 : decide (300 < x.size) = false := by simp; omega
  have hT := tape_new (HR.out.below HA.out.below)
  have cv := Lib.hid (tape_any 4 (by decide) zs _ 0 _ hT)
  clear hT
  go_wp2_with fail
  refine cv.out.mono ?_
  rintro _ w2 ⟨v, csv, kv, rfl, hv, -, hg, hfv⟩
  have hb2 : Below w1.heap.size w1 w2 := (alloc_below w1 _).grown hg (by simp) (fun q e => by injection e with e; omega)
  obtain ⟨k1, b1, n1, s1, N1, nn1, nc1, A1, m1, c1, rfl⟩ := hv.form
  have HA3 := Lib.hid ((HA.out.next hb2).value hv)
  have hmay0 : mayB v = true := hfv.1 0 (by decide)
  have hmay1 : mayJ validL v 1 = true := hfv.1 1 (by decide)
  have hszv : szJ v ≤ 1372 := Nat.le_trans hfv.2 (by decide)
  have HSM := Lib.hid (smJ_of_may v 0 hmay0 (by omega))
  have hple := jprint_le v HSM.out
  have hpj : printJ v = jprint v := if_pos hmay0
  have HPB := Lib.hid (parse_back hmay0)
  have HPL := Lib.hid (parse_blank hmay1)
  obtain ⟨pv, hpv, hpvs⟩ := mk_name (jprint v) (n := 38416) (by omega)
  have HPV := Lib.hid hpv
  have hpl : pv.data.toList = jprint v := by rw [← hpv]
  have HPVL := Lib.hid hpl
  have cpr := Lib.hid (fun W (hT : Tab W) cs (hj : JvV W 0 v cs) => print_walk v cs W HSM.out (by omega) hT hj)
  rw [hpj, hpv] at cpr
  clear hg cv HA hv hb2 hmay0 hmay1 hple hpj hpv hpl hfv
  obtain ⟨l0, l1, l2, l3, l4, l5⟩ := six_cells (HA3.out.vals (w2.heap.size, v, [.int .i64 k1, .bool b1, .int .i64 n1, .string s1, .slice N1 nn1 nc1, .slice A1 m1 c1]) (by simp)).1
  go_wp2_with (refine wpList_load_at rfl 27 _ rfl ⟨w2.heap.size, 0, none⟩ rfl [.int .i64 k1, .bool b1, .int .i64 n1, .string s1, .slice N1 nn1 nc1, .slice A1 m1 c1] _ (blk_cells (HA3.out.vals (w2.heap.size, v, [.int .i64 k1, .bool b1, .int .i64 n1, .string s1, .slice N1 nn1 nc1, .slice A1 m1 c1]) (by simp)).1) Tryd.underlying27 rfl jv_size ?_)
  generalize w2.heap.size = gv at HA3 l0 l1 l2 l3 l4 l5 ⊢
  generalize w2.alloc (.cells #[.int .i64 k1, .bool b1, .int .i64 n1, .string s1, .slice N1 nn1 nc1, .slice A1 m1 c1] 27) = W3 at HA3 l0 l1 l2 l3 l4 l5 ⊢
  refine (cpr.out W3 HA3.out.laid.tab _ (HA3.out.vals (gv, v, [.int .i64 k1, .bool b1, .int .i64 n1, .string s1, .slice N1 nn1 nc1, .slice A1 m1 c1]) (by simp)).2).mono ?_
  rintro _ W4 ⟨rfl, hb4⟩
  have HA4 := Lib.hid (HA3.out.next hb4)
  clear hb4 HA3 l0 l1 l2 l3 l4 l5
  go_wp2_with fail
  refine (parse_okw pv _ v HPVL.out HPB.out (by omega) W4 HA4.out.laid).mono ?_
  rintro _ w5 ⟨cs5, rfl, hv5, hb5⟩
  obtain ⟨k2, b2, n2, s2, N2, nn2, nc2, A2, m2, c2, rfl⟩ := hv5.form
  have HA5 := Lib.hid ((HA4.out.next hb5).value hv5)
  clear hb5 hv5 HA4
  obtain ⟨l0, l1, l2, l3, l4, l5⟩ := six_cells (HA5.out.vals (gv, v, [.int .i64 k1, .bool b1, .int .i64 n1, .string s1, .slice N1 nn1 nc1, .slice A1 m1 c1]) (by simp)).1
  go_wp2_with (refine wpList_load_at rfl 27 _ rfl ⟨gv, 0, none⟩ rfl [.int .i64 k1, .bool b1, .int .i64 n1, .string s1, .slice N1 nn1 nc1, .slice A1 m1 c1] _ (blk_cells (HA5.out.vals (gv, v, [.int .i64 k1, .bool b1, .int .i64 n1, .string s1, .slice N1 nn1 nc1, .slice A1 m1 c1]) (by simp)).1) Tryd.underlying27 rfl jv_size ?_)
  generalize w5.heap.size = gx at HA5 l0 l1 l2 l3 l4 l5 ⊢
  generalize w5.alloc (.cells #[.int .i64 k2, .bool b2, .int .i64 n2, .string s2, .slice N2 nn2 nc2, .slice A2 m2 c2] 27) = W5 at HA5 l0 l1 l2 l3 l4 l5 ⊢
  refine (cpr.out W5 HA5.out.laid.tab _ (HA5.out.vals (gv, v, [.int .i64 k1, .bool b1, .int .i64 n1, .string s1, .slice N1 nn1 nc1, .slice A1 m1 c1]) (by simp)).2).mono ?_
  rintro _ W6 ⟨rfl, hb6⟩
  have HA6 := Lib.hid (HA5.out.next hb6)
  clear hb6 HA5 l0 l1 l2 l3 l4 l5 cpr
  have q1 : ¬ 9223372036854775807 < 4 + pv.size := by omega
  have q2 : ¬ 9223372036854775807 < 4 + pv.size + 7 := by omega
  have hzl : ((⟨#[32, 10, 91, 9]⟩ : ByteArray) ++ pv ++ ⟨#[13, 32, 44, 49, 32, 93, 32]⟩).data.toList = [32, 10, 91, 9] ++ jprint v ++ [13, 32, 44, 49, 32, 93, 32] := by rw [ByteArray.data_append, ByteArray.data_append, Array.toList_append, Array.toList_append, HPVL.out]
  have hzs : ((⟨#[32, 10, 91, 9]⟩ : ByteArray) ++ pv ++ ⟨#[13, 32, 44, 49, 32, 93, 32]⟩).size ≤ 1000000 := by rw [ByteArray.size_append, ByteArray.size_append]; show 4 + pv.size + 7 ≤ _; omega
  have cp7 := Lib.hid (parse_okw _ _ (pairJ v) hzl HPL.out hzs W6 HA6.out.laid)
  clear hzl hzs
  go_wp2_with fail
  refine cp7.out.mono ?_
  rintro _ w7 ⟨cs7, rfl, hv7, hb7⟩
  obtain ⟨k3, b3, n3, s3, N3, nn3, nc3, A3, m3, c3, rfl⟩ := hv7.form
  have HA7 := Lib.hid ((HA6.out.next hb7).value hv7)
  clear hb7 hv7 HA6 cp7 q1 q2 HPL
  go_wp2_with fail
  generalize w7.heap.size = gy at HA7 ⊢
  generalize w7.alloc (.cells #[.int .i64 k3, .bool b3, .int .i64 n3, .string s3, .slice N3 nn3 nc3, .slice A3 m3 c3] 27) = W7 at HA7 ⊢
  obtain ⟨rfl, ad, csk, rfl, hc3, hvk, hck⟩ := pair_kid (HA7.out.vals (gy, pairJ v, [.int .i64 k3, .bool b3, .int .i64 n3, .string s3, .slice N3 nn3 nc3, .slice A3 m3 c3]) (by simp)).2
  obtain ⟨k4, b4, n4, s4, N4, nn4, nc4, A4, m4, c4, rfl⟩ := hvk.form
  have HVK := Lib.hid (hvk.below (Below.refl W7.heap.size W7).drew)
  have hadl : ad.block < W7.heap.size := by have := World.block_lt_of_cell? W7 _ (hck 0 _ rfl); rwa [block_of_add] at this
  have HA8 := Lib.hid (HA7.out.next (Below.refl W7.heap.size W7).drew)
  have HCK := Lib.hid (show ∀ j t, ([.int .i64 k4, .bool b4, .int .i64 n4, .string s4, .slice N4 nn4 nc4, .slice A4 m4 c4] : List Value)[j]? = some t → W7.drew.cell? (ad.add j) = some t from hck)
  have hadl8 : ad.block < W7.drew.heap.size := hadl
  clear hvk hck hadl HA7
  have HSM2 := HSM
  generalize hW8 : W7.drew = W8 at HA8 HVK HCK hadl8
  have hS0 := And.intro (HA8.out.cells (g := gx) (v := v) (cs := [.int .i64 k2, .bool b2, .int .i64 n2, .string s2, .slice N2 nn2 nc2, .slice A2 m2 c2]) (by simp)) (And.intro (HA8.out.cells (g := gv) (v := v) (cs := [.int .i64 k1, .bool b1, .int .i64 n1, .string s1, .slice N1 nn1 nc1, .slice A1 m1 c1]) (by simp)) (And.intro HCK.out ((HA8.out.vals (gy, pairJ v, [.int .i64 k3, .bool b3, .int .i64 n3, .string s3, .slice N3 nn3 nc3, .slice (some ad) 2 c3]) (by simp)).1.cell 5)))
  rw [← hW8] at hS0
  refine wp_region_held_drew (S := fun W => (∀ j t, ([.int .i64 k2, .bool b2, .int .i64 n2, .string s2, .slice N2 nn2 nc2, .slice A2 m2 c2] : List Value)[j]? = some t → W.cell? ((⟨gx, 0, none⟩ : Addr).add j) = some t) ∧ (∀ j t, ([.int .i64 k1, .bool b1, .int .i64 n1, .string s1, .slice N1 nn1 nc1, .slice A1 m1 c1] : List Value)[j]? = some t → W.cell? ((⟨gv, 0, none⟩ : Addr).add j) = some t) ∧ (∀ j t, ([.int .i64 k4, .bool b4, .int .i64 n4, .string s4, .slice N4 nn4 nc4, .slice A4 m4 c4] : List Value)[j]? = some t → W.cell? (ad.add j) = some t) ∧ W.cell? ⟨gy, 5, none⟩ = some (.slice (some ad) 2 c3)) (by kernel_rfl) hS0 (fun hHeld => ?_)
  rw [hW8]
  clear hHeld hS0 hW8
  have hHeld := And.intro (HA8.out.cells (g := gx) (v := v) (cs := [.int .i64 k2, .bool b2, .int .i64 n2, .string s2, .slice N2 nn2 nc2, .slice A2 m2 c2]) (by simp)) (And.intro (HA8.out.cells (g := gv) (v := v) (cs := [.int .i64 k1, .bool b1, .int .i64 n1, .string s1, .slice N1 nn1 nc1, .slice A1 m1 c1]) (by simp)) (And.intro HCK.out ((HA8.out.vals (gy, pairJ v, [.int .i64 k3, .bool b3, .int .i64 n3, .string s3, .slice N3 nn3 nc3, .slice (some ad) 2 c3]) (by simp)).1.cell 5)))
  first | (refine wpAnyH_take (i := 0) (v := _) rfl (by kernel_rfl) (by kernel_rfl) (by kernel_rfl) (fun _ _ _ h => h) (Or.inr ⟨?_, rfl⟩) (by assumption) ?_; rfl) | (refine wpAnyH_take (i := 0) (v := ?_) rfl (by kernel_rfl) (by kernel_rfl) (by kernel_rfl) (fun _ _ _ h => h) (Or.inl ⟨?_, ?_⟩) (by assumption) ?_; rotate_left; rfl; focus (intro w hSw; (try dsimp only at hSw); go_simp; all_goals (with_reducible rfl)))
  (try simp only [List.getElem_toArray, List.getElem_cons_zero, List.getElem_cons_succ, Act.put, List.setIfInBounds_toArray, List.set_cons_zero, List.set_cons_succ])
  first | (refine wpAnyH_take (i := 1) (v := _) rfl (by kernel_rfl) (by kernel_rfl) (by kernel_rfl) (fun _ _ _ h => h) (Or.inr ⟨?_, rfl⟩) (by assumption) ?_; rfl) | (refine wpAnyH_take (i := 1) (v := ?_) rfl (by kernel_rfl) (by kernel_rfl) (by kernel_rfl) (fun _ _ _ h => h) (Or.inl ⟨?_, ?_⟩) (by assumption) ?_; rotate_left; rfl; focus (intro w hSw; (try dsimp only at hSw); go_simp; all_goals (with_reducible rfl)))
  (try simp only [List.getElem_toArray, List.getElem_cons_zero, List.getElem_cons_succ, Act.put, List.setIfInBounds_toArray, List.set_cons_zero, List.set_cons_succ])
  first | (refine wpAnyH_take (i := 2) (v := _) rfl (by kernel_rfl) (by kernel_rfl) (by kernel_rfl) (fun _ _ _ h => h) (Or.inr ⟨?_, rfl⟩) (by assumption) ?_; rfl) | (refine wpAnyH_take (i := 2) (v := ?_) rfl (by kernel_rfl) (by kernel_rfl) (by kernel_rfl) (fun _ _ _ h => h) (Or.inl ⟨?_, ?_⟩) (by assumption) ?_; rotate_left; rfl; focus (intro w hSw; (try dsimp only at hSw); go_simp; all_goals (with_reducible rfl)))
  (try simp only [List.getElem_toArray, List.getElem_cons_zero, List.getElem_cons_succ, Act.put, List.setIfInBounds_toArray, List.set_cons_zero, List.set_cons_succ])
  refine wpAnyH_take (i := 3) (v := _) rfl (by kernel_rfl) (by kernel_rfl) (by kernel_rfl) (fun _ _ _ h => h) (yieldsIf_load_jv (by rfl) _ rfl ⟨gx, 0, none⟩ rfl _ _ _ _ _ _ (fun w h => h.1)) (by assumption) ?_
  (try simp only [List.getElem_toArray, List.getElem_cons_zero, List.getElem_cons_succ, Act.put, List.setIfInBounds_toArray, List.set_cons_zero, List.set_cons_succ])
  refine wpAnyH_take (i := 4) (v := _) rfl (by kernel_rfl) (by kernel_rfl) (by kernel_rfl) (fun _ _ _ h => h) (yieldsIf_load_jv (by rfl) _ rfl ⟨gv, 0, none⟩ rfl _ _ _ _ _ _ (fun w h => h.2.1)) (by assumption) ?_
  (try simp only [List.getElem_toArray, List.getElem_cons_zero, List.getElem_cons_succ, Act.put, List.setIfInBounds_toArray, List.set_cons_zero, List.set_cons_succ])
  refine wpAnyH_ready (rs := [5]) (by kernel_rfl) (by simp) ?_
  refine AllReadyH.cons rfl (fun K hK => ?_) AllReadyH.nil
  go_simp
  refine (same_all v v [.int .i64 k2, .bool b2, .int .i64 n2, .string s2, .slice N2 nn2 nc2, .slice A2 m2 c2] [.int .i64 k1, .bool b1, .int .i64 n1, .string s1, .slice N1 nn1 nc1, .slice A1 m1 c1] W8 (HA8.out.vals (gx, v, [.int .i64 k2, .bool b2, .int .i64 n2, .string s2, .slice N2 nn2 nc2, .slice A2 m2 c2]) (by simp)).2 (HA8.out.vals (gv, v, [.int .i64 k1, .bool b1, .int .i64 n1, .string s1, .slice N1 nn1 nc1, .slice A1 m1 c1]) (by simp)).2).mono ?_
  rintro _ W9 ⟨rfl, hb⟩
  rw [(sameJ_iff v v).2 rfl]
  go_simp
  replace HA8 := Lib.hid (HA8.out.next hb)
  replace HVK := Lib.hid (HVK.out.below hb)
  replace HCK := Lib.hid (show ∀ j t, ([.int .i64 k4, .bool b4, .int .i64 n4, .string s4, .slice N4 nn4 nc4, .slice A4 m4 c4] : List Value)[j]? = some t → W9.cell? (ad.add j) = some t from fun j t h => (hb.cell (by rw [block_of_add]; exact hadl8)).trans (HCK.out j t h))
  replace hadl8 : ad.block < W9.heap.size := Nat.lt_of_lt_of_le hadl8 hb.size
  have hS1 := And.intro (HA8.out.cells (g := gx) (v := v) (cs := [.int .i64 k2, .bool b2, .int .i64 n2, .string s2, .slice N2 nn2 nc2, .slice A2 m2 c2]) (by simp)) (And.intro (HA8.out.cells (g := gv) (v := v) (cs := [.int .i64 k1, .bool b1, .int .i64 n1, .string s1, .slice N1 nn1 nc1, .slice A1 m1 c1]) (by simp)) (And.intro HCK.out ((HA8.out.vals (gy, pairJ v, [.int .i64 k3, .bool b3, .int .i64 n3, .string s3, .slice N3 nn3 nc3, .slice (some ad) 2 c3]) (by simp)).1.cell 5)))
  refine hK.out _ _ hS1 (fun hHeld2 => ?_)
  clear hK K hb hS1 hHeld
  have hHeld := hHeld2
  clear hHeld2
  (try simp only [List.getElem_toArray, List.getElem_cons_zero, List.getElem_cons_succ, Act.put, List.setIfInBounds_toArray, List.set_cons_zero, List.set_cons_succ])
  first | (refine wpAnyH_take (i := 6) (v := _) rfl (by kernel_rfl) (by kernel_rfl) (by kernel_rfl) (fun _ _ _ h => h) (Or.inr ⟨?_, rfl⟩) (by assumption) ?_; rfl) | (refine wpAnyH_take (i := 6) (v := ?_) rfl (by kernel_rfl) (by kernel_rfl) (by kernel_rfl) (fun _ _ _ h => h) (Or.inl ⟨?_, ?_⟩) (by assumption) ?_; rotate_left; rfl; focus (intro w hSw; (try dsimp only at hSw); go_simp; all_goals (with_reducible rfl)))
  (try simp only [List.getElem_toArray, List.getElem_cons_zero, List.getElem_cons_succ, Act.put, List.setIfInBounds_toArray, List.set_cons_zero, List.set_cons_succ])
  first | (refine wpAnyH_take (i := 7) (v := _) rfl (by kernel_rfl) (by kernel_rfl) (by kernel_rfl) (fun _ _ _ h => h) (Or.inr ⟨?_, rfl⟩) (by assumption) ?_; rfl) | (refine wpAnyH_take (i := 7) (v := ?_) rfl (by kernel_rfl) (by kernel_rfl) (by kernel_rfl) (fun _ _ _ h => h) (Or.inl ⟨?_, ?_⟩) (by assumption) ?_; rotate_left; rfl; focus (intro w hSw; (try dsimp only at hSw); go_simp; all_goals (with_reducible rfl)))
  (try simp only [List.getElem_toArray, List.getElem_cons_zero, List.getElem_cons_succ, Act.put, List.setIfInBounds_toArray, List.set_cons_zero, List.set_cons_succ])
  first | (refine wpAnyH_take (i := 8) (v := _) rfl (by kernel_rfl) (by kernel_rfl) (by kernel_rfl) (fun _ _ _ h => h) (Or.inr ⟨?_, rfl⟩) (by assumption) ?_; rfl) | (refine wpAnyH_take (i := 8) (v := ?_) rfl (by kernel_rfl) (by kernel_rfl) (by kernel_rfl) (fun _ _ _ h => h) (Or.inl ⟨?_, ?_⟩) (by assumption) ?_; rotate_left; rfl; focus (intro w hSw; (try dsimp only at hSw); go_simp; all_goals (with_reducible rfl)))
  (try simp only [List.getElem_toArray, List.getElem_cons_zero, List.getElem_cons_succ, Act.put, List.setIfInBounds_toArray, List.set_cons_zero, List.set_cons_succ])
  refine wpAnyH_take (i := 9) (v := _) rfl (by kernel_rfl) (by kernel_rfl) (by kernel_rfl) (fun _ _ _ h => h) (yieldsIf_load_jv (by rfl) _ rfl ⟨gx, 0, none⟩ rfl _ _ _ _ _ _ (fun w h => h.1)) (by assumption) ?_
  (try simp only [List.getElem_toArray, List.getElem_cons_zero, List.getElem_cons_succ, Act.put, List.setIfInBounds_toArray, List.set_cons_zero, List.set_cons_succ])
  refine wpAnyH_take (i := 10) (v := _) rfl (by kernel_rfl) (by kernel_rfl) (by kernel_rfl) (fun _ _ _ h => h) (yieldsIf_load_jv (by rfl) _ rfl ⟨gv, 0, none⟩ rfl _ _ _ _ _ _ (fun w h => h.2.1)) (by assumption) ?_
  (try simp only [List.getElem_toArray, List.getElem_cons_zero, List.getElem_cons_succ, Act.put, List.setIfInBounds_toArray, List.set_cons_zero, List.set_cons_succ])
  refine wpAnyH_ready (rs := [11]) (by kernel_rfl) (by simp) ?_
  refine AllReadyH.cons rfl (fun K hK => ?_) AllReadyH.nil
  go_simp
  refine (rsame_all v v [.int .i64 k2, .bool b2, .int .i64 n2, .string s2, .slice N2 nn2 nc2, .slice A2 m2 c2] [.int .i64 k1, .bool b1, .int .i64 n1, .string s1, .slice N1 nn1 nc1, .slice A1 m1 c1] W9 (HA8.out.vals (gx, v, [.int .i64 k2, .bool b2, .int .i64 n2, .string s2, .slice N2 nn2 nc2, .slice A2 m2 c2]) (by simp)).2 (HA8.out.vals (gv, v, [.int .i64 k1, .bool b1, .int .i64 n1, .string s1, .slice N1 nn1 nc1, .slice A1 m1 c1]) (by simp)).2).mono ?_
  rintro _ W10 ⟨rfl, hb⟩
  rw [(sameJ_iff v v).2 rfl]
  go_simp
  replace HA8 := Lib.hid (HA8.out.next hb)
  replace HVK := Lib.hid (HVK.out.below hb)
  replace HCK := Lib.hid (show ∀ j t, ([.int .i64 k4, .bool b4, .int .i64 n4, .string s4, .slice N4 nn4 nc4, .slice A4 m4 c4] : List Value)[j]? = some t → W10.cell? (ad.add j) = some t from fun j t h => (hb.cell (by rw [block_of_add]; exact hadl8)).trans (HCK.out j t h))
  replace hadl8 : ad.block < W10.heap.size := Nat.lt_of_lt_of_le hadl8 hb.size
  have hS1 := And.intro (HA8.out.cells (g := gx) (v := v) (cs := [.int .i64 k2, .bool b2, .int .i64 n2, .string s2, .slice N2 nn2 nc2, .slice A2 m2 c2]) (by simp)) (And.intro (HA8.out.cells (g := gv) (v := v) (cs := [.int .i64 k1, .bool b1, .int .i64 n1, .string s1, .slice N1 nn1 nc1, .slice A1 m1 c1]) (by simp)) (And.intro HCK.out ((HA8.out.vals (gy, pairJ v, [.int .i64 k3, .bool b3, .int .i64 n3, .string s3, .slice N3 nn3 nc3, .slice (some ad) 2 c3]) (by simp)).1.cell 5)))
  refine hK.out _ _ hS1 (fun hHeld2 => ?_)
  clear hK K hb hS1 hHeld
  have hHeld := hHeld2
  clear hHeld2
  (try simp only [List.getElem_toArray, List.getElem_cons_zero, List.getElem_cons_succ, Act.put, List.setIfInBounds_toArray, List.set_cons_zero, List.set_cons_succ])
  first | (refine wpAnyH_take (i := 12) (v := _) rfl (by kernel_rfl) (by kernel_rfl) (by kernel_rfl) (fun _ _ _ h => h) (Or.inr ⟨?_, rfl⟩) (by assumption) ?_; rfl) | (refine wpAnyH_take (i := 12) (v := ?_) rfl (by kernel_rfl) (by kernel_rfl) (by kernel_rfl) (fun _ _ _ h => h) (Or.inl ⟨?_, ?_⟩) (by assumption) ?_; rotate_left; rfl; focus (intro w hSw; (try dsimp only at hSw); go_simp; all_goals (with_reducible rfl)))
  (try simp only [List.getElem_toArray, List.getElem_cons_zero, List.getElem_cons_succ, Act.put, List.setIfInBounds_toArray, List.set_cons_zero, List.set_cons_succ])
  first | (refine wpAnyH_take (i := 13) (v := _) rfl (by kernel_rfl) (by kernel_rfl) (by kernel_rfl) (fun _ _ _ h => h) (Or.inr ⟨?_, rfl⟩) (by assumption) ?_; rfl) | (refine wpAnyH_take (i := 13) (v := ?_) rfl (by kernel_rfl) (by kernel_rfl) (by kernel_rfl) (fun _ _ _ h => h) (Or.inl ⟨?_, ?_⟩) (by assumption) ?_; rotate_left; rfl; focus (intro w hSw; (try dsimp only at hSw); go_simp; all_goals (with_reducible rfl)))
  (try simp only [List.getElem_toArray, List.getElem_cons_zero, List.getElem_cons_succ, Act.put, List.setIfInBounds_toArray, List.set_cons_zero, List.set_cons_succ])
  first | (refine wpAnyH_take (i := 14) (v := _) rfl (by kernel_rfl) (by kernel_rfl) (by kernel_rfl) (fun _ _ _ h => h) (Or.inr ⟨?_, rfl⟩) (by assumption) ?_; rfl) | (refine wpAnyH_take (i := 14) (v := ?_) rfl (by kernel_rfl) (by kernel_rfl) (by kernel_rfl) (fun _ _ _ h => h) (Or.inl ⟨?_, ?_⟩) (by assumption) ?_; rotate_left; rfl; focus (intro w hSw; (try dsimp only at hSw); go_simp; all_goals (with_reducible rfl)))
  (try simp only [List.getElem_toArray, List.getElem_cons_zero, List.getElem_cons_succ, Act.put, List.setIfInBounds_toArray, List.set_cons_zero, List.set_cons_succ])
  first | (refine wpAnyH_take (i := 15) (v := _) rfl (by kernel_rfl) (by kernel_rfl) (by kernel_rfl) (fun _ _ _ h => h) (Or.inr ⟨?_, rfl⟩) (by assumption) ?_; rfl) | (refine wpAnyH_take (i := 15) (v := ?_) rfl (by kernel_rfl) (by kernel_rfl) (by kernel_rfl) (fun _ _ _ h => h) (Or.inl ⟨?_, ?_⟩) (by assumption) ?_; rotate_left; rfl; focus (intro w hSw; (try dsimp only at hSw); go_simp; all_goals (with_reducible rfl)))
  (try simp only [List.getElem_toArray, List.getElem_cons_zero, List.getElem_cons_succ, Act.put, List.setIfInBounds_toArray, List.set_cons_zero, List.set_cons_succ])
  first | (refine wpAnyH_take (i := 16) (v := _) rfl (by kernel_rfl) (by kernel_rfl) (by kernel_rfl) (fun _ _ _ h => h) (Or.inr ⟨?_, rfl⟩) (by assumption) ?_; rfl) | (refine wpAnyH_take (i := 16) (v := ?_) rfl (by kernel_rfl) (by kernel_rfl) (by kernel_rfl) (fun _ _ _ h => h) (Or.inl ⟨?_, ?_⟩) (by assumption) ?_; rotate_left; rfl; focus (intro w hSw; (try dsimp only at hSw); go_simp; all_goals (with_reducible rfl)))
  (try simp only [List.getElem_toArray, List.getElem_cons_zero, List.getElem_cons_succ, Act.put, List.setIfInBounds_toArray, List.set_cons_zero, List.set_cons_succ])
  first | (refine wpAnyH_take (i := 17) (v := _) rfl (by kernel_rfl) (by kernel_rfl) (by kernel_rfl) (fun _ _ _ h => h) (Or.inr ⟨?_, rfl⟩) (by assumption) ?_; rfl) | (refine wpAnyH_take (i := 17) (v := ?_) rfl (by kernel_rfl) (by kernel_rfl) (by kernel_rfl) (fun _ _ _ h => h) (Or.inl ⟨?_, ?_⟩) (by assumption) ?_; rotate_left; rfl; focus (intro w hSw; (try dsimp only at hSw); go_simp; all_goals (with_reducible rfl)))
  (try simp only [List.getElem_toArray, List.getElem_cons_zero, List.getElem_cons_succ, Act.put, List.setIfInBounds_toArray, List.set_cons_zero, List.set_cons_succ])
  first | (refine wpAnyH_take (i := 18) (v := _) rfl (by kernel_rfl) (by kernel_rfl) (by kernel_rfl) (fun _ _ _ h => h) (Or.inr ⟨?_, rfl⟩) (by assumption) ?_; rfl) | (refine wpAnyH_take (i := 18) (v := ?_) rfl (by kernel_rfl) (by kernel_rfl) (by kernel_rfl) (fun _ _ _ h => h) (Or.inl ⟨?_, ?_⟩) (by assumption) ?_; rotate_left; rfl; focus (intro w hSw; (try dsimp only at hSw); go_simp; all_goals (with_reducible rfl)))
  (try simp only [List.getElem_toArray, List.getElem_cons_zero, List.getElem_cons_succ, Act.put, List.setIfInBounds_toArray, List.set_cons_zero, List.set_cons_succ])
  first | (refine wpAnyH_take (i := 19) (v := _) rfl (by kernel_rfl) (by kernel_rfl) (by kernel_rfl) (fun _ _ _ h => h) (Or.inr ⟨?_, rfl⟩) (by assumption) ?_; rfl) | (refine wpAnyH_take (i := 19) (v := ?_) rfl (by kernel_rfl) (by kernel_rfl) (by kernel_rfl) (fun _ _ _ h => h) (Or.inl ⟨?_, ?_⟩) (by assumption) ?_; rotate_left; rfl; focus (intro w hSw; (try dsimp only at hSw); go_simp; all_goals (with_reducible rfl)))
  (try simp only [List.getElem_toArray, List.getElem_cons_zero, List.getElem_cons_succ, Act.put, List.setIfInBounds_toArray, List.set_cons_zero, List.set_cons_succ])
  first | (refine wpAnyH_take (i := 20) (v := _) rfl (by kernel_rfl) (by kernel_rfl) (by kernel_rfl) (fun _ _ _ h => h) (Or.inr ⟨?_, rfl⟩) (by assumption) ?_; rfl) | (refine wpAnyH_take (i := 20) (v := ?_) rfl (by kernel_rfl) (by kernel_rfl) (by kernel_rfl) (fun _ _ _ h => h) (Or.inl ⟨?_, ?_⟩) (by assumption) ?_; rotate_left; rfl; focus (intro w hSw; (try dsimp only at hSw); go_simp; all_goals (with_reducible rfl)))
  (try simp only [List.getElem_toArray, List.getElem_cons_zero, List.getElem_cons_succ, Act.put, List.setIfInBounds_toArray, List.set_cons_zero, List.set_cons_succ])
  first | (refine wpAnyH_take (i := 21) (v := _) rfl (by kernel_rfl) (by kernel_rfl) (by kernel_rfl) (fun _ _ _ h => h) (Or.inr ⟨?_, rfl⟩) (by assumption) ?_; rfl) | (refine wpAnyH_take (i := 21) (v := ?_) rfl (by kernel_rfl) (by kernel_rfl) (by kernel_rfl) (fun _ _ _ h => h) (Or.inl ⟨?_, ?_⟩) (by assumption) ?_; rotate_left; rfl; focus (intro w hSw; (try dsimp only at hSw); go_simp; all_goals (with_reducible rfl)))
  (try simp only [List.getElem_toArray, List.getElem_cons_zero, List.getElem_cons_succ, Act.put, List.setIfInBounds_toArray, List.set_cons_zero, List.set_cons_succ])
  first | (refine wpAnyH_take (i := 22) (v := _) rfl (by kernel_rfl) (by kernel_rfl) (by kernel_rfl) (fun _ _ _ h => h) (Or.inr ⟨?_, rfl⟩) (by assumption) ?_; rfl) | (refine wpAnyH_take (i := 22) (v := ?_) rfl (by kernel_rfl) (by kernel_rfl) (by kernel_rfl) (fun _ _ _ h => h) (Or.inl ⟨?_, ?_⟩) (by assumption) ?_; rotate_left; rfl; focus (intro w hSw; (try dsimp only at hSw); go_simp; all_goals (with_reducible rfl)))
  (try simp only [List.getElem_toArray, List.getElem_cons_zero, List.getElem_cons_succ, Act.put, List.setIfInBounds_toArray, List.set_cons_zero, List.set_cons_succ])
  first | (refine wpAnyH_take (i := 23) (v := _) rfl (by kernel_rfl) (by kernel_rfl) (by kernel_rfl) (fun _ _ _ h => h) (Or.inr ⟨?_, rfl⟩) (by assumption) ?_; rfl) | (refine wpAnyH_take (i := 23) (v := ?_) rfl (by kernel_rfl) (by kernel_rfl) (by kernel_rfl) (fun _ _ _ h => h) (Or.inl ⟨?_, ?_⟩) (by assumption) ?_; rotate_left; rfl; focus (intro w hSw; (try dsimp only at hSw); go_simp; all_goals (with_reducible rfl)))
  (try simp only [List.getElem_toArray, List.getElem_cons_zero, List.getElem_cons_succ, Act.put, List.setIfInBounds_toArray, List.set_cons_zero, List.set_cons_succ])
  first | (refine wpAnyH_take (i := 24) (v := _) rfl (by kernel_rfl) (by kernel_rfl) (by kernel_rfl) (fun _ _ _ h => h) (Or.inr ⟨?_, rfl⟩) (by assumption) ?_; rfl) | (refine wpAnyH_take (i := 24) (v := ?_) rfl (by kernel_rfl) (by kernel_rfl) (by kernel_rfl) (fun _ _ _ h => h) (Or.inl ⟨?_, ?_⟩) (by assumption) ?_; rotate_left; rfl; focus (intro w hSw; (try dsimp only at hSw); go_simp; all_goals (with_reducible rfl)))
  (try simp only [List.getElem_toArray, List.getElem_cons_zero, List.getElem_cons_succ, Act.put, List.setIfInBounds_toArray, List.set_cons_zero, List.set_cons_succ])
  first | (refine wpAnyH_take (i := 25) (v := _) rfl (by kernel_rfl) (by kernel_rfl) (by kernel_rfl) (fun _ _ _ h => h) (Or.inr ⟨?_, rfl⟩) (by assumption) ?_; rfl) | (refine wpAnyH_take (i := 25) (v := ?_) rfl (by kernel_rfl) (by kernel_rfl) (by kernel_rfl) (fun _ _ _ h => h) (Or.inl ⟨?_, ?_⟩) (by assumption) ?_; rotate_left; rfl; focus (intro w hSw; (try dsimp only at hSw); go_simp; all_goals (with_reducible rfl)))
  (try simp only [List.getElem_toArray, List.getElem_cons_zero, List.getElem_cons_succ, Act.put, List.setIfInBounds_toArray, List.set_cons_zero, List.set_cons_succ])
  first | (refine wpAnyH_take (i := 26) (v := _) rfl (by kernel_rfl) (by kernel_rfl) (by kernel_rfl) (fun _ _ _ h => h) (Or.inr ⟨?_, rfl⟩) (by assumption) ?_; rfl) | (refine wpAnyH_take (i := 26) (v := ?_) rfl (by kernel_rfl) (by kernel_rfl) (by kernel_rfl) (fun _ _ _ h => h) (Or.inl ⟨?_, ?_⟩) (by assumption) ?_; rotate_left; rfl; focus (intro w hSw; (try dsimp only at hSw); go_simp; all_goals (with_reducible rfl)))
  (try simp only [List.getElem_toArray, List.getElem_cons_zero, List.getElem_cons_succ, Act.put, List.setIfInBounds_toArray, List.set_cons_zero, List.set_cons_succ])
  first | (refine wpAnyH_take (i := 27) (v := _) rfl (by kernel_rfl) (by kernel_rfl) (by kernel_rfl) (fun _ _ _ h => h) (Or.inr ⟨?_, rfl⟩) (by assumption) ?_; rfl) | (refine wpAnyH_take (i := 27) (v := ?_) rfl (by kernel_rfl) (by kernel_rfl) (by kernel_rfl) (fun _ _ _ h => h) (Or.inl ⟨?_, ?_⟩) (by assumption) ?_; rotate_left; rfl; focus (intro w hSw; (try dsimp only at hSw); go_simp; all_goals (with_reducible rfl)))
  (try simp only [List.getElem_toArray, List.getElem_cons_zero, List.getElem_cons_succ, Act.put, List.setIfInBounds_toArray, List.set_cons_zero, List.set_cons_succ])
  refine wpAnyH_take (i := 28) (v := _) rfl (by kernel_rfl) (by kernel_rfl) (by kernel_rfl) (fun _ _ _ h => h) (yieldsIf_load_jv (by rfl) _ rfl ad rfl _ _ _ _ _ _ (fun w h => h.2.2.1)) (by assumption) ?_
  (try simp only [List.getElem_toArray, List.getElem_cons_zero, List.getElem_cons_succ, Act.put, List.setIfInBounds_toArray, List.set_cons_zero, List.set_cons_succ])
  refine wpAnyH_take (i := 29) (v := _) rfl (by kernel_rfl) (by kernel_rfl) (by kernel_rfl) (fun _ _ _ h => h) (yieldsIf_load_jv (by rfl) _ rfl ⟨gv, 0, none⟩ rfl _ _ _ _ _ _ (fun w h => h.2.1)) (by assumption) ?_
  (try simp only [List.getElem_toArray, List.getElem_cons_zero, List.getElem_cons_succ, Act.put, List.setIfInBounds_toArray, List.set_cons_zero, List.set_cons_succ])
  refine wpAnyH_ready (rs := [30]) (by kernel_rfl) (by simp) ?_
  refine AllReadyH.cons rfl (fun K hK => ?_) AllReadyH.nil
  go_simp
  refine (rsame_all v v [.int .i64 k4, .bool b4, .int .i64 n4, .string s4, .slice N4 nn4 nc4, .slice A4 m4 c4] [.int .i64 k1, .bool b1, .int .i64 n1, .string s1, .slice N1 nn1 nc1, .slice A1 m1 c1] W10 HVK.out (HA8.out.vals (gv, v, [.int .i64 k1, .bool b1, .int .i64 n1, .string s1, .slice N1 nn1 nc1, .slice A1 m1 c1]) (by simp)).2).mono ?_
  rintro _ W11 ⟨rfl, hb⟩
  rw [(sameJ_iff v v).2 rfl]
  go_simp
  replace HA8 := Lib.hid (HA8.out.next hb)
  replace HVK := Lib.hid (HVK.out.below hb)
  replace HCK := Lib.hid (show ∀ j t, ([.int .i64 k4, .bool b4, .int .i64 n4, .string s4, .slice N4 nn4 nc4, .slice A4 m4 c4] : List Value)[j]? = some t → W11.cell? (ad.add j) = some t from fun j t h => (hb.cell (by rw [block_of_add]; exact hadl8)).trans (HCK.out j t h))
  replace hadl8 : ad.block < W11.heap.size := Nat.lt_of_lt_of_le hadl8 hb.size
  have hS1 := And.intro (HA8.out.cells (g := gx) (v := v) (cs := [.int .i64 k2, .bool b2, .int .i64 n2, .string s2, .slice N2 nn2 nc2, .slice A2 m2 c2]) (by simp)) (And.intro (HA8.out.cells (g := gv) (v := v) (cs := [.int .i64 k1, .bool b1, .int .i64 n1, .string s1, .slice N1 nn1 nc1, .slice A1 m1 c1]) (by simp)) (And.intro HCK.out ((HA8.out.vals (gy, pairJ v, [.int .i64 k3, .bool b3, .int .i64 n3, .string s3, .slice N3 nn3 nc3, .slice (some ad) 2 c3]) (by simp)).1.cell 5)))
  refine hK.out _ _ hS1 (fun hHeld2 => ?_)
  clear hK K hb hS1 hHeld
  have hHeld := hHeld2
  clear hHeld2
  (try simp only [List.getElem_toArray, List.getElem_cons_zero, List.getElem_cons_succ, Act.put, List.setIfInBounds_toArray, List.set_cons_zero, List.set_cons_succ])
  first | (refine wpAnyH_take (i := 31) (v := _) rfl (by kernel_rfl) (by kernel_rfl) (by kernel_rfl) (fun _ _ _ h => h) (Or.inr ⟨?_, rfl⟩) (by assumption) ?_; rfl) | (refine wpAnyH_take (i := 31) (v := ?_) rfl (by kernel_rfl) (by kernel_rfl) (by kernel_rfl) (fun _ _ _ h => h) (Or.inl ⟨?_, ?_⟩) (by assumption) ?_; rotate_left; rfl; focus (intro w hSw; (try dsimp only at hSw); go_simp; all_goals (with_reducible rfl)))
  (try simp only [List.getElem_toArray, List.getElem_cons_zero, List.getElem_cons_succ, Act.put, List.setIfInBounds_toArray, List.set_cons_zero, List.set_cons_succ])
  first | (refine wpAnyH_take (i := 32) (v := _) rfl (by kernel_rfl) (by kernel_rfl) (by kernel_rfl) (fun _ _ _ h => h) (Or.inr ⟨?_, rfl⟩) (by assumption) ?_; rfl) | (refine wpAnyH_take (i := 32) (v := ?_) rfl (by kernel_rfl) (by kernel_rfl) (by kernel_rfl) (fun _ _ _ h => h) (Or.inl ⟨?_, ?_⟩) (by assumption) ?_; rotate_left; rfl; focus (intro w hSw; (try dsimp only at hSw); go_simp; all_goals (with_reducible rfl)))
  (try simp only [List.getElem_toArray, List.getElem_cons_zero, List.getElem_cons_succ, Act.put, List.setIfInBounds_toArray, List.set_cons_zero, List.set_cons_succ])
  refine wpAnyH_done (by kernel_rfl) ?_ _
  clear hHeld
  go_wp2_with fail
  refine (text12_walk zs A c 14 (by decide) W11 (HR.out.below HA8.out.below)).mono ?_
  rintro _ W12 ⟨t, hts, rfl, hb⟩
  have hM := ((HA8.out.next hb).sub (L' := []) (M' := []) (by simp) (by simp)).block 9 #[.string x, .string t]
  clear hb HA8 HVK HCK hadl8 HSM HSM2 HPB HPV HPVL
  go_wp2_with fail
  generalize W12.alloc (.cells #[.string x, .string t] 9) = W13 at hM ⊢
  generalize W12.heap.size = gl at hM ⊢
  have HA := Lib.hid hM
  clear hM
  go_loopw [11] (fun iv wr => ∃ i : Nat, i ≤ 2 ∧ iv = .int .i64 (i : Int) ∧ Hid (StA w [] [(gl, 9, #[.string x, .string t])] wr)) (fun iv _ => 2 - (intOf iv).toNat)
  case atStart => exact ⟨0, by omega, rfl, HA⟩
  case round =>
    clear HA
    obtain ⟨i, hi2, rfl, HA⟩ := hrel
    by_cases hi : i < 2
    case neg =>
      have gi : decide ((i : Int) < 2) = false := by simp; omega
      have gi' : decide (i < 2) = false := by simp; omega
      go_wp2_with fail
      go_ret
      exact ⟨rfl, HA.out.below⟩
    have gi : decide ((i : Int) < 2) = true := by simp; omega
    have gi' : decide (i < 2) = true := by simp; omega
    have giI : (i : Int) < 2 := by omega
    obtain ⟨y, hy, hys⟩ := two_at x t i hi hx hts
    have hcy : wr.cell? ⟨gl, i, none⟩ = some (.string y) := ((HA.out.blks (gl, 9, #[.string x, .string t]) (by simp)).cell i).trans hy
    clear hy
    obtain ⟨er, z, hpz⟩ : ∃ er z, parseL y.data.toList = (er, z) := ⟨_, _, rfl⟩
    by_cases her : er = 0
    · subst her
      have hmz := parse_may hpz
      have hsz := parse_sz hpz
      have hyl : y.data.toList.length = y.size := by simp
      have hpj : printJ z = jprint z := if_pos hmz
      have HPB := Lib.hid (parse_back hmz)
      have HSM := Lib.hid (smJ_of_may z 0 hmz (by omega))
      have hple := jprint_le z HSM.out
      obtain ⟨pz, hpz2, hpzs⟩ := mk_name (jprint z) (n := 8400) (by omega)
      have HPL : Hid (pz.data.toList = jprint z) := by show _ = _; rw [← hpz2]
      have cpr := Lib.hid (fun W (hT : Tab W) cs (hj : JvV W 0 z cs) => print_walk z cs W HSM.out (by omega) hT hj)
      rw [hpj, hpz2] at cpr
      have HPZ := Lib.hid hpz
      have HMZ := Lib.hid hmz
      clear hpj hple hpz2 hsz hyl hpz hmz
      go_wp2_with fail
      refine (parse_okw y _ z rfl HPZ.out (by omega) wr HA.out.laid).mono ?_
      rintro _ w5 ⟨cs5, rfl, hv5, hb5⟩
      obtain ⟨k5, b5, n5, s5, N5, nn5, nc5, A5, m5, c5, rfl⟩ := hv5.form
      have HA5 := Lib.hid ((HA.out.next hb5).value hv5)
      clear hb5 hv5 HA hcy
      obtain ⟨l0, l1, l2, l3, l4, l5⟩ := six_cells (HA5.out.vals (w5.heap.size, z, [.int .i64 k5, .bool b5, .int .i64 n5, .string s5, .slice N5 nn5 nc5, .slice A5 m5 c5]) (by simp)).1
      go_wp2_with (refine wpList_load_at rfl 27 _ rfl ⟨w5.heap.size, 0, none⟩ rfl [.int .i64 k5, .bool b5, .int .i64 n5, .string s5, .slice N5 nn5 nc5, .slice A5 m5 c5] _ (blk_cells (HA5.out.vals (w5.heap.size, z, [.int .i64 k5, .bool b5, .int .i64 n5, .string s5, .slice N5 nn5 nc5, .slice A5 m5 c5]) (by simp)).1) Tryd.underlying27 rfl jv_size ?_)
      generalize w5.heap.size = gz at HA5 l0 l1 l2 l3 l4 l5 ⊢
      generalize w5.alloc (.cells #[.int .i64 k5, .bool b5, .int .i64 n5, .string s5, .slice N5 nn5 nc5, .slice A5 m5 c5] 27) = W5 at HA5 l0 l1 l2 l3 l4 l5 ⊢
      refine (cpr.out W5 HA5.out.laid.tab _ (HA5.out.vals (gz, z, [.int .i64 k5, .bool b5, .int .i64 n5, .string s5, .slice N5 nn5 nc5, .slice A5 m5 c5]) (by simp)).2).mono ?_
      rintro _ W6 ⟨rfl, hb6⟩
      have HA6 := Lib.hid (HA5.out.next hb6)
      clear hb6 HA5 l0 l1 l2 l3 l4 l5 cpr
      go_wp2_with fail
      refine (parse_okw pz _ z HPL.out HPB.out (by omega) W6 HA6.out.laid).mono ?_
      rintro _ w7 ⟨cs7, rfl, hv7, hb7⟩
      obtain ⟨k7, b7, n7, s7, N7, nn7, nc7, A7, m7, c7, rfl⟩ := hv7.form
      have HA7 := Lib.hid ((HA6.out.next hb7).value hv7)
      clear hb7 hv7 HA6
      obtain ⟨l0, l1, l2, l3, l4, l5⟩ := six_cells (HA7.out.vals (gz, z, [.int .i64 k5, .bool b5, .int .i64 n5, .string s5, .slice N5 nn5 nc5, .slice A5 m5 c5]) (by simp)).1
      go_wp2_with fail
      generalize w7.heap.size = gu at HA7 l0 l1 l2 l3 l4 l5 ⊢
      generalize w7.alloc (.cells #[.int .i64 k7, .bool b7, .int .i64 n7, .string s7, .slice N7 nn7 nc7, .slice A7 m7 c7] 27) = W7 at HA7 l0 l1 l2 l3 l4 l5 ⊢
      refine (may_walk z _ W7 HSM.out (HA7.out.vals (gz, z, [.int .i64 k5, .bool b5, .int .i64 n5, .string s5, .slice N5 nn5 nc5, .slice A5 m5 c5]) (by simp)).2).mono ?_
      rintro _ W8 ⟨rfl, hb8⟩
      rw [HMZ.out]
      have HA8 := Lib.hid (HA7.out.next hb8)
      clear hb8 HA7 l0 l1 l2 l3 l4 l5
      obtain ⟨l0, l1, l2, l3, l4, l5⟩ := six_cells (HA8.out.vals (gz, z, [.int .i64 k5, .bool b5, .int .i64 n5, .string s5, .slice N5 nn5 nc5, .slice A5 m5 c5]) (by simp)).1
      obtain ⟨r0, r1, r2, r3, r4, r5⟩ := six_cells (HA8.out.vals (gu, z, [.int .i64 k7, .bool b7, .int .i64 n7, .string s7, .slice N7 nn7 nc7, .slice A7 m7 c7]) (by simp)).1
      go_wp2_with fail
      refine (rsame_all z z [.int .i64 k7, .bool b7, .int .i64 n7, .string s7, .slice N7 nn7 nc7, .slice A7 m7 c7] [.int .i64 k5, .bool b5, .int .i64 n5, .string s5, .slice N5 nn5 nc5, .slice A5 m5 c5] W8 (HA8.out.vals (gu, z, [.int .i64 k7, .bool b7, .int .i64 n7, .string s7, .slice N7 nn7 nc7, .slice A7 m7 c7]) (by simp)).2 (HA8.out.vals (gz, z, [.int .i64 k5, .bool b5, .int .i64 n5, .string s5, .slice N5 nn5 nc5, .slice A5 m5 c5]) (by simp)).2).mono ?_
      rintro _ W9 ⟨rfl, hb9⟩
      rw [(sameJ_iff z z).2 rfl]
      have HA9 := Lib.hid ((HA8.out.next hb9).sub (L' := []) (M' := [(gl, 9, #[.string x, .string t])]) (by simp) (by simp))
      clear hb9 HA8 l0 l1 l2 l3 l4 l5 r0 r1 r2 r3 r4 r5
      go_wp2_with fail
      exact ⟨⟨i + 1, by omega, by go_num, HA9⟩, by simp [intOf]; omega⟩
    · have hz := parse_zero hpz her
      have HPZ := Lib.hid hpz
      have e1 : ((er : Int) == 0) = false := by simp; omega
      clear hpz her
      have cpr := Lib.hid (fun W (hT : Tab W) cs (hj : JvV W 0 z cs) => print_walk z cs W (by rw [hz]; exact jvZ_sm) (by rw [hz]; simp [jvZ, szJ, szJs]) hT hj)
      have hpj : printJ z = [] := by rw [hz, printJ, jvZ_may]; rfl
      rw [hpj] at cpr
      obtain ⟨pz, hpz2, hpzs⟩ := mk_name ([] : List UInt8) (n := 8400) (by decide)
      have HPL : Hid (pz.data.toList = []) := by show _ = _; rw [← hpz2]
      rw [hpz2] at cpr
      clear hpj hpz2 hz
      go_wp2_with fail
      refine (parse_erw y _ er z rfl HPZ.out (by omega) wr HA.out.laid).mono ?_
      rintro _ w5 ⟨cs5, rfl, hv5, hb5⟩
      obtain ⟨k5, b5, n5, s5, N5, nn5, nc5, A5, m5, c5, rfl⟩ := hv5.form
      have HA5 := Lib.hid ((HA.out.next hb5).value hv5)
      clear hb5 hv5 HA hcy
      obtain ⟨l0, l1, l2, l3, l4, l5⟩ := six_cells (HA5.out.vals (w5.heap.size, z, [.int .i64 k5, .bool b5, .int .i64 n5, .string s5, .slice N5 nn5 nc5, .slice A5 m5 c5]) (by simp)).1
      go_wp2_with (refine wpList_load_at rfl 27 _ rfl ⟨w5.heap.size, 0, none⟩ rfl [.int .i64 k5, .bool b5, .int .i64 n5, .string s5, .slice N5 nn5 nc5, .slice A5 m5 c5] _ (blk_cells (HA5.out.vals (w5.heap.size, z, [.int .i64 k5, .bool b5, .int .i64 n5, .string s5, .slice N5 nn5 nc5, .slice A5 m5 c5]) (by simp)).1) Tryd.underlying27 rfl jv_size ?_)
      generalize w5.heap.size = gz at HA5 l0 l1 l2 l3 l4 l5 ⊢
      generalize w5.alloc (.cells #[.int .i64 k5, .bool b5, .int .i64 n5, .string s5, .slice N5 nn5 nc5, .slice A5 m5 c5] 27) = W5 at HA5 l0 l1 l2 l3 l4 l5 ⊢
      refine (cpr.out W5 HA5.out.laid.tab _ (HA5.out.vals (gz, z, [.int .i64 k5, .bool b5, .int .i64 n5, .string s5, .slice N5 nn5 nc5, .slice A5 m5 c5]) (by simp)).2).mono ?_
      rintro _ W6 ⟨rfl, hb6⟩
      have HA6 := Lib.hid (HA5.out.next hb6)
      clear hb6 HA5 l0 l1 l2 l3 l4 l5 cpr
      go_wp2_with fail
      obtain ⟨eh, u, hpu⟩ : ∃ eh u, parseL [] = (eh, u) := ⟨_, _, rfl⟩
      have HPU := Lib.hid hpu
      clear hpu
      refine (parse_erw pz _ eh u HPL.out HPU.out (by omega) W6 HA6.out.laid).mono ?_
      rintro _ w7 ⟨cs7, rfl, hv7, hb7⟩
      obtain ⟨k7, b7, n7, s7, N7, nn7, nc7, A7, m7, c7, rfl⟩ := hv7.form
      have HA7 := Lib.hid ((HA6.out.next hb7).value hv7)
      clear hb7 hv7 HA6
      go_wp2_with fail
      exact ⟨⟨i + 1, by omega, by go_num, Lib.hid (HA7.out.sub (by simp) (by simp))⟩, by simp [intOf]; omega⟩
end Go.Proofs.YtokgkifckgnabaaDoor

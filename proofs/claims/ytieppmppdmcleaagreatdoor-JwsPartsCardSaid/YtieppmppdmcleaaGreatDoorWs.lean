/- Terms: countersignref1.order and Same. No condition of its own. -/
import Derived.Test.YtieppmppdmcleaaGreatDoorWk
import Derived.Test.YtieppmppdmcleaaGreatDoorKit
import Derived.Test.YtieppmppdmcleaaGreatDoorWl
import Derived.Deep.RegionHeld3
set_option linter.unusedVariables false
set_option linter.unusedSimpArgs false
set_option maxRecDepth 20000
namespace Go.Proofs.YtieppmppdmcleaaGreatDoor
namespace K9
section
open Go.RowKit
def signI (a b : Bool) : Int := if a then -1 else if b then 1 else 0
theorem sign_walk (a b : Bool) (w : World) : Calls Tryz.prog 61 #[.bool a, .bool b] w fun e w' => e = .returned (.int .i64 (signI a b)) ∧ w = w' := by
  cases a <;> cases b
  all_goals
    go_enter Tryz.func61, Tryz.ntmps61
    go_wp2_with fail
    go_ret
    exact ⟨rfl, rfl⟩
end
section
open Go.RowKit
section
variable {P : Program} (w : World)
end
end
section
open Go.RowKit
mutual
def ordT : Tm → Tm → Int
  | .mk k1 n1 s1 K1, .mk k2 n2 s2 K2 =>
    if signI (decide (k1 < k2)) (decide (k2 < k1)) = 0 then
      if signI (decide (n1 < n2)) (decide (n2 < n1)) = 0 then
        if signI (Op.bytesLess s1.toList s2.toList) (!Op.bytesLess s1.toList s2.toList && !s1.toList == s2.toList) = 0 then ordK K1 K2
        else signI (Op.bytesLess s1.toList s2.toList) (!Op.bytesLess s1.toList s2.toList && !s1.toList == s2.toList)
      else signI (decide (n1 < n2)) (decide (n2 < n1))
    else signI (decide (k1 < k2)) (decide (k2 < k1))
def ordK : List Tm → List Tm → Int
  | [], [] => 0
  | [], _ :: _ => -1
  | _ :: _, [] => 1
  | x :: xs, y :: ys => if ordT x y = 0 then ordK xs ys else ordT x y
end
theorem ordK_right {ks ks' : List Tm} (h : ks'.length < ks.length) : ordK (ks.drop ks'.length) [] = signI (decide (ks.length < ks'.length)) true := by
  rw [List.drop_eq_getElem_cons h, ordK, decide_eq_false (by omega)]
  rfl
theorem ordK_left {ks ks' : List Tm} (h : ks.length ≤ ks'.length) : ordK [] (ks'.drop ks.length) = signI (decide (ks.length < ks'.length)) (decide (ks'.length < ks.length)) := by
  by_cases h2 : ks.length < ks'.length
  · rw [List.drop_eq_getElem_cons h2, ordK, decide_eq_true (by omega)]
    rfl
  · rw [show ks'.drop ks.length = [] by rw [List.drop_eq_nil_iff]; omega, ordK, decide_eq_false (by omega), decide_eq_false (by omega)]
    rfl
def OrdOk (t : Tm) : Prop := ∀ (u : Tm) (cs ds : List Value) (w : World), TmV w 0 t cs → TmV w 0 u ds → 
    Calls Tryz.prog 40 #[.agg cs.toArray, .agg ds.toArray] w fun e w' => e = .returned (.int .i64 (ordT t u)) ∧ Below w.heap.size w w'
set_option maxHeartbeats 4000000 in
theorem ord_node (kind n : Int) (s : ByteArray) (kids : List Tm) (hkids : ∀ k ∈ kids, OrdOk k) : OrdOk (.mk kind n s kids) := by
  intro u cs ds w ht hu
  cases u with | mk kind' n' s' kids' =>
  rw [TmV] at ht hu
  obtain ⟨A, c, vs, rfl, h1, h2, h3, _, h5⟩ := ht
  obtain ⟨A', c', vs', rfl, h1', h2', h3', _, h5'⟩ := hu
  show Calls _ _ #[.agg #[.int .i64 kind, .int .i64 n, .string s, .slice A kids.length c], .agg #[.int .i64 kind', .int .i64 n', .string s', .slice A' kids'.length c']] _ _
  rw [ordT]
  obtain ⟨a1, e1⟩ : ∃ b, decide (kind < kind') = b := ⟨_, rfl⟩
  obtain ⟨a2, e2⟩ : ∃ b, decide (kind' < kind) = b := ⟨_, rfl⟩
  obtain ⟨a3, e3⟩ : ∃ b, decide (n < n') = b := ⟨_, rfl⟩
  obtain ⟨a4, e4⟩ : ∃ b, decide (n' < n) = b := ⟨_, rfl⟩
  obtain ⟨a5, e5⟩ : ∃ b, Op.bytesLess s.toList s'.toList = b := ⟨_, rfl⟩
  obtain ⟨a6, e6⟩ : ∃ b, (s.toList == s'.toList) = b := ⟨_, rfl⟩
  rw [e1, e2, e3, e4, e5, e6]
  generalize hR : ite (signI a1 a2 = 0) _ _ = R
  have HRR := Lib.hid hR
  clear hR
  obtain ⟨k1, hk1⟩ : ∃ k, signI a1 a2 = k := ⟨_, rfl⟩
  obtain ⟨k2, hk2⟩ : ∃ k, signI a3 a4 = k := ⟨_, rfl⟩
  obtain ⟨k3, hk3⟩ : ∃ k, signI a5 (!a5 && !a6) = k := ⟨_, rfl⟩
  have cs1 := Lib.hid (sign_walk a1 a2)
  have cs2 := Lib.hid (sign_walk a3 a4)
  have cs3 := Lib.hid (sign_walk a5 (!a5 && !a6))
  rw [hk1] at cs1
  rw [hk2] at cs2
  rw [hk3] at cs3
  rw [hk1, hk2, hk3] at HRR
  clear hk1 hk2 hk3
  have hb1 := (Below.refl w.heap.size w).alloc (Nat.le_refl _) (.cells #[.int .i64 kind, .int .i64 n, .string s, .slice A kids.length c] 41)
  have hb2 := Lib.hid (hb1.alloc hb1.size (.cells #[.int .i64 kind', .int .i64 n', .string s', .slice A' kids'.length c'] 41))
  have hx1 := (Blk.new w 41 #[.int .i64 kind, .int .i64 n, .string s, .slice A kids.length c]).alloc (.cells #[.int .i64 kind', .int .i64 n', .string s', .slice A' kids'.length c'] 41)
  have hx2 := Blk.new (w.alloc (.cells #[.int .i64 kind, .int .i64 n, .string s, .slice A kids.length c] 41)) 41 #[.int .i64 kind', .int .i64 n', .string s', .slice A' kids'.length c']
  rw [show (w.alloc (.cells #[.int .i64 kind, .int .i64 n, .string s, .slice A kids.length c] 41)).heap.size = w.heap.size + 1 by simp] at hx2
  have hS : ∀ W, Blk W w.heap.size 41 #[.int .i64 kind, .int .i64 n, .string s, .slice A kids.length c] → Blk W (w.heap.size + 1) 41 #[.int .i64 kind', .int .i64 n', .string s', .slice A' kids'.length c'] →
      (W.cell? ⟨w.heap.size, 0, none⟩ = some (.int .i64 kind) ∧ W.cell? ⟨w.heap.size, 1, none⟩ = some (.int .i64 n) ∧ W.cell? ⟨w.heap.size, 2, none⟩ = some (.string s) ∧ W.cell? ⟨w.heap.size, 3, none⟩ = some (.slice A kids.length c)) ∧
      (W.cell? ⟨w.heap.size + 1, 0, none⟩ = some (.int .i64 kind') ∧ W.cell? ⟨w.heap.size + 1, 1, none⟩ = some (.int .i64 n') ∧ W.cell? ⟨w.heap.size + 1, 2, none⟩ = some (.string s') ∧ W.cell? ⟨w.heap.size + 1, 3, none⟩ = some (.slice A' kids'.length c')) :=
    fun W h k => ⟨⟨h.cell 0, h.cell 1, h.cell 2, h.cell 3⟩, ⟨k.cell 0, k.cell 1, k.cell 2, k.cell 3⟩⟩
  have HX := Lib.hid (And.intro hx1 hx2)
  have HS0 := hS _ hx1 hx2
  obtain ⟨⟨c10, c11, c12, c13⟩, ⟨c20, c21, c22, c23⟩⟩ := HS0
  clear hS hx1 hx2 hb1
  cases g1 : k1 == 0
  · skip
    go_enter Tryz.func40, Tryz.ntmps40
    go_wp2_with fail
    refine (cs1.out _).mono ?_
    rintro _ w8 ⟨rfl, rfl⟩
    have HRc : Hid (R = if k1 = 0 then ordK (kids.drop 0) (kids'.drop 0) else k1) := by show _ = _; rw [← HRR.out]; simp only [List.drop_zero]; rw [if_neg (by simpa using g1), if_neg (by simpa using g1)]
    clear c10 c11 c12 c13 c20 c21 c22 c23 HRR cs1 cs2
    go_wp2_with fail
    go_loopw [5, 6] (fun cv iv wr => ∃ (i : Nat) (q : Int), i ≤ kids.length ∧ i ≤ kids'.length ∧ iv = .int .i64 i ∧ cv = .int .i64 q ∧ Hid (R = if q = 0 then ordK (kids.drop i) (kids'.drop i) else q) ∧ Hid (Below w.heap.size w wr) ∧ Hid (Blk wr w.heap.size 41 #[.int .i64 kind, .int .i64 n, .string s, .slice A kids.length c] ∧ Blk wr (w.heap.size + 1) 41 #[.int .i64 kind', .int .i64 n', .string s', .slice A' kids'.length c'])) (fun _ iv _ => kids.length - (intOf iv).toNat)
    case atStart => exact ⟨0, k1, by omega, by omega, rfl, rfl, HRc, hb2, HX⟩
    case round =>
      clear HRc HX hb2 cs3 g1
      obtain ⟨i, q, hi, hi', rfl, rfl, hRq, hb, hx⟩ := hrel
      have c13 : wr.cell? ⟨w.heap.size, 3, none⟩ = some (.slice A kids.length c) := hx.out.1.cell 3
      have c23 : wr.cell? ⟨w.heap.size + 1, 3, none⟩ = some (.slice A' kids'.length c') := hx.out.2.cell 3
      cases gq : q == 0
      · have hRv : Hid (R = q) := by show _ = _; rw [hRq.out, if_neg (by simpa using gq)]
        by_cases hlt : i < kids.length
        · by_cases hlt' : i < kids'.length
          · go_wp2_with fail
            go_ret
            exact ⟨by rw [hRv.out]; rfl, hb.out⟩
          · obtain rfl : i = kids'.length := by omega
            go_wp2_with fail
            go_ret
            exact ⟨by rw [hRv.out]; rfl, hb.out⟩
        · obtain rfl : i = kids.length := by omega
          go_wp2_with fail
          go_ret
          exact ⟨by rw [hRv.out]; rfl, hb.out⟩
      · obtain rfl : q = 0 := by simpa using gq
        have hRv : Hid (R = ordK (kids.drop i) (kids'.drop i)) := by show _ = _; rw [hRq.out, if_pos rfl]
        clear hRq gq
        by_cases hlt : i < kids.length
        · by_cases hlt' : i < kids'.length
          · obtain ⟨k, hk⟩ : ∃ k, kids[i]? = some k := ⟨kids[i], List.getElem?_eq_getElem hlt⟩
            obtain ⟨k', hk'⟩ : ∃ k, kids'[i]? = some k := ⟨kids'[i], List.getElem?_eq_getElem hlt'⟩
            obtain ⟨ad, v, rfl, htk, hcv⟩ := kid_at h5 h3 hk
            obtain ⟨ad', e', hadl, _⟩ := h3.2 (by omega)
            injection e' with e'
            subst e'
            obtain ⟨bd, v', rfl, htk', hcv'⟩ := kid_at h5' h3' hk'
            obtain ⟨bd', e', hbdl, _⟩ := h3'.2 (by omega)
            injection e' with e'
            subst e'
            obtain ⟨kd, nm, s2, A2, m2, c2, rfl⟩ := htk.form
            obtain ⟨kd', nm', s2', A2', m2', c2', rfl⟩ := htk'.form
            have hcw : ∀ j u, [Value.int .i64 kd, .int .i64 nm, .string s2, .slice A2 m2 c2][j]? = some u → wr.cell? ((ad.add (i * 4)).add j) = some u := fun j u hu => (hb.out.cell (by rw [block_of_add, block_of_add]; exact hadl)).trans (hcv j u hu)
            have hcw' : ∀ j u, [Value.int .i64 kd', .int .i64 nm', .string s2', .slice A2' m2' c2'][j]? = some u → wr.cell? ((bd.add (i * 4)).add j) = some u := fun j u hu => (hb.out.cell (by rw [block_of_add, block_of_add]; exact hbdl)).trans (hcv' j u hu)
            have hsn : Hid (R = if ordT k k' = 0 then ordK (kids.drop (i + 1)) (kids'.drop (i + 1)) else ordT k k') := by
              show _ = _
              obtain ⟨hi9, e9⟩ := List.getElem?_eq_some_iff.1 hk
              obtain ⟨hi8, e8⟩ := List.getElem?_eq_some_iff.1 hk'
              rw [hRv.out, List.drop_eq_getElem_cons hi9, List.drop_eq_getElem_cons hi8, e9, e8, ordK]
            have co := Lib.hid (fun W (hW : Below w.heap.size w W) => hkids k (List.mem_of_getElem? hk) k' _ _ W (htk.below hW) (htk'.below hW))
            clear hk hk' htk htk' hRv
            go_wp2_with fail
            refine wp_region_held_drew (S := fun W => W.cell? ⟨w.heap.size, 3, none⟩ = some (.slice (some ad) kids.length c) ∧ W.cell? ⟨w.heap.size + 1, 3, none⟩ = some (.slice (some bd) kids'.length c') ∧ (∀ j u, [Value.int .i64 kd, .int .i64 nm, .string s2, .slice A2 m2 c2][j]? = some u → W.cell? ((ad.add (i * 4)).add j) = some u) ∧ (∀ j u, [Value.int .i64 kd', .int .i64 nm', .string s2', .slice A2' m2' c2'][j]? = some u → W.cell? ((bd.add (i * 4)).add j) = some u)) (by kernel_rfl) ⟨c13, c23, hcw, hcw'⟩ (fun hHeld => ?_)
            first | (refine tk 0 rfl (Or.inr ⟨?_, rfl⟩) ?_; rfl) | (refine tk 0 rfl (v := ?_) (Or.inl ⟨?_, ?_⟩) ?_; rotate_left; rfl; focus (intro w hSw; (try dsimp only at hSw); go_simp; all_goals (with_reducible rfl)))
            (try simp only [nrm, Act.put])
            first | (refine tk 1 rfl (Or.inr ⟨?_, rfl⟩) ?_; rfl) | (refine tk 1 rfl (v := ?_) (Or.inl ⟨?_, ?_⟩) ?_; rotate_left; rfl; focus (intro w hSw; (try dsimp only at hSw); go_simp; all_goals (with_reducible rfl)))
            (try simp only [nrm, Act.put])
            first | (refine tk 2 rfl (Or.inr ⟨?_, rfl⟩) ?_; rfl) | (refine tk 2 rfl (v := ?_) (Or.inl ⟨?_, ?_⟩) ?_; rotate_left; rfl; focus (intro w hSw; (try dsimp only at hSw); go_simp; all_goals (with_reducible rfl)))
            (try simp only [nrm, Act.put])
            first | (refine tk 3 rfl (Or.inr ⟨?_, rfl⟩) ?_; rfl) | (refine tk 3 rfl (v := ?_) (Or.inl ⟨?_, ?_⟩) ?_; rotate_left; rfl; focus (intro w hSw; (try dsimp only at hSw); go_simp; all_goals (with_reducible rfl)))
            (try simp only [nrm, Act.put])
            refine tk 4 rfl (v := _) (yieldsIf_load_term (by rfl) _ rfl (ad.add (i * 4)) rfl _ _ _ _ (fun w h => h.2.2.1)) ?_
            (try simp only [nrm, Act.put])
            first | (refine tk 5 rfl (Or.inr ⟨?_, rfl⟩) ?_; rfl) | (refine tk 5 rfl (v := ?_) (Or.inl ⟨?_, ?_⟩) ?_; rotate_left; rfl; focus (intro w hSw; (try dsimp only at hSw); go_simp; all_goals (with_reducible rfl)))
            (try simp only [nrm, Act.put])
            first | (refine tk 6 rfl (Or.inr ⟨?_, rfl⟩) ?_; rfl) | (refine tk 6 rfl (v := ?_) (Or.inl ⟨?_, ?_⟩) ?_; rotate_left; rfl; focus (intro w hSw; (try dsimp only at hSw); go_simp; all_goals (with_reducible rfl)))
            (try simp only [nrm, Act.put])
            first | (refine tk 7 rfl (Or.inr ⟨?_, rfl⟩) ?_; rfl) | (refine tk 7 rfl (v := ?_) (Or.inl ⟨?_, ?_⟩) ?_; rotate_left; rfl; focus (intro w hSw; (try dsimp only at hSw); go_simp; all_goals (with_reducible rfl)))
            (try simp only [nrm, Act.put])
            first | (refine tk 8 rfl (Or.inr ⟨?_, rfl⟩) ?_; rfl) | (refine tk 8 rfl (v := ?_) (Or.inl ⟨?_, ?_⟩) ?_; rotate_left; rfl; focus (intro w hSw; (try dsimp only at hSw); go_simp; all_goals (with_reducible rfl)))
            (try simp only [nrm, Act.put])
            refine tk 9 rfl (v := _) (yieldsIf_load_term (by rfl) _ rfl (bd.add (i * 4)) rfl _ _ _ _ (fun w h => h.2.2.2)) ?_
            (try simp only [nrm, Act.put])
            refine wpAnyH_ready (rs := [10]) (by kernel_rfl) (by simp) ?_
            refine AllReadyH.cons rfl (fun K hK => ?_) AllReadyH.nil
            go_simp
            go_at_call 40
            with_reducible refine (co.out _ hb.out.drew).mono ?_
            rintro _ w5 ⟨rfl, hb5⟩
            have HB5 := Lib.hid (below_next hb.out.drew hb5)
            have HX5 := Lib.hid (And.intro (hx.out.1.drew.below hb5 hx.out.1.drew.lt) (hx.out.2.drew.below hb5 hx.out.2.drew.lt))
            refine hK.out _ _ ⟨HX5.out.1.cell 3, HX5.out.2.cell 3, fun j u hu => (HB5.out.cell (by rw [block_of_add, block_of_add]; exact hadl)).trans (hcv j u hu), fun j u hu => (HB5.out.cell (by rw [block_of_add, block_of_add]; exact hbdl)).trans (hcv' j u hu)⟩ (fun hHeld => ?_)
            clear hK K
            (try simp only [nrm, Act.put])
            first | (refine tk 11 rfl (Or.inr ⟨?_, rfl⟩) ?_; rfl) | (refine tk 11 rfl (v := ?_) (Or.inl ⟨?_, ?_⟩) ?_; rotate_left; rfl; focus (intro w hSw; (try dsimp only at hSw); go_simp; all_goals (with_reducible rfl)))
            (try simp only [nrm, Act.put])
            refine wpAnyH_done (by kernel_rfl) ?_ _
            clear hb5 co hHeld
            go_wp2_with fail
            exact ⟨⟨i + 1, _, by omega, by omega, by go_num, rfl, hsn, HB5, HX5⟩, by simp [intOf]; omega⟩
          · obtain rfl : i = kids'.length := by omega
            have hRw : Hid (R = signI (decide (kids.length < kids'.length)) true) := by show _ = _; rw [hRv.out, List.drop_length]; exact ordK_right hlt
            clear hRv
            go_wp2_with fail
            refine (sign_walk _ _ _).mono ?_
            rintro _ w5 ⟨rfl, rfl⟩
            go_wp2_with fail
            go_ret
            exact ⟨by rw [hRw.out]; rfl, hb.out⟩
        · obtain rfl : i = kids.length := by omega
          have hRw : Hid (R = signI (decide (kids.length < kids'.length)) (decide (kids'.length < kids.length))) := by show _ = _; rw [hRv.out, List.drop_length]; exact ordK_left hi'
          clear hRv
          go_wp2_with fail
          refine (sign_walk _ _ _).mono ?_
          rintro _ w5 ⟨rfl, rfl⟩
          go_wp2_with fail
          go_ret
          exact ⟨by rw [hRw.out]; rfl, hb.out⟩
  · cases g2 : k2 == 0
    · skip
      go_enter Tryz.func40, Tryz.ntmps40
      go_wp2_with fail
      refine (cs1.out _).mono ?_
      rintro _ w8 ⟨rfl, rfl⟩
      go_wp2_with fail
      refine (cs2.out _).mono ?_
      rintro _ w8 ⟨rfl, rfl⟩
      have HRc : Hid (R = if k2 = 0 then ordK (kids.drop 0) (kids'.drop 0) else k2) := by show _ = _; rw [← HRR.out]; simp only [List.drop_zero]; rw [if_pos (by simpa using g1), if_neg (by simpa using g2), if_neg (by simpa using g2)]
      clear c10 c11 c12 c13 c20 c21 c22 c23 HRR cs1 cs2
      go_wp2_with fail
      go_loopw [5, 6] (fun cv iv wr => ∃ (i : Nat) (q : Int), i ≤ kids.length ∧ i ≤ kids'.length ∧ iv = .int .i64 i ∧ cv = .int .i64 q ∧ Hid (R = if q = 0 then ordK (kids.drop i) (kids'.drop i) else q) ∧ Hid (Below w.heap.size w wr) ∧ Hid (Blk wr w.heap.size 41 #[.int .i64 kind, .int .i64 n, .string s, .slice A kids.length c] ∧ Blk wr (w.heap.size + 1) 41 #[.int .i64 kind', .int .i64 n', .string s', .slice A' kids'.length c'])) (fun _ iv _ => kids.length - (intOf iv).toNat)
      case atStart => exact ⟨0, k2, by omega, by omega, rfl, rfl, HRc, hb2, HX⟩
      case round =>
        clear HRc HX hb2 cs3 g1 g2
        obtain ⟨i, q, hi, hi', rfl, rfl, hRq, hb, hx⟩ := hrel
        have c13 : wr.cell? ⟨w.heap.size, 3, none⟩ = some (.slice A kids.length c) := hx.out.1.cell 3
        have c23 : wr.cell? ⟨w.heap.size + 1, 3, none⟩ = some (.slice A' kids'.length c') := hx.out.2.cell 3
        cases gq : q == 0
        · have hRv : Hid (R = q) := by show _ = _; rw [hRq.out, if_neg (by simpa using gq)]
          by_cases hlt : i < kids.length
          · by_cases hlt' : i < kids'.length
            · go_wp2_with fail
              go_ret
              exact ⟨by rw [hRv.out]; rfl, hb.out⟩
            · obtain rfl : i = kids'.length := by omega
              go_wp2_with fail
              go_ret
              exact ⟨by rw [hRv.out]; rfl, hb.out⟩
          · obtain rfl : i = kids.length := by omega
            go_wp2_with fail
            go_ret
            exact ⟨by rw [hRv.out]; rfl, hb.out⟩
        · obtain rfl : q = 0 := by simpa using gq
          have hRv : Hid (R = ordK (kids.drop i) (kids'.drop i)) := by show _ = _; rw [hRq.out, if_pos rfl]
          clear hRq gq
          by_cases hlt : i < kids.length
          · by_cases hlt' : i < kids'.length
            · obtain ⟨k, hk⟩ : ∃ k, kids[i]? = some k := ⟨kids[i], List.getElem?_eq_getElem hlt⟩
              obtain ⟨k', hk'⟩ : ∃ k, kids'[i]? = some k := ⟨kids'[i], List.getElem?_eq_getElem hlt'⟩
              obtain ⟨ad, v, rfl, htk, hcv⟩ := kid_at h5 h3 hk
              obtain ⟨ad', e', hadl, _⟩ := h3.2 (by omega)
              injection e' with e'
              subst e'
              obtain ⟨bd, v', rfl, htk', hcv'⟩ := kid_at h5' h3' hk'
              obtain ⟨bd', e', hbdl, _⟩ := h3'.2 (by omega)
              injection e' with e'
              subst e'
              obtain ⟨kd, nm, s2, A2, m2, c2, rfl⟩ := htk.form
              obtain ⟨kd', nm', s2', A2', m2', c2', rfl⟩ := htk'.form
              have hcw : ∀ j u, [Value.int .i64 kd, .int .i64 nm, .string s2, .slice A2 m2 c2][j]? = some u → wr.cell? ((ad.add (i * 4)).add j) = some u := fun j u hu => (hb.out.cell (by rw [block_of_add, block_of_add]; exact hadl)).trans (hcv j u hu)
              have hcw' : ∀ j u, [Value.int .i64 kd', .int .i64 nm', .string s2', .slice A2' m2' c2'][j]? = some u → wr.cell? ((bd.add (i * 4)).add j) = some u := fun j u hu => (hb.out.cell (by rw [block_of_add, block_of_add]; exact hbdl)).trans (hcv' j u hu)
              have hsn : Hid (R = if ordT k k' = 0 then ordK (kids.drop (i + 1)) (kids'.drop (i + 1)) else ordT k k') := by
                show _ = _
                obtain ⟨hi9, e9⟩ := List.getElem?_eq_some_iff.1 hk
                obtain ⟨hi8, e8⟩ := List.getElem?_eq_some_iff.1 hk'
                rw [hRv.out, List.drop_eq_getElem_cons hi9, List.drop_eq_getElem_cons hi8, e9, e8, ordK]
              have co := Lib.hid (fun W (hW : Below w.heap.size w W) => hkids k (List.mem_of_getElem? hk) k' _ _ W (htk.below hW) (htk'.below hW))
              clear hk hk' htk htk' hRv
              go_wp2_with fail
              refine wp_region_held_drew (S := fun W => W.cell? ⟨w.heap.size, 3, none⟩ = some (.slice (some ad) kids.length c) ∧ W.cell? ⟨w.heap.size + 1, 3, none⟩ = some (.slice (some bd) kids'.length c') ∧ (∀ j u, [Value.int .i64 kd, .int .i64 nm, .string s2, .slice A2 m2 c2][j]? = some u → W.cell? ((ad.add (i * 4)).add j) = some u) ∧ (∀ j u, [Value.int .i64 kd', .int .i64 nm', .string s2', .slice A2' m2' c2'][j]? = some u → W.cell? ((bd.add (i * 4)).add j) = some u)) (by kernel_rfl) ⟨c13, c23, hcw, hcw'⟩ (fun hHeld => ?_)
              first | (refine tk 0 rfl (Or.inr ⟨?_, rfl⟩) ?_; rfl) | (refine tk 0 rfl (v := ?_) (Or.inl ⟨?_, ?_⟩) ?_; rotate_left; rfl; focus (intro w hSw; (try dsimp only at hSw); go_simp; all_goals (with_reducible rfl)))
              (try simp only [nrm, Act.put])
              first | (refine tk 1 rfl (Or.inr ⟨?_, rfl⟩) ?_; rfl) | (refine tk 1 rfl (v := ?_) (Or.inl ⟨?_, ?_⟩) ?_; rotate_left; rfl; focus (intro w hSw; (try dsimp only at hSw); go_simp; all_goals (with_reducible rfl)))
              (try simp only [nrm, Act.put])
              first | (refine tk 2 rfl (Or.inr ⟨?_, rfl⟩) ?_; rfl) | (refine tk 2 rfl (v := ?_) (Or.inl ⟨?_, ?_⟩) ?_; rotate_left; rfl; focus (intro w hSw; (try dsimp only at hSw); go_simp; all_goals (with_reducible rfl)))
              (try simp only [nrm, Act.put])
              first | (refine tk 3 rfl (Or.inr ⟨?_, rfl⟩) ?_; rfl) | (refine tk 3 rfl (v := ?_) (Or.inl ⟨?_, ?_⟩) ?_; rotate_left; rfl; focus (intro w hSw; (try dsimp only at hSw); go_simp; all_goals (with_reducible rfl)))
              (try simp only [nrm, Act.put])
              refine tk 4 rfl (v := _) (yieldsIf_load_term (by rfl) _ rfl (ad.add (i * 4)) rfl _ _ _ _ (fun w h => h.2.2.1)) ?_
              (try simp only [nrm, Act.put])
              first | (refine tk 5 rfl (Or.inr ⟨?_, rfl⟩) ?_; rfl) | (refine tk 5 rfl (v := ?_) (Or.inl ⟨?_, ?_⟩) ?_; rotate_left; rfl; focus (intro w hSw; (try dsimp only at hSw); go_simp; all_goals (with_reducible rfl)))
              (try simp only [nrm, Act.put])
              first | (refine tk 6 rfl (Or.inr ⟨?_, rfl⟩) ?_; rfl) | (refine tk 6 rfl (v := ?_) (Or.inl ⟨?_, ?_⟩) ?_; rotate_left; rfl; focus (intro w hSw; (try dsimp only at hSw); go_simp; all_goals (with_reducible rfl)))
              (try simp only [nrm, Act.put])
              first | (refine tk 7 rfl (Or.inr ⟨?_, rfl⟩) ?_; rfl) | (refine tk 7 rfl (v := ?_) (Or.inl ⟨?_, ?_⟩) ?_; rotate_left; rfl; focus (intro w hSw; (try dsimp only at hSw); go_simp; all_goals (with_reducible rfl)))
              (try simp only [nrm, Act.put])
              first | (refine tk 8 rfl (Or.inr ⟨?_, rfl⟩) ?_; rfl) | (refine tk 8 rfl (v := ?_) (Or.inl ⟨?_, ?_⟩) ?_; rotate_left; rfl; focus (intro w hSw; (try dsimp only at hSw); go_simp; all_goals (with_reducible rfl)))
              (try simp only [nrm, Act.put])
              refine tk 9 rfl (v := _) (yieldsIf_load_term (by rfl) _ rfl (bd.add (i * 4)) rfl _ _ _ _ (fun w h => h.2.2.2)) ?_
              (try simp only [nrm, Act.put])
              refine wpAnyH_ready (rs := [10]) (by kernel_rfl) (by simp) ?_
              refine AllReadyH.cons rfl (fun K hK => ?_) AllReadyH.nil
              go_simp
              go_at_call 40
              with_reducible refine (co.out _ hb.out.drew).mono ?_
              rintro _ w5 ⟨rfl, hb5⟩
              have HB5 := Lib.hid (below_next hb.out.drew hb5)
              have HX5 := Lib.hid (And.intro (hx.out.1.drew.below hb5 hx.out.1.drew.lt) (hx.out.2.drew.below hb5 hx.out.2.drew.lt))
              refine hK.out _ _ ⟨HX5.out.1.cell 3, HX5.out.2.cell 3, fun j u hu => (HB5.out.cell (by rw [block_of_add, block_of_add]; exact hadl)).trans (hcv j u hu), fun j u hu => (HB5.out.cell (by rw [block_of_add, block_of_add]; exact hbdl)).trans (hcv' j u hu)⟩ (fun hHeld => ?_)
              clear hK K
              (try simp only [nrm, Act.put])
              first | (refine tk 11 rfl (Or.inr ⟨?_, rfl⟩) ?_; rfl) | (refine tk 11 rfl (v := ?_) (Or.inl ⟨?_, ?_⟩) ?_; rotate_left; rfl; focus (intro w hSw; (try dsimp only at hSw); go_simp; all_goals (with_reducible rfl)))
              (try simp only [nrm, Act.put])
              refine wpAnyH_done (by kernel_rfl) ?_ _
              clear hb5 co hHeld
              go_wp2_with fail
              exact ⟨⟨i + 1, _, by omega, by omega, by go_num, rfl, hsn, HB5, HX5⟩, by simp [intOf]; omega⟩
            · obtain rfl : i = kids'.length := by omega
              have hRw : Hid (R = signI (decide (kids.length < kids'.length)) true) := by show _ = _; rw [hRv.out, List.drop_length]; exact ordK_right hlt
              clear hRv
              go_wp2_with fail
              refine (sign_walk _ _ _).mono ?_
              rintro _ w5 ⟨rfl, rfl⟩
              go_wp2_with fail
              go_ret
              exact ⟨by rw [hRw.out]; rfl, hb.out⟩
          · obtain rfl : i = kids.length := by omega
            have hRw : Hid (R = signI (decide (kids.length < kids'.length)) (decide (kids'.length < kids.length))) := by show _ = _; rw [hRv.out, List.drop_length]; exact ordK_left hi'
            clear hRv
            go_wp2_with fail
            refine (sign_walk _ _ _).mono ?_
            rintro _ w5 ⟨rfl, rfl⟩
            go_wp2_with fail
            go_ret
            exact ⟨by rw [hRw.out]; rfl, hb.out⟩
    · skip
      go_enter Tryz.func40, Tryz.ntmps40
      go_wp2_with fail
      refine (cs1.out _).mono ?_
      rintro _ w8 ⟨rfl, rfl⟩
      go_wp2_with fail
      refine (cs2.out _).mono ?_
      rintro _ w8 ⟨rfl, rfl⟩
      go_wp2_with fail
      refine (cs3.out _).mono ?_
      rintro _ w8 ⟨rfl, rfl⟩
      have HRc : Hid (R = if k3 = 0 then ordK (kids.drop 0) (kids'.drop 0) else k3) := by show _ = _; rw [← HRR.out]; simp only [List.drop_zero]; rw [if_pos (by simpa using g1), if_pos (by simpa using g2)]
      clear c10 c11 c12 c13 c20 c21 c22 c23 HRR cs1 cs2
      go_wp2_with fail
      go_loopw [5, 6] (fun cv iv wr => ∃ (i : Nat) (q : Int), i ≤ kids.length ∧ i ≤ kids'.length ∧ iv = .int .i64 i ∧ cv = .int .i64 q ∧ Hid (R = if q = 0 then ordK (kids.drop i) (kids'.drop i) else q) ∧ Hid (Below w.heap.size w wr) ∧ Hid (Blk wr w.heap.size 41 #[.int .i64 kind, .int .i64 n, .string s, .slice A kids.length c] ∧ Blk wr (w.heap.size + 1) 41 #[.int .i64 kind', .int .i64 n', .string s', .slice A' kids'.length c'])) (fun _ iv _ => kids.length - (intOf iv).toNat)
      case atStart => exact ⟨0, k3, by omega, by omega, rfl, rfl, HRc, hb2, HX⟩
      case round =>
        clear HRc HX hb2 cs3 g1 g2
        obtain ⟨i, q, hi, hi', rfl, rfl, hRq, hb, hx⟩ := hrel
        have c13 : wr.cell? ⟨w.heap.size, 3, none⟩ = some (.slice A kids.length c) := hx.out.1.cell 3
        have c23 : wr.cell? ⟨w.heap.size + 1, 3, none⟩ = some (.slice A' kids'.length c') := hx.out.2.cell 3
        cases gq : q == 0
        · have hRv : Hid (R = q) := by show _ = _; rw [hRq.out, if_neg (by simpa using gq)]
          by_cases hlt : i < kids.length
          · by_cases hlt' : i < kids'.length
            · go_wp2_with fail
              go_ret
              exact ⟨by rw [hRv.out]; rfl, hb.out⟩
            · obtain rfl : i = kids'.length := by omega
              go_wp2_with fail
              go_ret
              exact ⟨by rw [hRv.out]; rfl, hb.out⟩
          · obtain rfl : i = kids.length := by omega
            go_wp2_with fail
            go_ret
            exact ⟨by rw [hRv.out]; rfl, hb.out⟩
        · obtain rfl : q = 0 := by simpa using gq
          have hRv : Hid (R = ordK (kids.drop i) (kids'.drop i)) := by show _ = _; rw [hRq.out, if_pos rfl]
          clear hRq gq
          by_cases hlt : i < kids.length
          · by_cases hlt' : i < kids'.length
            · obtain ⟨k, hk⟩ : ∃ k, kids[i]? = some k := ⟨kids[i], List.getElem?_eq_getElem hlt⟩
              obtain ⟨k', hk'⟩ : ∃ k, kids'[i]? = some k := ⟨kids'[i], List.getElem?_eq_getElem hlt'⟩
              obtain ⟨ad, v, rfl, htk, hcv⟩ := kid_at h5 h3 hk
              obtain ⟨ad', e', hadl, _⟩ := h3.2 (by omega)
              injection e' with e'
              subst e'
              obtain ⟨bd, v', rfl, htk', hcv'⟩ := kid_at h5' h3' hk'
              obtain ⟨bd', e', hbdl, _⟩ := h3'.2 (by omega)
              injection e' with e'
              subst e'
              obtain ⟨kd, nm, s2, A2, m2, c2, rfl⟩ := htk.form
              obtain ⟨kd', nm', s2', A2', m2', c2', rfl⟩ := htk'.form
              have hcw : ∀ j u, [Value.int .i64 kd, .int .i64 nm, .string s2, .slice A2 m2 c2][j]? = some u → wr.cell? ((ad.add (i * 4)).add j) = some u := fun j u hu => (hb.out.cell (by rw [block_of_add, block_of_add]; exact hadl)).trans (hcv j u hu)
              have hcw' : ∀ j u, [Value.int .i64 kd', .int .i64 nm', .string s2', .slice A2' m2' c2'][j]? = some u → wr.cell? ((bd.add (i * 4)).add j) = some u := fun j u hu => (hb.out.cell (by rw [block_of_add, block_of_add]; exact hbdl)).trans (hcv' j u hu)
              have hsn : Hid (R = if ordT k k' = 0 then ordK (kids.drop (i + 1)) (kids'.drop (i + 1)) else ordT k k') := by
                show _ = _
                obtain ⟨hi9, e9⟩ := List.getElem?_eq_some_iff.1 hk
                obtain ⟨hi8, e8⟩ := List.getElem?_eq_some_iff.1 hk'
                rw [hRv.out, List.drop_eq_getElem_cons hi9, List.drop_eq_getElem_cons hi8, e9, e8, ordK]
              have co := Lib.hid (fun W (hW : Below w.heap.size w W) => hkids k (List.mem_of_getElem? hk) k' _ _ W (htk.below hW) (htk'.below hW))
              clear hk hk' htk htk' hRv
              go_wp2_with fail
              refine wp_region_held_drew (S := fun W => W.cell? ⟨w.heap.size, 3, none⟩ = some (.slice (some ad) kids.length c) ∧ W.cell? ⟨w.heap.size + 1, 3, none⟩ = some (.slice (some bd) kids'.length c') ∧ (∀ j u, [Value.int .i64 kd, .int .i64 nm, .string s2, .slice A2 m2 c2][j]? = some u → W.cell? ((ad.add (i * 4)).add j) = some u) ∧ (∀ j u, [Value.int .i64 kd', .int .i64 nm', .string s2', .slice A2' m2' c2'][j]? = some u → W.cell? ((bd.add (i * 4)).add j) = some u)) (by kernel_rfl) ⟨c13, c23, hcw, hcw'⟩ (fun hHeld => ?_)
              first | (refine tk 0 rfl (Or.inr ⟨?_, rfl⟩) ?_; rfl) | (refine tk 0 rfl (v := ?_) (Or.inl ⟨?_, ?_⟩) ?_; rotate_left; rfl; focus (intro w hSw; (try dsimp only at hSw); go_simp; all_goals (with_reducible rfl)))
              (try simp only [nrm, Act.put])
              first | (refine tk 1 rfl (Or.inr ⟨?_, rfl⟩) ?_; rfl) | (refine tk 1 rfl (v := ?_) (Or.inl ⟨?_, ?_⟩) ?_; rotate_left; rfl; focus (intro w hSw; (try dsimp only at hSw); go_simp; all_goals (with_reducible rfl)))
              (try simp only [nrm, Act.put])
              first | (refine tk 2 rfl (Or.inr ⟨?_, rfl⟩) ?_; rfl) | (refine tk 2 rfl (v := ?_) (Or.inl ⟨?_, ?_⟩) ?_; rotate_left; rfl; focus (intro w hSw; (try dsimp only at hSw); go_simp; all_goals (with_reducible rfl)))
              (try simp only [nrm, Act.put])
              first | (refine tk 3 rfl (Or.inr ⟨?_, rfl⟩) ?_; rfl) | (refine tk 3 rfl (v := ?_) (Or.inl ⟨?_, ?_⟩) ?_; rotate_left; rfl; focus (intro w hSw; (try dsimp only at hSw); go_simp; all_goals (with_reducible rfl)))
              (try simp only [nrm, Act.put])
              refine tk 4 rfl (v := _) (yieldsIf_load_term (by rfl) _ rfl (ad.add (i * 4)) rfl _ _ _ _ (fun w h => h.2.2.1)) ?_
              (try simp only [nrm, Act.put])
              first | (refine tk 5 rfl (Or.inr ⟨?_, rfl⟩) ?_; rfl) | (refine tk 5 rfl (v := ?_) (Or.inl ⟨?_, ?_⟩) ?_; rotate_left; rfl; focus (intro w hSw; (try dsimp only at hSw); go_simp; all_goals (with_reducible rfl)))
              (try simp only [nrm, Act.put])
              first | (refine tk 6 rfl (Or.inr ⟨?_, rfl⟩) ?_; rfl) | (refine tk 6 rfl (v := ?_) (Or.inl ⟨?_, ?_⟩) ?_; rotate_left; rfl; focus (intro w hSw; (try dsimp only at hSw); go_simp; all_goals (with_reducible rfl)))
              (try simp only [nrm, Act.put])
              first | (refine tk 7 rfl (Or.inr ⟨?_, rfl⟩) ?_; rfl) | (refine tk 7 rfl (v := ?_) (Or.inl ⟨?_, ?_⟩) ?_; rotate_left; rfl; focus (intro w hSw; (try dsimp only at hSw); go_simp; all_goals (with_reducible rfl)))
              (try simp only [nrm, Act.put])
              first | (refine tk 8 rfl (Or.inr ⟨?_, rfl⟩) ?_; rfl) | (refine tk 8 rfl (v := ?_) (Or.inl ⟨?_, ?_⟩) ?_; rotate_left; rfl; focus (intro w hSw; (try dsimp only at hSw); go_simp; all_goals (with_reducible rfl)))
              (try simp only [nrm, Act.put])
              refine tk 9 rfl (v := _) (yieldsIf_load_term (by rfl) _ rfl (bd.add (i * 4)) rfl _ _ _ _ (fun w h => h.2.2.2)) ?_
              (try simp only [nrm, Act.put])
              refine wpAnyH_ready (rs := [10]) (by kernel_rfl) (by simp) ?_
              refine AllReadyH.cons rfl (fun K hK => ?_) AllReadyH.nil
              go_simp
              go_at_call 40
              with_reducible refine (co.out _ hb.out.drew).mono ?_
              rintro _ w5 ⟨rfl, hb5⟩
              have HB5 := Lib.hid (below_next hb.out.drew hb5)
              have HX5 := Lib.hid (And.intro (hx.out.1.drew.below hb5 hx.out.1.drew.lt) (hx.out.2.drew.below hb5 hx.out.2.drew.lt))
              refine hK.out _ _ ⟨HX5.out.1.cell 3, HX5.out.2.cell 3, fun j u hu => (HB5.out.cell (by rw [block_of_add, block_of_add]; exact hadl)).trans (hcv j u hu), fun j u hu => (HB5.out.cell (by rw [block_of_add, block_of_add]; exact hbdl)).trans (hcv' j u hu)⟩ (fun hHeld => ?_)
              clear hK K
              (try simp only [nrm, Act.put])
              first | (refine tk 11 rfl (Or.inr ⟨?_, rfl⟩) ?_; rfl) | (refine tk 11 rfl (v := ?_) (Or.inl ⟨?_, ?_⟩) ?_; rotate_left; rfl; focus (intro w hSw; (try dsimp only at hSw); go_simp; all_goals (with_reducible rfl)))
              (try simp only [nrm, Act.put])
              refine wpAnyH_done (by kernel_rfl) ?_ _
              clear hb5 co hHeld
              go_wp2_with fail
              exact ⟨⟨i + 1, _, by omega, by omega, by go_num, rfl, hsn, HB5, HX5⟩, by simp [intOf]; omega⟩
            · obtain rfl : i = kids'.length := by omega
              have hRw : Hid (R = signI (decide (kids.length < kids'.length)) true) := by show _ = _; rw [hRv.out, List.drop_length]; exact ordK_right hlt
              clear hRv
              go_wp2_with fail
              refine (sign_walk _ _ _).mono ?_
              rintro _ w5 ⟨rfl, rfl⟩
              go_wp2_with fail
              go_ret
              exact ⟨by rw [hRw.out]; rfl, hb.out⟩
          · obtain rfl : i = kids.length := by omega
            have hRw : Hid (R = signI (decide (kids.length < kids'.length)) (decide (kids'.length < kids.length))) := by show _ = _; rw [hRv.out, List.drop_length]; exact ordK_left hi'
            clear hRv
            go_wp2_with fail
            refine (sign_walk _ _ _).mono ?_
            rintro _ w5 ⟨rfl, rfl⟩
            go_wp2_with fail
            go_ret
            exact ⟨by rw [hRw.out]; rfl, hb.out⟩
end
section
open Go.RowKit
mutual
theorem ord_all : ∀ t : Tm, OrdOk t
  | .mk kind n s kids => ord_node kind n s kids (ord_each kids)
theorem ord_each : ∀ ks : List Tm, ∀ k ∈ ks, OrdOk k
  | [], k, h => by simp at h
  | x :: ks, k, h => by
    have h1 := ord_all x
    have h2 := ord_each ks
    rcases List.mem_cons.1 h with e | h
    · rw [e]; exact h1
    · exact h2 k h
end
theorem sign_zero {a b : Bool} (h : signI a b = 0) : a = false ∧ b = false := by
  cases a <;> cases b <;> simp [signI] at h ⊢
theorem int_zero {a b : Int} (h : signI (decide (a < b)) (decide (b < a)) = 0) : a = b := by
  obtain ⟨h1, h2⟩ := sign_zero h
  rw [decide_eq_false_iff_not] at h1 h2
  omega
theorem bytes_irrefl : ∀ l : List UInt8, Op.bytesLess l l = false
  | [] => by simp [Op.bytesLess]
  | x :: l => by simp [Op.bytesLess, bytes_irrefl l]
theorem text_eq {s s' : ByteArray} (h : s.toList = s'.toList) : s = s' := by
  have e1 := ByteArray.toList_eq s
  have e2 := ByteArray.toList_eq s'
  rw [e1, e2] at h
  cases s; cases s'
  congr
  exact Array.toList_inj.1 h
mutual
theorem ord_self : ∀ t : Tm, ordT t t = 0
  | .mk kind n s kids => by
    have h := ordk_self kids
    rw [ordT]
    have e : ∀ a : Int, signI (decide (a < a)) (decide (a < a)) = 0 := fun a => by rw [decide_eq_false (Int.lt_irrefl a)]; rfl
    rw [if_pos (e kind), if_pos (e n), bytes_irrefl]
    simp [signI, h]
theorem ordk_self : ∀ ks : List Tm, ordK ks ks = 0
  | [] => by rw [ordK]
  | k :: ks => by rw [ordK, if_pos (ord_self k), ordk_self ks]
end
mutual
theorem ord_eq : ∀ t u : Tm, ordT t u = 0 → t = u
  | .mk kind n s kids, .mk kind' n' s' kids', h => by
    rw [ordT] at h
    split at h
    · rename_i h1
      split at h
      · rename_i h2
        split at h
        · rename_i h3
          have e1 := int_zero h1
          have e2 := int_zero h2
          obtain ⟨h4, h5⟩ := sign_zero h3
          rw [h4] at h5
          have e3 : s = s' := text_eq (by simpa using h5)
          have e4 := ordk_eq kids kids' h
          rw [e1, e2, e3, e4]
        · contradiction
      · contradiction
    · contradiction
theorem ordk_eq : ∀ ks ls : List Tm, ordK ks ls = 0 → ks = ls
  | [], [], _ => rfl
  | [], _ :: _, h => by rw [ordK] at h; simp at h
  | _ :: _, [], h => by rw [ordK] at h; simp at h
  | k :: ks, l :: ls, h => by
    rw [ordK] at h
    split at h
    · rename_i h1
      rw [ord_eq k l h1, ordk_eq ks ls h]
    · contradiction
end
theorem ord_iff (t u : Tm) : ordT t u = 0 ↔ t = u := ⟨ord_eq t u, fun h => by rw [h, ord_self]⟩
/-- whether two terms are the same -/
def sameB (t u : Tm) : Bool := ordT t u == 0
theorem sameB_iff {t u : Tm} : sameB t u = true ↔ t = u := by rw [sameB, beq_iff_eq, ord_iff]
theorem same_walk (t u : Tm) (k1 n1 : Int) (s1 : ByteArray) (A1 : Option Addr) (m1 c1 : Nat) (k2 n2 : Int) (s2 : ByteArray) (A2 : Option Addr) (m2 c2 : Nat) (w : World)
    (ht : TmV w 0 t [.int .i64 k1, .int .i64 n1, .string s1, .slice A1 m1 c1]) (hu : TmV w 0 u [.int .i64 k2, .int .i64 n2, .string s2, .slice A2 m2 c2]) :
    Calls Tryz.prog 18 #[.agg #[.int .i64 k1, .int .i64 n1, .string s1, .slice A1 m1 c1], .agg #[.int .i64 k2, .int .i64 n2, .string s2, .slice A2 m2 c2]] w fun e w' => e = .returned (.bool (sameB t u)) ∧ Below w.heap.size w w' := by
  have hb1 := (Below.refl w.heap.size w).alloc (Nat.le_refl _) (.cells #[.int .i64 k1, .int .i64 n1, .string s1, .slice A1 m1 c1] 41)
  have hb2 := hb1.alloc hb1.size (.cells #[.int .i64 k2, .int .i64 n2, .string s2, .slice A2 m2 c2] 41)
  have hx1 := Lib.hid ((Blk.new w 41 #[.int .i64 k1, .int .i64 n1, .string s1, .slice A1 m1 c1]).alloc (.cells #[.int .i64 k2, .int .i64 n2, .string s2, .slice A2 m2 c2] 41))
  have hx2 := Blk.new (w.alloc (.cells #[.int .i64 k1, .int .i64 n1, .string s1, .slice A1 m1 c1] 41)) 41 #[.int .i64 k2, .int .i64 n2, .string s2, .slice A2 m2 c2]
  rw [show (w.alloc (.cells #[.int .i64 k1, .int .i64 n1, .string s1, .slice A1 m1 c1] 41)).heap.size = w.heap.size + 1 by simp] at hx2
  have HX2 := Lib.hid hx2
  have HB2 := Lib.hid hb2
  have HT := Lib.hid (ht.below hb2)
  have HU := Lib.hid (hu.below hb2)
  have hv : Hid (sameB t u = (ordT t u == 0)) := rfl
  clear hb1 hb2 hx2
  go_enter Tryz.func18, Tryz.ntmps18
  go_wp2_with (first
    | (refine wpList_load_at rfl 41 _ rfl ⟨w.heap.size, 0, none⟩ rfl [.int .i64 k1, .int .i64 n1, .string s1, .slice A1 m1 c1] _ (blk_cells hx1.out) Tryz.underlying41 rfl term_size ?_)
    | (refine wpList_load_at rfl 41 _ rfl ⟨w.heap.size + 1, 0, none⟩ rfl [.int .i64 k2, .int .i64 n2, .string s2, .slice A2 m2 c2] _ (blk_cells HX2.out) Tryz.underlying41 rfl term_size ?_))
  refine (ord_all t u _ _ _ HT.out HU.out).mono ?_
  rintro _ w5 ⟨rfl, hb5⟩
  have HB5 := Lib.hid (below_next HB2.out hb5)
  clear hb5
  go_wp2_with fail
  go_ret
  rw [hv.out]
  exact ⟨rfl, HB5.out⟩
end
end K9
end Go.Proofs.YtieppmppdmcleaaGreatDoor

/- JsonGet: each value of an object is found by its name, and no other; a text as such. Condition: the laid variables. Printed by wip/tools/genLh.py. -/
import Derived.Test.YtokgkifckgnabaaDoorLg
set_option linter.unusedVariables false
set_option linter.unusedSimpArgs false
set_option maxRecDepth 20000
namespace Go.Proofs.YtokgkifckgnabaaDoor
open Go.RowKit Go.Maps
def nmsJ (x : ByteArray) : Array Value := #[.string ⟨#[97]⟩, .string ⟨#[98]⟩, .string ⟨#[99, 49]⟩, .string x]
theorem nms_at (x : ByteArray) (i : Nat) (hi : i < 4) : ∃ q : List UInt8, (nmsJ x)[i]? = some (.string ⟨q.toArray⟩) := by
  match i, hi with
  | 0, _ => exact ⟨[97], rfl⟩
  | 1, _ => exact ⟨[98], rfl⟩
  | 2, _ => exact ⟨[99, 49], rfl⟩
  | 3, _ => exact ⟨x.data.toList, by rw [← str_eta x _ rfl]; rfl⟩
set_option maxHeartbeats 40000000 in
theorem get_law (zs : List Int) (A : Option Addr) (c : Nat) (x : ByteArray) (ys : List Int) (B : Option Addr) (d : Nat) (w : World) (hr : IntsIn w A c zs) (hs : IntsIn w B d ys) (hL : LaidB w w.heap.size) :
    Calls Tryd.prog 4 #[.slice A zs.length c, .string x, .slice B ys.length d] w fun e w' => e = .returned (.bool true) ∧ Below w.heap.size w w' := by
  have ck := Lib.hid (known12_walk w hL)
  have HR := Lib.hid hr
  have HS := Lib.hid hs
  clear hL hr hs
  go_enter Tryd.func4, Tryd.ntmps4
  go_wp2_with fail
  refine ck.out.mono ?_
  rintro _ w1 ⟨rfl, hS1⟩
  have HA := Lib.hid (show StA w [] [] w1 from ⟨hS1.laid, hS1.below, fun p hp => by simp at hp, fun p hp => by simp at hp⟩)
  clear hS1 ck
  by_cases hx : x.size ≤ 100
  case neg =>
    have d1 : decide ((100 : Int) < (x.size : Int)) = true := by simp; omega
    have d2 : decide (100 < x.size) = true := by simp; omega
    go_wp2_with fail
    go_ret
    exact ⟨rfl, HA.out.below⟩
  have d1 : decide ((100 : Int) < (x.size : Int)) = false := by simp; omega
  have d2 : decide (100 < x.size) = false := by simp; omega
  have hT := tape_new (HR.out.below HA.out.below)
  have cv := Lib.hid (tape_any 2 (by decide) zs _ 0 _ hT)
  have HA1 := Lib.hid (HA.out.alloc (.cells #[.slice A zs.length c, .int .i64 0] 31))
  clear hT
  go_wp2_with fail
  refine cv.out.mono ?_
  rintro _ w2 ⟨v, csv, kv, rfl, hv, -, hg, hfv⟩
  have hb2 : Below w1.heap.size w1 w2 := (alloc_below w1 _).grown hg (by simp) (fun q e => by injection e with e; omega)
  have HA2 := Lib.hid (HA.out.next hb2)
  obtain ⟨k1, b1, n1, s1, N1, nn1, nc1, A1, m1, c1, rfl⟩ := hv.form
  have HV := Lib.hid hv
  have HFV := Lib.hid hfv
  clear hg cv HA HA1 hv hfv hb2
  have hT := tape_new (HS.out.below HA2.out.below)
  have cv := Lib.hid (tape_any 2 (by decide) ys _ 0 _ hT)
  clear hT
  go_wp2_with fail
  refine cv.out.mono ?_
  rintro _ w3 ⟨u, csu, ku, rfl, hu, -, hg, hfu⟩
  have hb3 : Below w2.heap.size w2 w3 := (alloc_below w2 _).grown hg (by simp) (fun q e => by injection e with e; omega)
  have HA3 := Lib.hid (HA2.out.next hb3)
  have HV3 := Lib.hid (HV.out.below hb3)
  obtain ⟨k2, b2, n2, s2, N2, nn2, nc2, A2, m2, c2, rfl⟩ := hu.form
  have HU := Lib.hid hu
  have HFU := Lib.hid hfu
  clear hg cv HA2 hu hfu hb3 HV HR HS
  go_wp2_with fail
  have hA4 := HA3.out.value HV3.out
  have hsz : (w3.alloc (.cells #[.int .i64 k1, .bool b1, .int .i64 n1, .string s1, .slice N1 nn1 nc1, .slice A1 m1 c1] 27)).heap.size = w3.heap.size + 1 := by simp
  have hA5 := hA4.value (HU.out.below (alloc_below w3 (.cells #[.int .i64 k1, .bool b1, .int .i64 n1, .string s1, .slice N1 nn1 nc1, .slice A1 m1 c1] 27)))
  rw [hsz] at hA5
  have HFV' := HFV.out
  have HFU' := HFU.out
  have hsv : smJ v := smJ_of_may v 0 (HFV'.1 0 (by decide)) (Nat.le_trans HFV'.2 (by decide))
  have hsu : smJ u := smJ_of_may u 0 (HFU'.1 0 (by decide)) (Nat.le_trans HFU'.2 (by decide))
  have hso : smJ (objJ v u) := by rw [objJ, smJ, smJs, smJs, smJs, smJs, smJ, smJs]; simp [hsv, hsu]
  generalize (w3.alloc (.cells #[.int .i64 k1, .bool b1, .int .i64 n1, .string s1, .slice N1 nn1 nc1, .slice A1 m1 c1] 27)).alloc (.cells #[.int .i64 k2, .bool b2, .int .i64 n2, .string s2, .slice N2 nn2 nc2, .slice A2 m2 c2] 27) = W5 at hA5 ⊢
  generalize hgv : w3.heap.size = gv at hA5 ⊢
  obtain ⟨gu, hgu⟩ : ∃ gu, gv + 1 = gu := ⟨_, rfl⟩
  rw [hgu] at hA5 ⊢
  have HA := Lib.hid hA5
  have HSV := Lib.hid hsv
  have HSO := Lib.hid hso
  clear hA4 hA5 hsz HA3 HV3 HU HFV HFU HFV' HFU' hsu hgv hgu
  have HO := Lib.hid (HA.out.toB.next (Below.refl _ _).drew)
  have hmv : (gv, v, ([.int .i64 k1, .bool b1, .int .i64 n1, .string s1, .slice N1 nn1 nc1, .slice A1 m1 c1] : List Value)) ∈ [(gu, u, ([.int .i64 k2, .bool b2, .int .i64 n2, .string s2, .slice N2 nn2 nc2, .slice A2 m2 c2] : List Value)), (gv, v, [.int .i64 k1, .bool b1, .int .i64 n1, .string s1, .slice N1 nn1 nc1, .slice A1 m1 c1])] := by simp
  have hmu : (gu, u, ([.int .i64 k2, .bool b2, .int .i64 n2, .string s2, .slice N2 nn2 nc2, .slice A2 m2 c2] : List Value)) ∈ [(gu, u, ([.int .i64 k2, .bool b2, .int .i64 n2, .string s2, .slice N2 nn2 nc2, .slice A2 m2 c2] : List Value)), (gv, v, [.int .i64 k1, .bool b1, .int .i64 n1, .string s1, .slice N1 nn1 nc1, .slice A1 m1 c1])] := by simp
  have hSA : ∀ (L : List (Nat × Jv × List Value)) (W : World) (p : Nat × Jv × List Value), StA w (p :: [(gu, u, ([.int .i64 k2, .bool b2, .int .i64 n2, .string s2, .slice N2 nn2 nc2, .slice A2 m2 c2] : List Value)), (gv, v, [.int .i64 k1, .bool b1, .int .i64 n1, .string s1, .slice N1 nn1 nc1, .slice A1 m1 c1])]) [] W → (∀ j t, ([.int .i64 k1, .bool b1, .int .i64 n1, .string s1, .slice N1 nn1 nc1, .slice A1 m1 c1] : List Value)[j]? = some t → W.cell? ((⟨gv, 0, none⟩ : Addr).add j) = some t) ∧ (∀ j t, ([.int .i64 k2, .bool b2, .int .i64 n2, .string s2, .slice N2 nn2 nc2, .slice A2 m2 c2] : List Value)[j]? = some t → W.cell? ((⟨gu, 0, none⟩ : Addr).add j) = some t) := fun _ W p h => ⟨h.cells (List.mem_cons_of_mem _ hmv), h.cells (List.mem_cons_of_mem _ hmu)⟩
  have hSS : ∀ W, StB W5.heap.size w [(gu, u, ([.int .i64 k2, .bool b2, .int .i64 n2, .string s2, .slice N2 nn2 nc2, .slice A2 m2 c2] : List Value)), (gv, v, [.int .i64 k1, .bool b1, .int .i64 n1, .string s1, .slice N1 nn1 nc1, .slice A1 m1 c1])] [] W → (∀ j t, ([.int .i64 k1, .bool b1, .int .i64 n1, .string s1, .slice N1 nn1 nc1, .slice A1 m1 c1] : List Value)[j]? = some t → W.cell? ((⟨gv, 0, none⟩ : Addr).add j) = some t) ∧ (∀ j t, ([.int .i64 k2, .bool b2, .int .i64 n2, .string s2, .slice N2 nn2 nc2, .slice A2 m2 c2] : List Value)[j]? = some t → W.cell? ((⟨gu, 0, none⟩ : Addr).add j) = some t) := fun W h => ⟨h.st.cells hmv, h.st.cells hmu⟩
  refine region_fin (F := fun a a' W => ∃ (q0 q1 q2 q3 q4 q5 : Value) (gO b0 b4 : Nat), a' = (((((((a.put (some 37) q0).put (some 38) q1).put (some 39) q2).put (some 40) q3).put (some 41) q4).put (some 42) q5).put (some 9) (.pointer (some ⟨gO, 0, none⟩))) ∧ Hid (StA w ((gO, objJ v u, [.int .i64 6, .bool false, .int .i64 0, .string ⟨#[]⟩, .slice (some ⟨b0, 0, none⟩) 3 3, .slice (some ⟨b4, 0, none⟩) 3 3]) :: [(gu, u, ([.int .i64 k2, .bool b2, .int .i64 n2, .string s2, .slice N2 nn2 nc2, .slice A2 m2 c2] : List Value)), (gv, v, [.int .i64 k1, .bool b1, .int .i64 n1, .string s1, .slice N1 nn1 nc1, .slice A1 m1 c1])]) [] W)) ?_ ?_
  · have hS0 := hSS _ HO.out
    refine wp_region_held_drew (S := fun W => (∀ j t, ([.int .i64 k1, .bool b1, .int .i64 n1, .string s1, .slice N1 nn1 nc1, .slice A1 m1 c1] : List Value)[j]? = some t → W.cell? ((⟨gv, 0, none⟩ : Addr).add j) = some t) ∧ (∀ j t, ([.int .i64 k2, .bool b2, .int .i64 n2, .string s2, .slice N2 nn2 nc2, .slice A2 m2 c2] : List Value)[j]? = some t → W.cell? ((⟨gu, 0, none⟩ : Addr).add j) = some t)) (by kernel_rfl) hS0 (fun hHeld => ?_)
    refine wpAnyH_take (i := 1) (v := _) rfl (by kernel_rfl) (by kernel_rfl) (by kernel_rfl) (by intro _ _ _ h; exact nomatch h.1) (yieldsIf_load_jv (by rfl) _ rfl ⟨gv, 0, none⟩ rfl _ _ _ _ _ _ (fun w h => h.1)) (by assumption) ?_
    (try simp only [List.getElem_toArray, List.getElem_cons_zero, List.getElem_cons_succ, Act.put, List.setIfInBounds_toArray, List.set_cons_zero, List.set_cons_succ])
    refine wpAnyH_take (i := 2) (v := _) rfl (by kernel_rfl) (by kernel_rfl) (by kernel_rfl) (by intro _ _ _ h; exact nomatch h.1) (yieldsIf_load_jv (by rfl) _ rfl ⟨gu, 0, none⟩ rfl _ _ _ _ _ _ (fun w h => h.2)) (by assumption) ?_
    (try simp only [List.getElem_toArray, List.getElem_cons_zero, List.getElem_cons_succ, Act.put, List.setIfInBounds_toArray, List.set_cons_zero, List.set_cons_succ])
    generalize W5.heap.size = B0 at HO hSS
    generalize W5.drew = W0 at HO ⊢
    clear hS0 HA d1 d2
    refine wpAnyH_ready (rs := [0, 3, 6]) (by kernel_rfl) (by simp) ?_
    refine AllReadyH.cons rfl (fun K hK => ?_) ( AllReadyH.cons rfl (fun K hK => ?_) ( AllReadyH.cons rfl (fun K hK => ?_) AllReadyH.nil))
    · go_simp
      have hb0 := Blk.new W0 9 #[.string ⟨#[97]⟩, .string ⟨#[98]⟩, .string ⟨#[99, 49]⟩]
      have hle0 := HO.out.le
      have hO := HO.out.alloc (.cells #[.string ⟨#[97]⟩, .string ⟨#[98]⟩, .string ⟨#[99, 49]⟩] 9)
      clear HO
      generalize W0.alloc (.cells #[.string ⟨#[97]⟩, .string ⟨#[98]⟩, .string ⟨#[99, 49]⟩] 9) = W1 at hO hb0 ⊢
      generalize W0.heap.size = b0 at hb0 hle0 ⊢
      refine hK.out _ _ (hSS _ hO) (fun hHeld => ?_)
      have Hb0 := Lib.hid hb0
      have HO := Lib.hid hO
      clear hK K hO hb0
      (try simp only [List.getElem_toArray, List.getElem_cons_zero, List.getElem_cons_succ, Act.put, List.setIfInBounds_toArray, List.set_cons_zero, List.set_cons_succ])
      refine wpAnyH_ready (rs := [3, 6]) (by kernel_rfl) (by simp) ?_
      refine AllReadyH.cons rfl (fun K hK => ?_) ( AllReadyH.cons rfl (fun K hK => ?_) AllReadyH.nil)
      · go_simp
        refine (s_walk W1 ⟨#[120]⟩).mono ?_
        rintro _ W2 ⟨rfl, hb⟩
        go_simp
        have hO := HO.out.next hb
        have hb0 := Hb0.out.below hb Hb0.out.lt
        clear HO Hb0
        refine hK.out _ _ (hSS _ hO) (fun hHeld => ?_)
        have Hb0 := Lib.hid hb0
        have HO := Lib.hid hO
        clear hK K hO hb hb0
        (try simp only [List.getElem_toArray, List.getElem_cons_zero, List.getElem_cons_succ, Act.put, List.setIfInBounds_toArray, List.set_cons_zero, List.set_cons_succ])
        refine wpAnyH_ready (rs := [4, 6]) (by kernel_rfl) (by simp) ?_
        refine AllReadyH.cons rfl (fun K hK => ?_) ( AllReadyH.cons rfl (fun K hK => ?_) AllReadyH.nil)
        · go_simp
          have hb4 := Blk.new W2 27 #[.int .i64 k1, .bool b1, .int .i64 n1, .string s1, .slice N1 nn1 nc1, .slice A1 m1 c1, .int .i64 k2, .bool b2, .int .i64 n2, .string s2, .slice N2 nn2 nc2, .slice A2 m2 c2, .int .i64 4, .bool false, .int .i64 0, .string ⟨#[120]⟩, .slice none 0 0, .slice none 0 0]
          have hle4 := HO.out.le
          have hO := HO.out.alloc (.cells #[.int .i64 k1, .bool b1, .int .i64 n1, .string s1, .slice N1 nn1 nc1, .slice A1 m1 c1, .int .i64 k2, .bool b2, .int .i64 n2, .string s2, .slice N2 nn2 nc2, .slice A2 m2 c2, .int .i64 4, .bool false, .int .i64 0, .string ⟨#[120]⟩, .slice none 0 0, .slice none 0 0] 27)
          have hb0 := Hb0.out.alloc (.cells #[.int .i64 k1, .bool b1, .int .i64 n1, .string s1, .slice N1 nn1 nc1, .slice A1 m1 c1, .int .i64 k2, .bool b2, .int .i64 n2, .string s2, .slice N2 nn2 nc2, .slice A2 m2 c2, .int .i64 4, .bool false, .int .i64 0, .string ⟨#[120]⟩, .slice none 0 0, .slice none 0 0] 27)
          have hne04 : b0 ≠ W2.heap.size := by have := Hb0.out.lt; omega
          clear HO Hb0
          generalize W2.alloc (.cells #[.int .i64 k1, .bool b1, .int .i64 n1, .string s1, .slice N1 nn1 nc1, .slice A1 m1 c1, .int .i64 k2, .bool b2, .int .i64 n2, .string s2, .slice N2 nn2 nc2, .slice A2 m2 c2, .int .i64 4, .bool false, .int .i64 0, .string ⟨#[120]⟩, .slice none 0 0, .slice none 0 0] 27) = W3 at hO hb0 hb4 ⊢
          generalize W2.heap.size = b4 at hb4 hle4 hne04 ⊢
          refine hK.out _ _ (hSS _ hO) (fun hHeld => ?_)
          have Hb0 := Lib.hid hb0
          have Hb4 := Lib.hid hb4
          have HO := Lib.hid hO
          clear hK K hO hb0 hb4
          (try simp only [List.getElem_toArray, List.getElem_cons_zero, List.getElem_cons_succ, Act.put, List.setIfInBounds_toArray, List.set_cons_zero, List.set_cons_succ])
          refine wpAnyH_ready (rs := [5, 6]) (by kernel_rfl) (by simp) ?_
          refine AllReadyH.cons rfl (fun K hK => ?_) ( AllReadyH.cons rfl (fun K hK => ?_) AllReadyH.nil)
          · go_simp
            refine (o_walk W3 (some ⟨b0, 0, none⟩) 3 3 (some ⟨b4, 0, none⟩) 3 3).mono ?_
            rintro _ W4 ⟨rfl, hb⟩
            go_simp
            have hO := HO.out.next hb
            have hb0 := Hb0.out.below hb Hb0.out.lt
            have hb4 := Hb4.out.below hb Hb4.out.lt
            clear HO Hb0 Hb4
            refine hK.out _ _ (hSS _ hO) (fun hHeld => ?_)
            have Hb0 := Lib.hid hb0
            have Hb4 := Lib.hid hb4
            have HO := Lib.hid hO
            clear hK K hO hb hb0 hb4
            (try simp only [List.getElem_toArray, List.getElem_cons_zero, List.getElem_cons_succ, Act.put, List.setIfInBounds_toArray, List.set_cons_zero, List.set_cons_succ])
            refine wpAnyH_ready (rs := [6]) (by kernel_rfl) (by simp) ?_
            refine AllReadyH.cons rfl (fun K hK => ?_) AllReadyH.nil
            go_simp
            have hb6 := Blk.new W4 27 #[.int .i64 0, .bool false, .int .i64 0, .string ⟨#[]⟩, .slice none 0 0, .slice none 0 0]
            have hle6 := HO.out.le
            have hO := HO.out.alloc (.cells #[.int .i64 0, .bool false, .int .i64 0, .string ⟨#[]⟩, .slice none 0 0, .slice none 0 0] 27)
            have hb0 := Hb0.out.alloc (.cells #[.int .i64 0, .bool false, .int .i64 0, .string ⟨#[]⟩, .slice none 0 0, .slice none 0 0] 27)
            have hne06 : b0 ≠ W4.heap.size := by have := Hb0.out.lt; omega
            have hb4 := Hb4.out.alloc (.cells #[.int .i64 0, .bool false, .int .i64 0, .string ⟨#[]⟩, .slice none 0 0, .slice none 0 0] 27)
            have hne46 : b4 ≠ W4.heap.size := by have := Hb4.out.lt; omega
            clear HO Hb0 Hb4
            generalize W4.alloc (.cells #[.int .i64 0, .bool false, .int .i64 0, .string ⟨#[]⟩, .slice none 0 0, .slice none 0 0] 27) = W5 at hO hb0 hb4 hb6 ⊢
            generalize W4.heap.size = b6 at hb6 hle6 hne06 hne46 ⊢
            refine hK.out _ _ (hSS _ hO) (fun hHeld => ?_)
            have Hb0 := Lib.hid hb0
            have Hb4 := Lib.hid hb4
            have Hb6 := Lib.hid hb6
            have HO := Lib.hid hO
            clear hK K hO hb0 hb4 hb6
            (try simp only [List.getElem_toArray, List.getElem_cons_zero, List.getElem_cons_succ, Act.put, List.setIfInBounds_toArray, List.set_cons_zero, List.set_cons_succ])
            refine wpAnyH_ready (rs := [7]) (by kernel_rfl) (by simp) ?_
            refine AllReadyH.cons rfl (fun K hK => ?_) AllReadyH.nil
            have hA := HO.out.put hle6 Hb6.out (obj_rows (v := v) (u := u) ((HO.out.rows _ hmv).2.weak (fun b (h : b < _) => by omega)) ((HO.out.rows _ hmu).2.weak (fun b (h : b < _) => by omega)) Hb0.out hne06 hne46 Hb4.out)
            have hS2 := hSA [] _ _ hA
            rw [if_pos (by rfl)]
            refine wp_store_blk 27 _ _ rfl b6 #[.int .i64 0, .bool false, .int .i64 0, .string ⟨#[]⟩, .slice none 0 0, .slice none 0 0] _ _ rfl rfl Hb6.out rfl jv_size (jv_ones _ _ _ _ _ _ _ _ _ _) ?_
            refine hK.out _ _ hS2 (fun hHeld => ?_)
            have HA := Lib.hid hA
            clear hK K hA hS2 HO Hb0 Hb4 Hb6
            (try simp only [List.getElem_toArray, List.getElem_cons_zero, List.getElem_cons_succ, Act.put, List.setIfInBounds_toArray, List.set_cons_zero, List.set_cons_succ])
            refine wpAnyH_done (by kernel_rfl) ?_ _
            exact ⟨rfl, _, _, _, _, _, _, b6, b0, b4, rfl, HA⟩
          · go_simp
            have hb6 := Blk.new W3 27 #[.int .i64 0, .bool false, .int .i64 0, .string ⟨#[]⟩, .slice none 0 0, .slice none 0 0]
            have hle6 := HO.out.le
            have hO := HO.out.alloc (.cells #[.int .i64 0, .bool false, .int .i64 0, .string ⟨#[]⟩, .slice none 0 0, .slice none 0 0] 27)
            have hb0 := Hb0.out.alloc (.cells #[.int .i64 0, .bool false, .int .i64 0, .string ⟨#[]⟩, .slice none 0 0, .slice none 0 0] 27)
            have hne06 : b0 ≠ W3.heap.size := by have := Hb0.out.lt; omega
            have hb4 := Hb4.out.alloc (.cells #[.int .i64 0, .bool false, .int .i64 0, .string ⟨#[]⟩, .slice none 0 0, .slice none 0 0] 27)
            have hne46 : b4 ≠ W3.heap.size := by have := Hb4.out.lt; omega
            clear HO Hb0 Hb4
            generalize W3.alloc (.cells #[.int .i64 0, .bool false, .int .i64 0, .string ⟨#[]⟩, .slice none 0 0, .slice none 0 0] 27) = W4 at hO hb0 hb4 hb6 ⊢
            generalize W3.heap.size = b6 at hb6 hle6 hne06 hne46 ⊢
            refine hK.out _ _ (hSS _ hO) (fun hHeld => ?_)
            have Hb0 := Lib.hid hb0
            have Hb4 := Lib.hid hb4
            have Hb6 := Lib.hid hb6
            have HO := Lib.hid hO
            clear hK K hO hb0 hb4 hb6
            (try simp only [List.getElem_toArray, List.getElem_cons_zero, List.getElem_cons_succ, Act.put, List.setIfInBounds_toArray, List.set_cons_zero, List.set_cons_succ])
            refine wpAnyH_ready (rs := [5]) (by kernel_rfl) (by simp) ?_
            refine AllReadyH.cons rfl (fun K hK => ?_) AllReadyH.nil
            go_simp
            refine (o_walk W4 (some ⟨b0, 0, none⟩) 3 3 (some ⟨b4, 0, none⟩) 3 3).mono ?_
            rintro _ W5 ⟨rfl, hb⟩
            go_simp
            have hO := HO.out.next hb
            have hb0 := Hb0.out.below hb Hb0.out.lt
            have hb4 := Hb4.out.below hb Hb4.out.lt
            have hb6 := Hb6.out.below hb Hb6.out.lt
            clear HO Hb0 Hb4 Hb6
            refine hK.out _ _ (hSS _ hO) (fun hHeld => ?_)
            have Hb0 := Lib.hid hb0
            have Hb4 := Lib.hid hb4
            have Hb6 := Lib.hid hb6
            have HO := Lib.hid hO
            clear hK K hO hb hb0 hb4 hb6
            (try simp only [List.getElem_toArray, List.getElem_cons_zero, List.getElem_cons_succ, Act.put, List.setIfInBounds_toArray, List.set_cons_zero, List.set_cons_succ])
            refine wpAnyH_ready (rs := [7]) (by kernel_rfl) (by simp) ?_
            refine AllReadyH.cons rfl (fun K hK => ?_) AllReadyH.nil
            have hA := HO.out.put hle6 Hb6.out (obj_rows (v := v) (u := u) ((HO.out.rows _ hmv).2.weak (fun b (h : b < _) => by omega)) ((HO.out.rows _ hmu).2.weak (fun b (h : b < _) => by omega)) Hb0.out hne06 hne46 Hb4.out)
            have hS2 := hSA [] _ _ hA
            rw [if_pos (by rfl)]
            refine wp_store_blk 27 _ _ rfl b6 #[.int .i64 0, .bool false, .int .i64 0, .string ⟨#[]⟩, .slice none 0 0, .slice none 0 0] _ _ rfl rfl Hb6.out rfl jv_size (jv_ones _ _ _ _ _ _ _ _ _ _) ?_
            refine hK.out _ _ hS2 (fun hHeld => ?_)
            have HA := Lib.hid hA
            clear hK K hA hS2 HO Hb0 Hb4 Hb6
            (try simp only [List.getElem_toArray, List.getElem_cons_zero, List.getElem_cons_succ, Act.put, List.setIfInBounds_toArray, List.set_cons_zero, List.set_cons_succ])
            refine wpAnyH_done (by kernel_rfl) ?_ _
            exact ⟨rfl, _, _, _, _, _, _, b6, b0, b4, rfl, HA⟩
        · go_simp
          have hb6 := Blk.new W2 27 #[.int .i64 0, .bool false, .int .i64 0, .string ⟨#[]⟩, .slice none 0 0, .slice none 0 0]
          have hle6 := HO.out.le
          have hO := HO.out.alloc (.cells #[.int .i64 0, .bool false, .int .i64 0, .string ⟨#[]⟩, .slice none 0 0, .slice none 0 0] 27)
          have hb0 := Hb0.out.alloc (.cells #[.int .i64 0, .bool false, .int .i64 0, .string ⟨#[]⟩, .slice none 0 0, .slice none 0 0] 27)
          have hne06 : b0 ≠ W2.heap.size := by have := Hb0.out.lt; omega
          clear HO Hb0
          generalize W2.alloc (.cells #[.int .i64 0, .bool false, .int .i64 0, .string ⟨#[]⟩, .slice none 0 0, .slice none 0 0] 27) = W3 at hO hb0 hb6 ⊢
          generalize W2.heap.size = b6 at hb6 hle6 hne06 ⊢
          refine hK.out _ _ (hSS _ hO) (fun hHeld => ?_)
          have Hb0 := Lib.hid hb0
          have Hb6 := Lib.hid hb6
          have HO := Lib.hid hO
          clear hK K hO hb0 hb6
          (try simp only [List.getElem_toArray, List.getElem_cons_zero, List.getElem_cons_succ, Act.put, List.setIfInBounds_toArray, List.set_cons_zero, List.set_cons_succ])
          refine wpAnyH_ready (rs := [4]) (by kernel_rfl) (by simp) ?_
          refine AllReadyH.cons rfl (fun K hK => ?_) AllReadyH.nil
          go_simp
          have hb4 := Blk.new W3 27 #[.int .i64 k1, .bool b1, .int .i64 n1, .string s1, .slice N1 nn1 nc1, .slice A1 m1 c1, .int .i64 k2, .bool b2, .int .i64 n2, .string s2, .slice N2 nn2 nc2, .slice A2 m2 c2, .int .i64 4, .bool false, .int .i64 0, .string ⟨#[120]⟩, .slice none 0 0, .slice none 0 0]
          have hle4 := HO.out.le
          have hO := HO.out.alloc (.cells #[.int .i64 k1, .bool b1, .int .i64 n1, .string s1, .slice N1 nn1 nc1, .slice A1 m1 c1, .int .i64 k2, .bool b2, .int .i64 n2, .string s2, .slice N2 nn2 nc2, .slice A2 m2 c2, .int .i64 4, .bool false, .int .i64 0, .string ⟨#[120]⟩, .slice none 0 0, .slice none 0 0] 27)
          have hb0 := Hb0.out.alloc (.cells #[.int .i64 k1, .bool b1, .int .i64 n1, .string s1, .slice N1 nn1 nc1, .slice A1 m1 c1, .int .i64 k2, .bool b2, .int .i64 n2, .string s2, .slice N2 nn2 nc2, .slice A2 m2 c2, .int .i64 4, .bool false, .int .i64 0, .string ⟨#[120]⟩, .slice none 0 0, .slice none 0 0] 27)
          have hne04 : b0 ≠ W3.heap.size := by have := Hb0.out.lt; omega
          have hb6 := Hb6.out.alloc (.cells #[.int .i64 k1, .bool b1, .int .i64 n1, .string s1, .slice N1 nn1 nc1, .slice A1 m1 c1, .int .i64 k2, .bool b2, .int .i64 n2, .string s2, .slice N2 nn2 nc2, .slice A2 m2 c2, .int .i64 4, .bool false, .int .i64 0, .string ⟨#[120]⟩, .slice none 0 0, .slice none 0 0] 27)
          have hne64 : b6 ≠ W3.heap.size := by have := Hb6.out.lt; omega
          clear HO Hb0 Hb6
          generalize W3.alloc (.cells #[.int .i64 k1, .bool b1, .int .i64 n1, .string s1, .slice N1 nn1 nc1, .slice A1 m1 c1, .int .i64 k2, .bool b2, .int .i64 n2, .string s2, .slice N2 nn2 nc2, .slice A2 m2 c2, .int .i64 4, .bool false, .int .i64 0, .string ⟨#[120]⟩, .slice none 0 0, .slice none 0 0] 27) = W4 at hO hb0 hb6 hb4 ⊢
          generalize W3.heap.size = b4 at hb4 hle4 hne04 hne64 ⊢
          refine hK.out _ _ (hSS _ hO) (fun hHeld => ?_)
          have Hb0 := Lib.hid hb0
          have Hb6 := Lib.hid hb6
          have Hb4 := Lib.hid hb4
          have HO := Lib.hid hO
          clear hK K hO hb0 hb6 hb4
          (try simp only [List.getElem_toArray, List.getElem_cons_zero, List.getElem_cons_succ, Act.put, List.setIfInBounds_toArray, List.set_cons_zero, List.set_cons_succ])
          refine wpAnyH_ready (rs := [5]) (by kernel_rfl) (by simp) ?_
          refine AllReadyH.cons rfl (fun K hK => ?_) AllReadyH.nil
          go_simp
          refine (o_walk W4 (some ⟨b0, 0, none⟩) 3 3 (some ⟨b4, 0, none⟩) 3 3).mono ?_
          rintro _ W5 ⟨rfl, hb⟩
          go_simp
          have hO := HO.out.next hb
          have hb0 := Hb0.out.below hb Hb0.out.lt
          have hb6 := Hb6.out.below hb Hb6.out.lt
          have hb4 := Hb4.out.below hb Hb4.out.lt
          clear HO Hb0 Hb6 Hb4
          refine hK.out _ _ (hSS _ hO) (fun hHeld => ?_)
          have Hb0 := Lib.hid hb0
          have Hb6 := Lib.hid hb6
          have Hb4 := Lib.hid hb4
          have HO := Lib.hid hO
          clear hK K hO hb hb0 hb6 hb4
          (try simp only [List.getElem_toArray, List.getElem_cons_zero, List.getElem_cons_succ, Act.put, List.setIfInBounds_toArray, List.set_cons_zero, List.set_cons_succ])
          refine wpAnyH_ready (rs := [7]) (by kernel_rfl) (by simp) ?_
          refine AllReadyH.cons rfl (fun K hK => ?_) AllReadyH.nil
          have hA := HO.out.put hle6 Hb6.out (obj_rows (v := v) (u := u) ((HO.out.rows _ hmv).2.weak (fun b (h : b < _) => by omega)) ((HO.out.rows _ hmu).2.weak (fun b (h : b < _) => by omega)) Hb0.out hne06 (fun e => hne64 e.symm) Hb4.out)
          have hS2 := hSA [] _ _ hA
          rw [if_pos (by rfl)]
          refine wp_store_blk 27 _ _ rfl b6 #[.int .i64 0, .bool false, .int .i64 0, .string ⟨#[]⟩, .slice none 0 0, .slice none 0 0] _ _ rfl rfl Hb6.out rfl jv_size (jv_ones _ _ _ _ _ _ _ _ _ _) ?_
          refine hK.out _ _ hS2 (fun hHeld => ?_)
          have HA := Lib.hid hA
          clear hK K hA hS2 HO Hb0 Hb4 Hb6
          (try simp only [List.getElem_toArray, List.getElem_cons_zero, List.getElem_cons_succ, Act.put, List.setIfInBounds_toArray, List.set_cons_zero, List.set_cons_succ])
          refine wpAnyH_done (by kernel_rfl) ?_ _
          exact ⟨rfl, _, _, _, _, _, _, b6, b0, b4, rfl, HA⟩
      · go_simp
        have hb6 := Blk.new W1 27 #[.int .i64 0, .bool false, .int .i64 0, .string ⟨#[]⟩, .slice none 0 0, .slice none 0 0]
        have hle6 := HO.out.le
        have hO := HO.out.alloc (.cells #[.int .i64 0, .bool false, .int .i64 0, .string ⟨#[]⟩, .slice none 0 0, .slice none 0 0] 27)
        have hb0 := Hb0.out.alloc (.cells #[.int .i64 0, .bool false, .int .i64 0, .string ⟨#[]⟩, .slice none 0 0, .slice none 0 0] 27)
        have hne06 : b0 ≠ W1.heap.size := by have := Hb0.out.lt; omega
        clear HO Hb0
        generalize W1.alloc (.cells #[.int .i64 0, .bool false, .int .i64 0, .string ⟨#[]⟩, .slice none 0 0, .slice none 0 0] 27) = W2 at hO hb0 hb6 ⊢
        generalize W1.heap.size = b6 at hb6 hle6 hne06 ⊢
        refine hK.out _ _ (hSS _ hO) (fun hHeld => ?_)
        have Hb0 := Lib.hid hb0
        have Hb6 := Lib.hid hb6
        have HO := Lib.hid hO
        clear hK K hO hb0 hb6
        (try simp only [List.getElem_toArray, List.getElem_cons_zero, List.getElem_cons_succ, Act.put, List.setIfInBounds_toArray, List.set_cons_zero, List.set_cons_succ])
        refine wpAnyH_ready (rs := [3]) (by kernel_rfl) (by simp) ?_
        refine AllReadyH.cons rfl (fun K hK => ?_) AllReadyH.nil
        go_simp
        refine (s_walk W2 ⟨#[120]⟩).mono ?_
        rintro _ W3 ⟨rfl, hb⟩
        go_simp
        have hO := HO.out.next hb
        have hb0 := Hb0.out.below hb Hb0.out.lt
        have hb6 := Hb6.out.below hb Hb6.out.lt
        clear HO Hb0 Hb6
        refine hK.out _ _ (hSS _ hO) (fun hHeld => ?_)
        have Hb0 := Lib.hid hb0
        have Hb6 := Lib.hid hb6
        have HO := Lib.hid hO
        clear hK K hO hb hb0 hb6
        (try simp only [List.getElem_toArray, List.getElem_cons_zero, List.getElem_cons_succ, Act.put, List.setIfInBounds_toArray, List.set_cons_zero, List.set_cons_succ])
        refine wpAnyH_ready (rs := [4]) (by kernel_rfl) (by simp) ?_
        refine AllReadyH.cons rfl (fun K hK => ?_) AllReadyH.nil
        go_simp
        have hb4 := Blk.new W3 27 #[.int .i64 k1, .bool b1, .int .i64 n1, .string s1, .slice N1 nn1 nc1, .slice A1 m1 c1, .int .i64 k2, .bool b2, .int .i64 n2, .string s2, .slice N2 nn2 nc2, .slice A2 m2 c2, .int .i64 4, .bool false, .int .i64 0, .string ⟨#[120]⟩, .slice none 0 0, .slice none 0 0]
        have hle4 := HO.out.le
        have hO := HO.out.alloc (.cells #[.int .i64 k1, .bool b1, .int .i64 n1, .string s1, .slice N1 nn1 nc1, .slice A1 m1 c1, .int .i64 k2, .bool b2, .int .i64 n2, .string s2, .slice N2 nn2 nc2, .slice A2 m2 c2, .int .i64 4, .bool false, .int .i64 0, .string ⟨#[120]⟩, .slice none 0 0, .slice none 0 0] 27)
        have hb0 := Hb0.out.alloc (.cells #[.int .i64 k1, .bool b1, .int .i64 n1, .string s1, .slice N1 nn1 nc1, .slice A1 m1 c1, .int .i64 k2, .bool b2, .int .i64 n2, .string s2, .slice N2 nn2 nc2, .slice A2 m2 c2, .int .i64 4, .bool false, .int .i64 0, .string ⟨#[120]⟩, .slice none 0 0, .slice none 0 0] 27)
        have hne04 : b0 ≠ W3.heap.size := by have := Hb0.out.lt; omega
        have hb6 := Hb6.out.alloc (.cells #[.int .i64 k1, .bool b1, .int .i64 n1, .string s1, .slice N1 nn1 nc1, .slice A1 m1 c1, .int .i64 k2, .bool b2, .int .i64 n2, .string s2, .slice N2 nn2 nc2, .slice A2 m2 c2, .int .i64 4, .bool false, .int .i64 0, .string ⟨#[120]⟩, .slice none 0 0, .slice none 0 0] 27)
        have hne64 : b6 ≠ W3.heap.size := by have := Hb6.out.lt; omega
        clear HO Hb0 Hb6
        generalize W3.alloc (.cells #[.int .i64 k1, .bool b1, .int .i64 n1, .string s1, .slice N1 nn1 nc1, .slice A1 m1 c1, .int .i64 k2, .bool b2, .int .i64 n2, .string s2, .slice N2 nn2 nc2, .slice A2 m2 c2, .int .i64 4, .bool false, .int .i64 0, .string ⟨#[120]⟩, .slice none 0 0, .slice none 0 0] 27) = W4 at hO hb0 hb6 hb4 ⊢
        generalize W3.heap.size = b4 at hb4 hle4 hne04 hne64 ⊢
        refine hK.out _ _ (hSS _ hO) (fun hHeld => ?_)
        have Hb0 := Lib.hid hb0
        have Hb6 := Lib.hid hb6
        have Hb4 := Lib.hid hb4
        have HO := Lib.hid hO
        clear hK K hO hb0 hb6 hb4
        (try simp only [List.getElem_toArray, List.getElem_cons_zero, List.getElem_cons_succ, Act.put, List.setIfInBounds_toArray, List.set_cons_zero, List.set_cons_succ])
        refine wpAnyH_ready (rs := [5]) (by kernel_rfl) (by simp) ?_
        refine AllReadyH.cons rfl (fun K hK => ?_) AllReadyH.nil
        go_simp
        refine (o_walk W4 (some ⟨b0, 0, none⟩) 3 3 (some ⟨b4, 0, none⟩) 3 3).mono ?_
        rintro _ W5 ⟨rfl, hb⟩
        go_simp
        have hO := HO.out.next hb
        have hb0 := Hb0.out.below hb Hb0.out.lt
        have hb6 := Hb6.out.below hb Hb6.out.lt
        have hb4 := Hb4.out.below hb Hb4.out.lt
        clear HO Hb0 Hb6 Hb4
        refine hK.out _ _ (hSS _ hO) (fun hHeld => ?_)
        have Hb0 := Lib.hid hb0
        have Hb6 := Lib.hid hb6
        have Hb4 := Lib.hid hb4
        have HO := Lib.hid hO
        clear hK K hO hb hb0 hb6 hb4
        (try simp only [List.getElem_toArray, List.getElem_cons_zero, List.getElem_cons_succ, Act.put, List.setIfInBounds_toArray, List.set_cons_zero, List.set_cons_succ])
        refine wpAnyH_ready (rs := [7]) (by kernel_rfl) (by simp) ?_
        refine AllReadyH.cons rfl (fun K hK => ?_) AllReadyH.nil
        have hA := HO.out.put hle6 Hb6.out (obj_rows (v := v) (u := u) ((HO.out.rows _ hmv).2.weak (fun b (h : b < _) => by omega)) ((HO.out.rows _ hmu).2.weak (fun b (h : b < _) => by omega)) Hb0.out hne06 (fun e => hne64 e.symm) Hb4.out)
        have hS2 := hSA [] _ _ hA
        rw [if_pos (by rfl)]
        refine wp_store_blk 27 _ _ rfl b6 #[.int .i64 0, .bool false, .int .i64 0, .string ⟨#[]⟩, .slice none 0 0, .slice none 0 0] _ _ rfl rfl Hb6.out rfl jv_size (jv_ones _ _ _ _ _ _ _ _ _ _) ?_
        refine hK.out _ _ hS2 (fun hHeld => ?_)
        have HA := Lib.hid hA
        clear hK K hA hS2 HO Hb0 Hb4 Hb6
        (try simp only [List.getElem_toArray, List.getElem_cons_zero, List.getElem_cons_succ, Act.put, List.setIfInBounds_toArray, List.set_cons_zero, List.set_cons_succ])
        refine wpAnyH_done (by kernel_rfl) ?_ _
        exact ⟨rfl, _, _, _, _, _, _, b6, b0, b4, rfl, HA⟩
    · go_simp
      refine (s_walk W0 ⟨#[120]⟩).mono ?_
      rintro _ W1 ⟨rfl, hb⟩
      go_simp
      have hO := HO.out.next hb
      clear HO
      refine hK.out _ _ (hSS _ hO) (fun hHeld => ?_)
      have HO := Lib.hid hO
      clear hK K hO hb
      (try simp only [List.getElem_toArray, List.getElem_cons_zero, List.getElem_cons_succ, Act.put, List.setIfInBounds_toArray, List.set_cons_zero, List.set_cons_succ])
      refine wpAnyH_ready (rs := [0, 4, 6]) (by kernel_rfl) (by simp) ?_
      refine AllReadyH.cons rfl (fun K hK => ?_) ( AllReadyH.cons rfl (fun K hK => ?_) ( AllReadyH.cons rfl (fun K hK => ?_) AllReadyH.nil))
      · go_simp
        have hb0 := Blk.new W1 9 #[.string ⟨#[97]⟩, .string ⟨#[98]⟩, .string ⟨#[99, 49]⟩]
        have hle0 := HO.out.le
        have hO := HO.out.alloc (.cells #[.string ⟨#[97]⟩, .string ⟨#[98]⟩, .string ⟨#[99, 49]⟩] 9)
        clear HO
        generalize W1.alloc (.cells #[.string ⟨#[97]⟩, .string ⟨#[98]⟩, .string ⟨#[99, 49]⟩] 9) = W2 at hO hb0 ⊢
        generalize W1.heap.size = b0 at hb0 hle0 ⊢
        refine hK.out _ _ (hSS _ hO) (fun hHeld => ?_)
        have Hb0 := Lib.hid hb0
        have HO := Lib.hid hO
        clear hK K hO hb0
        (try simp only [List.getElem_toArray, List.getElem_cons_zero, List.getElem_cons_succ, Act.put, List.setIfInBounds_toArray, List.set_cons_zero, List.set_cons_succ])
        refine wpAnyH_ready (rs := [4, 6]) (by kernel_rfl) (by simp) ?_
        refine AllReadyH.cons rfl (fun K hK => ?_) ( AllReadyH.cons rfl (fun K hK => ?_) AllReadyH.nil)
        · go_simp
          have hb4 := Blk.new W2 27 #[.int .i64 k1, .bool b1, .int .i64 n1, .string s1, .slice N1 nn1 nc1, .slice A1 m1 c1, .int .i64 k2, .bool b2, .int .i64 n2, .string s2, .slice N2 nn2 nc2, .slice A2 m2 c2, .int .i64 4, .bool false, .int .i64 0, .string ⟨#[120]⟩, .slice none 0 0, .slice none 0 0]
          have hle4 := HO.out.le
          have hO := HO.out.alloc (.cells #[.int .i64 k1, .bool b1, .int .i64 n1, .string s1, .slice N1 nn1 nc1, .slice A1 m1 c1, .int .i64 k2, .bool b2, .int .i64 n2, .string s2, .slice N2 nn2 nc2, .slice A2 m2 c2, .int .i64 4, .bool false, .int .i64 0, .string ⟨#[120]⟩, .slice none 0 0, .slice none 0 0] 27)
          have hb0 := Hb0.out.alloc (.cells #[.int .i64 k1, .bool b1, .int .i64 n1, .string s1, .slice N1 nn1 nc1, .slice A1 m1 c1, .int .i64 k2, .bool b2, .int .i64 n2, .string s2, .slice N2 nn2 nc2, .slice A2 m2 c2, .int .i64 4, .bool false, .int .i64 0, .string ⟨#[120]⟩, .slice none 0 0, .slice none 0 0] 27)
          have hne04 : b0 ≠ W2.heap.size := by have := Hb0.out.lt; omega
          clear HO Hb0
          generalize W2.alloc (.cells #[.int .i64 k1, .bool b1, .int .i64 n1, .string s1, .slice N1 nn1 nc1, .slice A1 m1 c1, .int .i64 k2, .bool b2, .int .i64 n2, .string s2, .slice N2 nn2 nc2, .slice A2 m2 c2, .int .i64 4, .bool false, .int .i64 0, .string ⟨#[120]⟩, .slice none 0 0, .slice none 0 0] 27) = W3 at hO hb0 hb4 ⊢
          generalize W2.heap.size = b4 at hb4 hle4 hne04 ⊢
          refine hK.out _ _ (hSS _ hO) (fun hHeld => ?_)
          have Hb0 := Lib.hid hb0
          have Hb4 := Lib.hid hb4
          have HO := Lib.hid hO
          clear hK K hO hb0 hb4
          (try simp only [List.getElem_toArray, List.getElem_cons_zero, List.getElem_cons_succ, Act.put, List.setIfInBounds_toArray, List.set_cons_zero, List.set_cons_succ])
          refine wpAnyH_ready (rs := [5, 6]) (by kernel_rfl) (by simp) ?_
          refine AllReadyH.cons rfl (fun K hK => ?_) ( AllReadyH.cons rfl (fun K hK => ?_) AllReadyH.nil)
          · go_simp
            refine (o_walk W3 (some ⟨b0, 0, none⟩) 3 3 (some ⟨b4, 0, none⟩) 3 3).mono ?_
            rintro _ W4 ⟨rfl, hb⟩
            go_simp
            have hO := HO.out.next hb
            have hb0 := Hb0.out.below hb Hb0.out.lt
            have hb4 := Hb4.out.below hb Hb4.out.lt
            clear HO Hb0 Hb4
            refine hK.out _ _ (hSS _ hO) (fun hHeld => ?_)
            have Hb0 := Lib.hid hb0
            have Hb4 := Lib.hid hb4
            have HO := Lib.hid hO
            clear hK K hO hb hb0 hb4
            (try simp only [List.getElem_toArray, List.getElem_cons_zero, List.getElem_cons_succ, Act.put, List.setIfInBounds_toArray, List.set_cons_zero, List.set_cons_succ])
            refine wpAnyH_ready (rs := [6]) (by kernel_rfl) (by simp) ?_
            refine AllReadyH.cons rfl (fun K hK => ?_) AllReadyH.nil
            go_simp
            have hb6 := Blk.new W4 27 #[.int .i64 0, .bool false, .int .i64 0, .string ⟨#[]⟩, .slice none 0 0, .slice none 0 0]
            have hle6 := HO.out.le
            have hO := HO.out.alloc (.cells #[.int .i64 0, .bool false, .int .i64 0, .string ⟨#[]⟩, .slice none 0 0, .slice none 0 0] 27)
            have hb0 := Hb0.out.alloc (.cells #[.int .i64 0, .bool false, .int .i64 0, .string ⟨#[]⟩, .slice none 0 0, .slice none 0 0] 27)
            have hne06 : b0 ≠ W4.heap.size := by have := Hb0.out.lt; omega
            have hb4 := Hb4.out.alloc (.cells #[.int .i64 0, .bool false, .int .i64 0, .string ⟨#[]⟩, .slice none 0 0, .slice none 0 0] 27)
            have hne46 : b4 ≠ W4.heap.size := by have := Hb4.out.lt; omega
            clear HO Hb0 Hb4
            generalize W4.alloc (.cells #[.int .i64 0, .bool false, .int .i64 0, .string ⟨#[]⟩, .slice none 0 0, .slice none 0 0] 27) = W5 at hO hb0 hb4 hb6 ⊢
            generalize W4.heap.size = b6 at hb6 hle6 hne06 hne46 ⊢
            refine hK.out _ _ (hSS _ hO) (fun hHeld => ?_)
            have Hb0 := Lib.hid hb0
            have Hb4 := Lib.hid hb4
            have Hb6 := Lib.hid hb6
            have HO := Lib.hid hO
            clear hK K hO hb0 hb4 hb6
            (try simp only [List.getElem_toArray, List.getElem_cons_zero, List.getElem_cons_succ, Act.put, List.setIfInBounds_toArray, List.set_cons_zero, List.set_cons_succ])
            refine wpAnyH_ready (rs := [7]) (by kernel_rfl) (by simp) ?_
            refine AllReadyH.cons rfl (fun K hK => ?_) AllReadyH.nil
            have hA := HO.out.put hle6 Hb6.out (obj_rows (v := v) (u := u) ((HO.out.rows _ hmv).2.weak (fun b (h : b < _) => by omega)) ((HO.out.rows _ hmu).2.weak (fun b (h : b < _) => by omega)) Hb0.out hne06 hne46 Hb4.out)
            have hS2 := hSA [] _ _ hA
            rw [if_pos (by rfl)]
            refine wp_store_blk 27 _ _ rfl b6 #[.int .i64 0, .bool false, .int .i64 0, .string ⟨#[]⟩, .slice none 0 0, .slice none 0 0] _ _ rfl rfl Hb6.out rfl jv_size (jv_ones _ _ _ _ _ _ _ _ _ _) ?_
            refine hK.out _ _ hS2 (fun hHeld => ?_)
            have HA := Lib.hid hA
            clear hK K hA hS2 HO Hb0 Hb4 Hb6
            (try simp only [List.getElem_toArray, List.getElem_cons_zero, List.getElem_cons_succ, Act.put, List.setIfInBounds_toArray, List.set_cons_zero, List.set_cons_succ])
            refine wpAnyH_done (by kernel_rfl) ?_ _
            exact ⟨rfl, _, _, _, _, _, _, b6, b0, b4, rfl, HA⟩
          · go_simp
            have hb6 := Blk.new W3 27 #[.int .i64 0, .bool false, .int .i64 0, .string ⟨#[]⟩, .slice none 0 0, .slice none 0 0]
            have hle6 := HO.out.le
            have hO := HO.out.alloc (.cells #[.int .i64 0, .bool false, .int .i64 0, .string ⟨#[]⟩, .slice none 0 0, .slice none 0 0] 27)
            have hb0 := Hb0.out.alloc (.cells #[.int .i64 0, .bool false, .int .i64 0, .string ⟨#[]⟩, .slice none 0 0, .slice none 0 0] 27)
            have hne06 : b0 ≠ W3.heap.size := by have := Hb0.out.lt; omega
            have hb4 := Hb4.out.alloc (.cells #[.int .i64 0, .bool false, .int .i64 0, .string ⟨#[]⟩, .slice none 0 0, .slice none 0 0] 27)
            have hne46 : b4 ≠ W3.heap.size := by have := Hb4.out.lt; omega
            clear HO Hb0 Hb4
            generalize W3.alloc (.cells #[.int .i64 0, .bool false, .int .i64 0, .string ⟨#[]⟩, .slice none 0 0, .slice none 0 0] 27) = W4 at hO hb0 hb4 hb6 ⊢
            generalize W3.heap.size = b6 at hb6 hle6 hne06 hne46 ⊢
            refine hK.out _ _ (hSS _ hO) (fun hHeld => ?_)
            have Hb0 := Lib.hid hb0
            have Hb4 := Lib.hid hb4
            have Hb6 := Lib.hid hb6
            have HO := Lib.hid hO
            clear hK K hO hb0 hb4 hb6
            (try simp only [List.getElem_toArray, List.getElem_cons_zero, List.getElem_cons_succ, Act.put, List.setIfInBounds_toArray, List.set_cons_zero, List.set_cons_succ])
            refine wpAnyH_ready (rs := [5]) (by kernel_rfl) (by simp) ?_
            refine AllReadyH.cons rfl (fun K hK => ?_) AllReadyH.nil
            go_simp
            refine (o_walk W4 (some ⟨b0, 0, none⟩) 3 3 (some ⟨b4, 0, none⟩) 3 3).mono ?_
            rintro _ W5 ⟨rfl, hb⟩
            go_simp
            have hO := HO.out.next hb
            have hb0 := Hb0.out.below hb Hb0.out.lt
            have hb4 := Hb4.out.below hb Hb4.out.lt
            have hb6 := Hb6.out.below hb Hb6.out.lt
            clear HO Hb0 Hb4 Hb6
            refine hK.out _ _ (hSS _ hO) (fun hHeld => ?_)
            have Hb0 := Lib.hid hb0
            have Hb4 := Lib.hid hb4
            have Hb6 := Lib.hid hb6
            have HO := Lib.hid hO
            clear hK K hO hb hb0 hb4 hb6
            (try simp only [List.getElem_toArray, List.getElem_cons_zero, List.getElem_cons_succ, Act.put, List.setIfInBounds_toArray, List.set_cons_zero, List.set_cons_succ])
            refine wpAnyH_ready (rs := [7]) (by kernel_rfl) (by simp) ?_
            refine AllReadyH.cons rfl (fun K hK => ?_) AllReadyH.nil
            have hA := HO.out.put hle6 Hb6.out (obj_rows (v := v) (u := u) ((HO.out.rows _ hmv).2.weak (fun b (h : b < _) => by omega)) ((HO.out.rows _ hmu).2.weak (fun b (h : b < _) => by omega)) Hb0.out hne06 hne46 Hb4.out)
            have hS2 := hSA [] _ _ hA
            rw [if_pos (by rfl)]
            refine wp_store_blk 27 _ _ rfl b6 #[.int .i64 0, .bool false, .int .i64 0, .string ⟨#[]⟩, .slice none 0 0, .slice none 0 0] _ _ rfl rfl Hb6.out rfl jv_size (jv_ones _ _ _ _ _ _ _ _ _ _) ?_
            refine hK.out _ _ hS2 (fun hHeld => ?_)
            have HA := Lib.hid hA
            clear hK K hA hS2 HO Hb0 Hb4 Hb6
            (try simp only [List.getElem_toArray, List.getElem_cons_zero, List.getElem_cons_succ, Act.put, List.setIfInBounds_toArray, List.set_cons_zero, List.set_cons_succ])
            refine wpAnyH_done (by kernel_rfl) ?_ _
            exact ⟨rfl, _, _, _, _, _, _, b6, b0, b4, rfl, HA⟩
        · go_simp
          have hb6 := Blk.new W2 27 #[.int .i64 0, .bool false, .int .i64 0, .string ⟨#[]⟩, .slice none 0 0, .slice none 0 0]
          have hle6 := HO.out.le
          have hO := HO.out.alloc (.cells #[.int .i64 0, .bool false, .int .i64 0, .string ⟨#[]⟩, .slice none 0 0, .slice none 0 0] 27)
          have hb0 := Hb0.out.alloc (.cells #[.int .i64 0, .bool false, .int .i64 0, .string ⟨#[]⟩, .slice none 0 0, .slice none 0 0] 27)
          have hne06 : b0 ≠ W2.heap.size := by have := Hb0.out.lt; omega
          clear HO Hb0
          generalize W2.alloc (.cells #[.int .i64 0, .bool false, .int .i64 0, .string ⟨#[]⟩, .slice none 0 0, .slice none 0 0] 27) = W3 at hO hb0 hb6 ⊢
          generalize W2.heap.size = b6 at hb6 hle6 hne06 ⊢
          refine hK.out _ _ (hSS _ hO) (fun hHeld => ?_)
          have Hb0 := Lib.hid hb0
          have Hb6 := Lib.hid hb6
          have HO := Lib.hid hO
          clear hK K hO hb0 hb6
          (try simp only [List.getElem_toArray, List.getElem_cons_zero, List.getElem_cons_succ, Act.put, List.setIfInBounds_toArray, List.set_cons_zero, List.set_cons_succ])
          refine wpAnyH_ready (rs := [4]) (by kernel_rfl) (by simp) ?_
          refine AllReadyH.cons rfl (fun K hK => ?_) AllReadyH.nil
          go_simp
          have hb4 := Blk.new W3 27 #[.int .i64 k1, .bool b1, .int .i64 n1, .string s1, .slice N1 nn1 nc1, .slice A1 m1 c1, .int .i64 k2, .bool b2, .int .i64 n2, .string s2, .slice N2 nn2 nc2, .slice A2 m2 c2, .int .i64 4, .bool false, .int .i64 0, .string ⟨#[120]⟩, .slice none 0 0, .slice none 0 0]
          have hle4 := HO.out.le
          have hO := HO.out.alloc (.cells #[.int .i64 k1, .bool b1, .int .i64 n1, .string s1, .slice N1 nn1 nc1, .slice A1 m1 c1, .int .i64 k2, .bool b2, .int .i64 n2, .string s2, .slice N2 nn2 nc2, .slice A2 m2 c2, .int .i64 4, .bool false, .int .i64 0, .string ⟨#[120]⟩, .slice none 0 0, .slice none 0 0] 27)
          have hb0 := Hb0.out.alloc (.cells #[.int .i64 k1, .bool b1, .int .i64 n1, .string s1, .slice N1 nn1 nc1, .slice A1 m1 c1, .int .i64 k2, .bool b2, .int .i64 n2, .string s2, .slice N2 nn2 nc2, .slice A2 m2 c2, .int .i64 4, .bool false, .int .i64 0, .string ⟨#[120]⟩, .slice none 0 0, .slice none 0 0] 27)
          have hne04 : b0 ≠ W3.heap.size := by have := Hb0.out.lt; omega
          have hb6 := Hb6.out.alloc (.cells #[.int .i64 k1, .bool b1, .int .i64 n1, .string s1, .slice N1 nn1 nc1, .slice A1 m1 c1, .int .i64 k2, .bool b2, .int .i64 n2, .string s2, .slice N2 nn2 nc2, .slice A2 m2 c2, .int .i64 4, .bool false, .int .i64 0, .string ⟨#[120]⟩, .slice none 0 0, .slice none 0 0] 27)
          have hne64 : b6 ≠ W3.heap.size := by have := Hb6.out.lt; omega
          clear HO Hb0 Hb6
          generalize W3.alloc (.cells #[.int .i64 k1, .bool b1, .int .i64 n1, .string s1, .slice N1 nn1 nc1, .slice A1 m1 c1, .int .i64 k2, .bool b2, .int .i64 n2, .string s2, .slice N2 nn2 nc2, .slice A2 m2 c2, .int .i64 4, .bool false, .int .i64 0, .string ⟨#[120]⟩, .slice none 0 0, .slice none 0 0] 27) = W4 at hO hb0 hb6 hb4 ⊢
          generalize W3.heap.size = b4 at hb4 hle4 hne04 hne64 ⊢
          refine hK.out _ _ (hSS _ hO) (fun hHeld => ?_)
          have Hb0 := Lib.hid hb0
          have Hb6 := Lib.hid hb6
          have Hb4 := Lib.hid hb4
          have HO := Lib.hid hO
          clear hK K hO hb0 hb6 hb4
          (try simp only [List.getElem_toArray, List.getElem_cons_zero, List.getElem_cons_succ, Act.put, List.setIfInBounds_toArray, List.set_cons_zero, List.set_cons_succ])
          refine wpAnyH_ready (rs := [5]) (by kernel_rfl) (by simp) ?_
          refine AllReadyH.cons rfl (fun K hK => ?_) AllReadyH.nil
          go_simp
          refine (o_walk W4 (some ⟨b0, 0, none⟩) 3 3 (some ⟨b4, 0, none⟩) 3 3).mono ?_
          rintro _ W5 ⟨rfl, hb⟩
          go_simp
          have hO := HO.out.next hb
          have hb0 := Hb0.out.below hb Hb0.out.lt
          have hb6 := Hb6.out.below hb Hb6.out.lt
          have hb4 := Hb4.out.below hb Hb4.out.lt
          clear HO Hb0 Hb6 Hb4
          refine hK.out _ _ (hSS _ hO) (fun hHeld => ?_)
          have Hb0 := Lib.hid hb0
          have Hb6 := Lib.hid hb6
          have Hb4 := Lib.hid hb4
          have HO := Lib.hid hO
          clear hK K hO hb hb0 hb6 hb4
          (try simp only [List.getElem_toArray, List.getElem_cons_zero, List.getElem_cons_succ, Act.put, List.setIfInBounds_toArray, List.set_cons_zero, List.set_cons_succ])
          refine wpAnyH_ready (rs := [7]) (by kernel_rfl) (by simp) ?_
          refine AllReadyH.cons rfl (fun K hK => ?_) AllReadyH.nil
          have hA := HO.out.put hle6 Hb6.out (obj_rows (v := v) (u := u) ((HO.out.rows _ hmv).2.weak (fun b (h : b < _) => by omega)) ((HO.out.rows _ hmu).2.weak (fun b (h : b < _) => by omega)) Hb0.out hne06 (fun e => hne64 e.symm) Hb4.out)
          have hS2 := hSA [] _ _ hA
          rw [if_pos (by rfl)]
          refine wp_store_blk 27 _ _ rfl b6 #[.int .i64 0, .bool false, .int .i64 0, .string ⟨#[]⟩, .slice none 0 0, .slice none 0 0] _ _ rfl rfl Hb6.out rfl jv_size (jv_ones _ _ _ _ _ _ _ _ _ _) ?_
          refine hK.out _ _ hS2 (fun hHeld => ?_)
          have HA := Lib.hid hA
          clear hK K hA hS2 HO Hb0 Hb4 Hb6
          (try simp only [List.getElem_toArray, List.getElem_cons_zero, List.getElem_cons_succ, Act.put, List.setIfInBounds_toArray, List.set_cons_zero, List.set_cons_succ])
          refine wpAnyH_done (by kernel_rfl) ?_ _
          exact ⟨rfl, _, _, _, _, _, _, b6, b0, b4, rfl, HA⟩
      · go_simp
        have hb4 := Blk.new W1 27 #[.int .i64 k1, .bool b1, .int .i64 n1, .string s1, .slice N1 nn1 nc1, .slice A1 m1 c1, .int .i64 k2, .bool b2, .int .i64 n2, .string s2, .slice N2 nn2 nc2, .slice A2 m2 c2, .int .i64 4, .bool false, .int .i64 0, .string ⟨#[120]⟩, .slice none 0 0, .slice none 0 0]
        have hle4 := HO.out.le
        have hO := HO.out.alloc (.cells #[.int .i64 k1, .bool b1, .int .i64 n1, .string s1, .slice N1 nn1 nc1, .slice A1 m1 c1, .int .i64 k2, .bool b2, .int .i64 n2, .string s2, .slice N2 nn2 nc2, .slice A2 m2 c2, .int .i64 4, .bool false, .int .i64 0, .string ⟨#[120]⟩, .slice none 0 0, .slice none 0 0] 27)
        clear HO
        generalize W1.alloc (.cells #[.int .i64 k1, .bool b1, .int .i64 n1, .string s1, .slice N1 nn1 nc1, .slice A1 m1 c1, .int .i64 k2, .bool b2, .int .i64 n2, .string s2, .slice N2 nn2 nc2, .slice A2 m2 c2, .int .i64 4, .bool false, .int .i64 0, .string ⟨#[120]⟩, .slice none 0 0, .slice none 0 0] 27) = W2 at hO hb4 ⊢
        generalize W1.heap.size = b4 at hb4 hle4 ⊢
        refine hK.out _ _ (hSS _ hO) (fun hHeld => ?_)
        have Hb4 := Lib.hid hb4
        have HO := Lib.hid hO
        clear hK K hO hb4
        (try simp only [List.getElem_toArray, List.getElem_cons_zero, List.getElem_cons_succ, Act.put, List.setIfInBounds_toArray, List.set_cons_zero, List.set_cons_succ])
        refine wpAnyH_ready (rs := [0, 6]) (by kernel_rfl) (by simp) ?_
        refine AllReadyH.cons rfl (fun K hK => ?_) ( AllReadyH.cons rfl (fun K hK => ?_) AllReadyH.nil)
        · go_simp
          have hb0 := Blk.new W2 9 #[.string ⟨#[97]⟩, .string ⟨#[98]⟩, .string ⟨#[99, 49]⟩]
          have hle0 := HO.out.le
          have hO := HO.out.alloc (.cells #[.string ⟨#[97]⟩, .string ⟨#[98]⟩, .string ⟨#[99, 49]⟩] 9)
          have hb4 := Hb4.out.alloc (.cells #[.string ⟨#[97]⟩, .string ⟨#[98]⟩, .string ⟨#[99, 49]⟩] 9)
          have hne40 : b4 ≠ W2.heap.size := by have := Hb4.out.lt; omega
          clear HO Hb4
          generalize W2.alloc (.cells #[.string ⟨#[97]⟩, .string ⟨#[98]⟩, .string ⟨#[99, 49]⟩] 9) = W3 at hO hb4 hb0 ⊢
          generalize W2.heap.size = b0 at hb0 hle0 hne40 ⊢
          refine hK.out _ _ (hSS _ hO) (fun hHeld => ?_)
          have Hb4 := Lib.hid hb4
          have Hb0 := Lib.hid hb0
          have HO := Lib.hid hO
          clear hK K hO hb4 hb0
          (try simp only [List.getElem_toArray, List.getElem_cons_zero, List.getElem_cons_succ, Act.put, List.setIfInBounds_toArray, List.set_cons_zero, List.set_cons_succ])
          refine wpAnyH_ready (rs := [5, 6]) (by kernel_rfl) (by simp) ?_
          refine AllReadyH.cons rfl (fun K hK => ?_) ( AllReadyH.cons rfl (fun K hK => ?_) AllReadyH.nil)
          · go_simp
            refine (o_walk W3 (some ⟨b0, 0, none⟩) 3 3 (some ⟨b4, 0, none⟩) 3 3).mono ?_
            rintro _ W4 ⟨rfl, hb⟩
            go_simp
            have hO := HO.out.next hb
            have hb4 := Hb4.out.below hb Hb4.out.lt
            have hb0 := Hb0.out.below hb Hb0.out.lt
            clear HO Hb4 Hb0
            refine hK.out _ _ (hSS _ hO) (fun hHeld => ?_)
            have Hb4 := Lib.hid hb4
            have Hb0 := Lib.hid hb0
            have HO := Lib.hid hO
            clear hK K hO hb hb4 hb0
            (try simp only [List.getElem_toArray, List.getElem_cons_zero, List.getElem_cons_succ, Act.put, List.setIfInBounds_toArray, List.set_cons_zero, List.set_cons_succ])
            refine wpAnyH_ready (rs := [6]) (by kernel_rfl) (by simp) ?_
            refine AllReadyH.cons rfl (fun K hK => ?_) AllReadyH.nil
            go_simp
            have hb6 := Blk.new W4 27 #[.int .i64 0, .bool false, .int .i64 0, .string ⟨#[]⟩, .slice none 0 0, .slice none 0 0]
            have hle6 := HO.out.le
            have hO := HO.out.alloc (.cells #[.int .i64 0, .bool false, .int .i64 0, .string ⟨#[]⟩, .slice none 0 0, .slice none 0 0] 27)
            have hb4 := Hb4.out.alloc (.cells #[.int .i64 0, .bool false, .int .i64 0, .string ⟨#[]⟩, .slice none 0 0, .slice none 0 0] 27)
            have hne46 : b4 ≠ W4.heap.size := by have := Hb4.out.lt; omega
            have hb0 := Hb0.out.alloc (.cells #[.int .i64 0, .bool false, .int .i64 0, .string ⟨#[]⟩, .slice none 0 0, .slice none 0 0] 27)
            have hne06 : b0 ≠ W4.heap.size := by have := Hb0.out.lt; omega
            clear HO Hb4 Hb0
            generalize W4.alloc (.cells #[.int .i64 0, .bool false, .int .i64 0, .string ⟨#[]⟩, .slice none 0 0, .slice none 0 0] 27) = W5 at hO hb4 hb0 hb6 ⊢
            generalize W4.heap.size = b6 at hb6 hle6 hne46 hne06 ⊢
            refine hK.out _ _ (hSS _ hO) (fun hHeld => ?_)
            have Hb4 := Lib.hid hb4
            have Hb0 := Lib.hid hb0
            have Hb6 := Lib.hid hb6
            have HO := Lib.hid hO
            clear hK K hO hb4 hb0 hb6
            (try simp only [List.getElem_toArray, List.getElem_cons_zero, List.getElem_cons_succ, Act.put, List.setIfInBounds_toArray, List.set_cons_zero, List.set_cons_succ])
            refine wpAnyH_ready (rs := [7]) (by kernel_rfl) (by simp) ?_
            refine AllReadyH.cons rfl (fun K hK => ?_) AllReadyH.nil
            have hA := HO.out.put hle6 Hb6.out (obj_rows (v := v) (u := u) ((HO.out.rows _ hmv).2.weak (fun b (h : b < _) => by omega)) ((HO.out.rows _ hmu).2.weak (fun b (h : b < _) => by omega)) Hb0.out hne06 hne46 Hb4.out)
            have hS2 := hSA [] _ _ hA
            rw [if_pos (by rfl)]
            refine wp_store_blk 27 _ _ rfl b6 #[.int .i64 0, .bool false, .int .i64 0, .string ⟨#[]⟩, .slice none 0 0, .slice none 0 0] _ _ rfl rfl Hb6.out rfl jv_size (jv_ones _ _ _ _ _ _ _ _ _ _) ?_
            refine hK.out _ _ hS2 (fun hHeld => ?_)
            have HA := Lib.hid hA
            clear hK K hA hS2 HO Hb0 Hb4 Hb6
            (try simp only [List.getElem_toArray, List.getElem_cons_zero, List.getElem_cons_succ, Act.put, List.setIfInBounds_toArray, List.set_cons_zero, List.set_cons_succ])
            refine wpAnyH_done (by kernel_rfl) ?_ _
            exact ⟨rfl, _, _, _, _, _, _, b6, b0, b4, rfl, HA⟩
          · go_simp
            have hb6 := Blk.new W3 27 #[.int .i64 0, .bool false, .int .i64 0, .string ⟨#[]⟩, .slice none 0 0, .slice none 0 0]
            have hle6 := HO.out.le
            have hO := HO.out.alloc (.cells #[.int .i64 0, .bool false, .int .i64 0, .string ⟨#[]⟩, .slice none 0 0, .slice none 0 0] 27)
            have hb4 := Hb4.out.alloc (.cells #[.int .i64 0, .bool false, .int .i64 0, .string ⟨#[]⟩, .slice none 0 0, .slice none 0 0] 27)
            have hne46 : b4 ≠ W3.heap.size := by have := Hb4.out.lt; omega
            have hb0 := Hb0.out.alloc (.cells #[.int .i64 0, .bool false, .int .i64 0, .string ⟨#[]⟩, .slice none 0 0, .slice none 0 0] 27)
            have hne06 : b0 ≠ W3.heap.size := by have := Hb0.out.lt; omega
            clear HO Hb4 Hb0
            generalize W3.alloc (.cells #[.int .i64 0, .bool false, .int .i64 0, .string ⟨#[]⟩, .slice none 0 0, .slice none 0 0] 27) = W4 at hO hb4 hb0 hb6 ⊢
            generalize W3.heap.size = b6 at hb6 hle6 hne46 hne06 ⊢
            refine hK.out _ _ (hSS _ hO) (fun hHeld => ?_)
            have Hb4 := Lib.hid hb4
            have Hb0 := Lib.hid hb0
            have Hb6 := Lib.hid hb6
            have HO := Lib.hid hO
            clear hK K hO hb4 hb0 hb6
            (try simp only [List.getElem_toArray, List.getElem_cons_zero, List.getElem_cons_succ, Act.put, List.setIfInBounds_toArray, List.set_cons_zero, List.set_cons_succ])
            refine wpAnyH_ready (rs := [5]) (by kernel_rfl) (by simp) ?_
            refine AllReadyH.cons rfl (fun K hK => ?_) AllReadyH.nil
            go_simp
            refine (o_walk W4 (some ⟨b0, 0, none⟩) 3 3 (some ⟨b4, 0, none⟩) 3 3).mono ?_
            rintro _ W5 ⟨rfl, hb⟩
            go_simp
            have hO := HO.out.next hb
            have hb4 := Hb4.out.below hb Hb4.out.lt
            have hb0 := Hb0.out.below hb Hb0.out.lt
            have hb6 := Hb6.out.below hb Hb6.out.lt
            clear HO Hb4 Hb0 Hb6
            refine hK.out _ _ (hSS _ hO) (fun hHeld => ?_)
            have Hb4 := Lib.hid hb4
            have Hb0 := Lib.hid hb0
            have Hb6 := Lib.hid hb6
            have HO := Lib.hid hO
            clear hK K hO hb hb4 hb0 hb6
            (try simp only [List.getElem_toArray, List.getElem_cons_zero, List.getElem_cons_succ, Act.put, List.setIfInBounds_toArray, List.set_cons_zero, List.set_cons_succ])
            refine wpAnyH_ready (rs := [7]) (by kernel_rfl) (by simp) ?_
            refine AllReadyH.cons rfl (fun K hK => ?_) AllReadyH.nil
            have hA := HO.out.put hle6 Hb6.out (obj_rows (v := v) (u := u) ((HO.out.rows _ hmv).2.weak (fun b (h : b < _) => by omega)) ((HO.out.rows _ hmu).2.weak (fun b (h : b < _) => by omega)) Hb0.out hne06 hne46 Hb4.out)
            have hS2 := hSA [] _ _ hA
            rw [if_pos (by rfl)]
            refine wp_store_blk 27 _ _ rfl b6 #[.int .i64 0, .bool false, .int .i64 0, .string ⟨#[]⟩, .slice none 0 0, .slice none 0 0] _ _ rfl rfl Hb6.out rfl jv_size (jv_ones _ _ _ _ _ _ _ _ _ _) ?_
            refine hK.out _ _ hS2 (fun hHeld => ?_)
            have HA := Lib.hid hA
            clear hK K hA hS2 HO Hb0 Hb4 Hb6
            (try simp only [List.getElem_toArray, List.getElem_cons_zero, List.getElem_cons_succ, Act.put, List.setIfInBounds_toArray, List.set_cons_zero, List.set_cons_succ])
            refine wpAnyH_done (by kernel_rfl) ?_ _
            exact ⟨rfl, _, _, _, _, _, _, b6, b0, b4, rfl, HA⟩
        · go_simp
          have hb6 := Blk.new W2 27 #[.int .i64 0, .bool false, .int .i64 0, .string ⟨#[]⟩, .slice none 0 0, .slice none 0 0]
          have hle6 := HO.out.le
          have hO := HO.out.alloc (.cells #[.int .i64 0, .bool false, .int .i64 0, .string ⟨#[]⟩, .slice none 0 0, .slice none 0 0] 27)
          have hb4 := Hb4.out.alloc (.cells #[.int .i64 0, .bool false, .int .i64 0, .string ⟨#[]⟩, .slice none 0 0, .slice none 0 0] 27)
          have hne46 : b4 ≠ W2.heap.size := by have := Hb4.out.lt; omega
          clear HO Hb4
          generalize W2.alloc (.cells #[.int .i64 0, .bool false, .int .i64 0, .string ⟨#[]⟩, .slice none 0 0, .slice none 0 0] 27) = W3 at hO hb4 hb6 ⊢
          generalize W2.heap.size = b6 at hb6 hle6 hne46 ⊢
          refine hK.out _ _ (hSS _ hO) (fun hHeld => ?_)
          have Hb4 := Lib.hid hb4
          have Hb6 := Lib.hid hb6
          have HO := Lib.hid hO
          clear hK K hO hb4 hb6
          (try simp only [List.getElem_toArray, List.getElem_cons_zero, List.getElem_cons_succ, Act.put, List.setIfInBounds_toArray, List.set_cons_zero, List.set_cons_succ])
          refine wpAnyH_ready (rs := [0]) (by kernel_rfl) (by simp) ?_
          refine AllReadyH.cons rfl (fun K hK => ?_) AllReadyH.nil
          go_simp
          have hb0 := Blk.new W3 9 #[.string ⟨#[97]⟩, .string ⟨#[98]⟩, .string ⟨#[99, 49]⟩]
          have hle0 := HO.out.le
          have hO := HO.out.alloc (.cells #[.string ⟨#[97]⟩, .string ⟨#[98]⟩, .string ⟨#[99, 49]⟩] 9)
          have hb4 := Hb4.out.alloc (.cells #[.string ⟨#[97]⟩, .string ⟨#[98]⟩, .string ⟨#[99, 49]⟩] 9)
          have hne40 : b4 ≠ W3.heap.size := by have := Hb4.out.lt; omega
          have hb6 := Hb6.out.alloc (.cells #[.string ⟨#[97]⟩, .string ⟨#[98]⟩, .string ⟨#[99, 49]⟩] 9)
          have hne60 : b6 ≠ W3.heap.size := by have := Hb6.out.lt; omega
          clear HO Hb4 Hb6
          generalize W3.alloc (.cells #[.string ⟨#[97]⟩, .string ⟨#[98]⟩, .string ⟨#[99, 49]⟩] 9) = W4 at hO hb4 hb6 hb0 ⊢
          generalize W3.heap.size = b0 at hb0 hle0 hne40 hne60 ⊢
          refine hK.out _ _ (hSS _ hO) (fun hHeld => ?_)
          have Hb4 := Lib.hid hb4
          have Hb6 := Lib.hid hb6
          have Hb0 := Lib.hid hb0
          have HO := Lib.hid hO
          clear hK K hO hb4 hb6 hb0
          (try simp only [List.getElem_toArray, List.getElem_cons_zero, List.getElem_cons_succ, Act.put, List.setIfInBounds_toArray, List.set_cons_zero, List.set_cons_succ])
          refine wpAnyH_ready (rs := [5]) (by kernel_rfl) (by simp) ?_
          refine AllReadyH.cons rfl (fun K hK => ?_) AllReadyH.nil
          go_simp
          refine (o_walk W4 (some ⟨b0, 0, none⟩) 3 3 (some ⟨b4, 0, none⟩) 3 3).mono ?_
          rintro _ W5 ⟨rfl, hb⟩
          go_simp
          have hO := HO.out.next hb
          have hb4 := Hb4.out.below hb Hb4.out.lt
          have hb6 := Hb6.out.below hb Hb6.out.lt
          have hb0 := Hb0.out.below hb Hb0.out.lt
          clear HO Hb4 Hb6 Hb0
          refine hK.out _ _ (hSS _ hO) (fun hHeld => ?_)
          have Hb4 := Lib.hid hb4
          have Hb6 := Lib.hid hb6
          have Hb0 := Lib.hid hb0
          have HO := Lib.hid hO
          clear hK K hO hb hb4 hb6 hb0
          (try simp only [List.getElem_toArray, List.getElem_cons_zero, List.getElem_cons_succ, Act.put, List.setIfInBounds_toArray, List.set_cons_zero, List.set_cons_succ])
          refine wpAnyH_ready (rs := [7]) (by kernel_rfl) (by simp) ?_
          refine AllReadyH.cons rfl (fun K hK => ?_) AllReadyH.nil
          have hA := HO.out.put hle6 Hb6.out (obj_rows (v := v) (u := u) ((HO.out.rows _ hmv).2.weak (fun b (h : b < _) => by omega)) ((HO.out.rows _ hmu).2.weak (fun b (h : b < _) => by omega)) Hb0.out (fun e => hne60 e.symm) hne46 Hb4.out)
          have hS2 := hSA [] _ _ hA
          rw [if_pos (by rfl)]
          refine wp_store_blk 27 _ _ rfl b6 #[.int .i64 0, .bool false, .int .i64 0, .string ⟨#[]⟩, .slice none 0 0, .slice none 0 0] _ _ rfl rfl Hb6.out rfl jv_size (jv_ones _ _ _ _ _ _ _ _ _ _) ?_
          refine hK.out _ _ hS2 (fun hHeld => ?_)
          have HA := Lib.hid hA
          clear hK K hA hS2 HO Hb0 Hb4 Hb6
          (try simp only [List.getElem_toArray, List.getElem_cons_zero, List.getElem_cons_succ, Act.put, List.setIfInBounds_toArray, List.set_cons_zero, List.set_cons_succ])
          refine wpAnyH_done (by kernel_rfl) ?_ _
          exact ⟨rfl, _, _, _, _, _, _, b6, b0, b4, rfl, HA⟩
      · go_simp
        have hb6 := Blk.new W1 27 #[.int .i64 0, .bool false, .int .i64 0, .string ⟨#[]⟩, .slice none 0 0, .slice none 0 0]
        have hle6 := HO.out.le
        have hO := HO.out.alloc (.cells #[.int .i64 0, .bool false, .int .i64 0, .string ⟨#[]⟩, .slice none 0 0, .slice none 0 0] 27)
        clear HO
        generalize W1.alloc (.cells #[.int .i64 0, .bool false, .int .i64 0, .string ⟨#[]⟩, .slice none 0 0, .slice none 0 0] 27) = W2 at hO hb6 ⊢
        generalize W1.heap.size = b6 at hb6 hle6 ⊢
        refine hK.out _ _ (hSS _ hO) (fun hHeld => ?_)
        have Hb6 := Lib.hid hb6
        have HO := Lib.hid hO
        clear hK K hO hb6
        (try simp only [List.getElem_toArray, List.getElem_cons_zero, List.getElem_cons_succ, Act.put, List.setIfInBounds_toArray, List.set_cons_zero, List.set_cons_succ])
        refine wpAnyH_ready (rs := [0, 4]) (by kernel_rfl) (by simp) ?_
        refine AllReadyH.cons rfl (fun K hK => ?_) ( AllReadyH.cons rfl (fun K hK => ?_) AllReadyH.nil)
        · go_simp
          have hb0 := Blk.new W2 9 #[.string ⟨#[97]⟩, .string ⟨#[98]⟩, .string ⟨#[99, 49]⟩]
          have hle0 := HO.out.le
          have hO := HO.out.alloc (.cells #[.string ⟨#[97]⟩, .string ⟨#[98]⟩, .string ⟨#[99, 49]⟩] 9)
          have hb6 := Hb6.out.alloc (.cells #[.string ⟨#[97]⟩, .string ⟨#[98]⟩, .string ⟨#[99, 49]⟩] 9)
          have hne60 : b6 ≠ W2.heap.size := by have := Hb6.out.lt; omega
          clear HO Hb6
          generalize W2.alloc (.cells #[.string ⟨#[97]⟩, .string ⟨#[98]⟩, .string ⟨#[99, 49]⟩] 9) = W3 at hO hb6 hb0 ⊢
          generalize W2.heap.size = b0 at hb0 hle0 hne60 ⊢
          refine hK.out _ _ (hSS _ hO) (fun hHeld => ?_)
          have Hb6 := Lib.hid hb6
          have Hb0 := Lib.hid hb0
          have HO := Lib.hid hO
          clear hK K hO hb6 hb0
          (try simp only [List.getElem_toArray, List.getElem_cons_zero, List.getElem_cons_succ, Act.put, List.setIfInBounds_toArray, List.set_cons_zero, List.set_cons_succ])
          refine wpAnyH_ready (rs := [4]) (by kernel_rfl) (by simp) ?_
          refine AllReadyH.cons rfl (fun K hK => ?_) AllReadyH.nil
          go_simp
          have hb4 := Blk.new W3 27 #[.int .i64 k1, .bool b1, .int .i64 n1, .string s1, .slice N1 nn1 nc1, .slice A1 m1 c1, .int .i64 k2, .bool b2, .int .i64 n2, .string s2, .slice N2 nn2 nc2, .slice A2 m2 c2, .int .i64 4, .bool false, .int .i64 0, .string ⟨#[120]⟩, .slice none 0 0, .slice none 0 0]
          have hle4 := HO.out.le
          have hO := HO.out.alloc (.cells #[.int .i64 k1, .bool b1, .int .i64 n1, .string s1, .slice N1 nn1 nc1, .slice A1 m1 c1, .int .i64 k2, .bool b2, .int .i64 n2, .string s2, .slice N2 nn2 nc2, .slice A2 m2 c2, .int .i64 4, .bool false, .int .i64 0, .string ⟨#[120]⟩, .slice none 0 0, .slice none 0 0] 27)
          have hb6 := Hb6.out.alloc (.cells #[.int .i64 k1, .bool b1, .int .i64 n1, .string s1, .slice N1 nn1 nc1, .slice A1 m1 c1, .int .i64 k2, .bool b2, .int .i64 n2, .string s2, .slice N2 nn2 nc2, .slice A2 m2 c2, .int .i64 4, .bool false, .int .i64 0, .string ⟨#[120]⟩, .slice none 0 0, .slice none 0 0] 27)
          have hne64 : b6 ≠ W3.heap.size := by have := Hb6.out.lt; omega
          have hb0 := Hb0.out.alloc (.cells #[.int .i64 k1, .bool b1, .int .i64 n1, .string s1, .slice N1 nn1 nc1, .slice A1 m1 c1, .int .i64 k2, .bool b2, .int .i64 n2, .string s2, .slice N2 nn2 nc2, .slice A2 m2 c2, .int .i64 4, .bool false, .int .i64 0, .string ⟨#[120]⟩, .slice none 0 0, .slice none 0 0] 27)
          have hne04 : b0 ≠ W3.heap.size := by have := Hb0.out.lt; omega
          clear HO Hb6 Hb0
          generalize W3.alloc (.cells #[.int .i64 k1, .bool b1, .int .i64 n1, .string s1, .slice N1 nn1 nc1, .slice A1 m1 c1, .int .i64 k2, .bool b2, .int .i64 n2, .string s2, .slice N2 nn2 nc2, .slice A2 m2 c2, .int .i64 4, .bool false, .int .i64 0, .string ⟨#[120]⟩, .slice none 0 0, .slice none 0 0] 27) = W4 at hO hb6 hb0 hb4 ⊢
          generalize W3.heap.size = b4 at hb4 hle4 hne64 hne04 ⊢
          refine hK.out _ _ (hSS _ hO) (fun hHeld => ?_)
          have Hb6 := Lib.hid hb6
          have Hb0 := Lib.hid hb0
          have Hb4 := Lib.hid hb4
          have HO := Lib.hid hO
          clear hK K hO hb6 hb0 hb4
          (try simp only [List.getElem_toArray, List.getElem_cons_zero, List.getElem_cons_succ, Act.put, List.setIfInBounds_toArray, List.set_cons_zero, List.set_cons_succ])
          refine wpAnyH_ready (rs := [5]) (by kernel_rfl) (by simp) ?_
          refine AllReadyH.cons rfl (fun K hK => ?_) AllReadyH.nil
          go_simp
          refine (o_walk W4 (some ⟨b0, 0, none⟩) 3 3 (some ⟨b4, 0, none⟩) 3 3).mono ?_
          rintro _ W5 ⟨rfl, hb⟩
          go_simp
          have hO := HO.out.next hb
          have hb6 := Hb6.out.below hb Hb6.out.lt
          have hb0 := Hb0.out.below hb Hb0.out.lt
          have hb4 := Hb4.out.below hb Hb4.out.lt
          clear HO Hb6 Hb0 Hb4
          refine hK.out _ _ (hSS _ hO) (fun hHeld => ?_)
          have Hb6 := Lib.hid hb6
          have Hb0 := Lib.hid hb0
          have Hb4 := Lib.hid hb4
          have HO := Lib.hid hO
          clear hK K hO hb hb6 hb0 hb4
          (try simp only [List.getElem_toArray, List.getElem_cons_zero, List.getElem_cons_succ, Act.put, List.setIfInBounds_toArray, List.set_cons_zero, List.set_cons_succ])
          refine wpAnyH_ready (rs := [7]) (by kernel_rfl) (by simp) ?_
          refine AllReadyH.cons rfl (fun K hK => ?_) AllReadyH.nil
          have hA := HO.out.put hle6 Hb6.out (obj_rows (v := v) (u := u) ((HO.out.rows _ hmv).2.weak (fun b (h : b < _) => by omega)) ((HO.out.rows _ hmu).2.weak (fun b (h : b < _) => by omega)) Hb0.out (fun e => hne60 e.symm) (fun e => hne64 e.symm) Hb4.out)
          have hS2 := hSA [] _ _ hA
          rw [if_pos (by rfl)]
          refine wp_store_blk 27 _ _ rfl b6 #[.int .i64 0, .bool false, .int .i64 0, .string ⟨#[]⟩, .slice none 0 0, .slice none 0 0] _ _ rfl rfl Hb6.out rfl jv_size (jv_ones _ _ _ _ _ _ _ _ _ _) ?_
          refine hK.out _ _ hS2 (fun hHeld => ?_)
          have HA := Lib.hid hA
          clear hK K hA hS2 HO Hb0 Hb4 Hb6
          (try simp only [List.getElem_toArray, List.getElem_cons_zero, List.getElem_cons_succ, Act.put, List.setIfInBounds_toArray, List.set_cons_zero, List.set_cons_succ])
          refine wpAnyH_done (by kernel_rfl) ?_ _
          exact ⟨rfl, _, _, _, _, _, _, b6, b0, b4, rfl, HA⟩
        · go_simp
          have hb4 := Blk.new W2 27 #[.int .i64 k1, .bool b1, .int .i64 n1, .string s1, .slice N1 nn1 nc1, .slice A1 m1 c1, .int .i64 k2, .bool b2, .int .i64 n2, .string s2, .slice N2 nn2 nc2, .slice A2 m2 c2, .int .i64 4, .bool false, .int .i64 0, .string ⟨#[120]⟩, .slice none 0 0, .slice none 0 0]
          have hle4 := HO.out.le
          have hO := HO.out.alloc (.cells #[.int .i64 k1, .bool b1, .int .i64 n1, .string s1, .slice N1 nn1 nc1, .slice A1 m1 c1, .int .i64 k2, .bool b2, .int .i64 n2, .string s2, .slice N2 nn2 nc2, .slice A2 m2 c2, .int .i64 4, .bool false, .int .i64 0, .string ⟨#[120]⟩, .slice none 0 0, .slice none 0 0] 27)
          have hb6 := Hb6.out.alloc (.cells #[.int .i64 k1, .bool b1, .int .i64 n1, .string s1, .slice N1 nn1 nc1, .slice A1 m1 c1, .int .i64 k2, .bool b2, .int .i64 n2, .string s2, .slice N2 nn2 nc2, .slice A2 m2 c2, .int .i64 4, .bool false, .int .i64 0, .string ⟨#[120]⟩, .slice none 0 0, .slice none 0 0] 27)
          have hne64 : b6 ≠ W2.heap.size := by have := Hb6.out.lt; omega
          clear HO Hb6
          generalize W2.alloc (.cells #[.int .i64 k1, .bool b1, .int .i64 n1, .string s1, .slice N1 nn1 nc1, .slice A1 m1 c1, .int .i64 k2, .bool b2, .int .i64 n2, .string s2, .slice N2 nn2 nc2, .slice A2 m2 c2, .int .i64 4, .bool false, .int .i64 0, .string ⟨#[120]⟩, .slice none 0 0, .slice none 0 0] 27) = W3 at hO hb6 hb4 ⊢
          generalize W2.heap.size = b4 at hb4 hle4 hne64 ⊢
          refine hK.out _ _ (hSS _ hO) (fun hHeld => ?_)
          have Hb6 := Lib.hid hb6
          have Hb4 := Lib.hid hb4
          have HO := Lib.hid hO
          clear hK K hO hb6 hb4
          (try simp only [List.getElem_toArray, List.getElem_cons_zero, List.getElem_cons_succ, Act.put, List.setIfInBounds_toArray, List.set_cons_zero, List.set_cons_succ])
          refine wpAnyH_ready (rs := [0]) (by kernel_rfl) (by simp) ?_
          refine AllReadyH.cons rfl (fun K hK => ?_) AllReadyH.nil
          go_simp
          have hb0 := Blk.new W3 9 #[.string ⟨#[97]⟩, .string ⟨#[98]⟩, .string ⟨#[99, 49]⟩]
          have hle0 := HO.out.le
          have hO := HO.out.alloc (.cells #[.string ⟨#[97]⟩, .string ⟨#[98]⟩, .string ⟨#[99, 49]⟩] 9)
          have hb6 := Hb6.out.alloc (.cells #[.string ⟨#[97]⟩, .string ⟨#[98]⟩, .string ⟨#[99, 49]⟩] 9)
          have hne60 : b6 ≠ W3.heap.size := by have := Hb6.out.lt; omega
          have hb4 := Hb4.out.alloc (.cells #[.string ⟨#[97]⟩, .string ⟨#[98]⟩, .string ⟨#[99, 49]⟩] 9)
          have hne40 : b4 ≠ W3.heap.size := by have := Hb4.out.lt; omega
          clear HO Hb6 Hb4
          generalize W3.alloc (.cells #[.string ⟨#[97]⟩, .string ⟨#[98]⟩, .string ⟨#[99, 49]⟩] 9) = W4 at hO hb6 hb4 hb0 ⊢
          generalize W3.heap.size = b0 at hb0 hle0 hne60 hne40 ⊢
          refine hK.out _ _ (hSS _ hO) (fun hHeld => ?_)
          have Hb6 := Lib.hid hb6
          have Hb4 := Lib.hid hb4
          have Hb0 := Lib.hid hb0
          have HO := Lib.hid hO
          clear hK K hO hb6 hb4 hb0
          (try simp only [List.getElem_toArray, List.getElem_cons_zero, List.getElem_cons_succ, Act.put, List.setIfInBounds_toArray, List.set_cons_zero, List.set_cons_succ])
          refine wpAnyH_ready (rs := [5]) (by kernel_rfl) (by simp) ?_
          refine AllReadyH.cons rfl (fun K hK => ?_) AllReadyH.nil
          go_simp
          refine (o_walk W4 (some ⟨b0, 0, none⟩) 3 3 (some ⟨b4, 0, none⟩) 3 3).mono ?_
          rintro _ W5 ⟨rfl, hb⟩
          go_simp
          have hO := HO.out.next hb
          have hb6 := Hb6.out.below hb Hb6.out.lt
          have hb4 := Hb4.out.below hb Hb4.out.lt
          have hb0 := Hb0.out.below hb Hb0.out.lt
          clear HO Hb6 Hb4 Hb0
          refine hK.out _ _ (hSS _ hO) (fun hHeld => ?_)
          have Hb6 := Lib.hid hb6
          have Hb4 := Lib.hid hb4
          have Hb0 := Lib.hid hb0
          have HO := Lib.hid hO
          clear hK K hO hb hb6 hb4 hb0
          (try simp only [List.getElem_toArray, List.getElem_cons_zero, List.getElem_cons_succ, Act.put, List.setIfInBounds_toArray, List.set_cons_zero, List.set_cons_succ])
          refine wpAnyH_ready (rs := [7]) (by kernel_rfl) (by simp) ?_
          refine AllReadyH.cons rfl (fun K hK => ?_) AllReadyH.nil
          have hA := HO.out.put hle6 Hb6.out (obj_rows (v := v) (u := u) ((HO.out.rows _ hmv).2.weak (fun b (h : b < _) => by omega)) ((HO.out.rows _ hmu).2.weak (fun b (h : b < _) => by omega)) Hb0.out (fun e => hne60 e.symm) (fun e => hne64 e.symm) Hb4.out)
          have hS2 := hSA [] _ _ hA
          rw [if_pos (by rfl)]
          refine wp_store_blk 27 _ _ rfl b6 #[.int .i64 0, .bool false, .int .i64 0, .string ⟨#[]⟩, .slice none 0 0, .slice none 0 0] _ _ rfl rfl Hb6.out rfl jv_size (jv_ones _ _ _ _ _ _ _ _ _ _) ?_
          refine hK.out _ _ hS2 (fun hHeld => ?_)
          have HA := Lib.hid hA
          clear hK K hA hS2 HO Hb0 Hb4 Hb6
          (try simp only [List.getElem_toArray, List.getElem_cons_zero, List.getElem_cons_succ, Act.put, List.setIfInBounds_toArray, List.set_cons_zero, List.set_cons_succ])
          refine wpAnyH_done (by kernel_rfl) ?_ _
          exact ⟨rfl, _, _, _, _, _, _, b6, b0, b4, rfl, HA⟩
    · go_simp
      have hb6 := Blk.new W0 27 #[.int .i64 0, .bool false, .int .i64 0, .string ⟨#[]⟩, .slice none 0 0, .slice none 0 0]
      have hle6 := HO.out.le
      have hO := HO.out.alloc (.cells #[.int .i64 0, .bool false, .int .i64 0, .string ⟨#[]⟩, .slice none 0 0, .slice none 0 0] 27)
      clear HO
      generalize W0.alloc (.cells #[.int .i64 0, .bool false, .int .i64 0, .string ⟨#[]⟩, .slice none 0 0, .slice none 0 0] 27) = W1 at hO hb6 ⊢
      generalize W0.heap.size = b6 at hb6 hle6 ⊢
      refine hK.out _ _ (hSS _ hO) (fun hHeld => ?_)
      have Hb6 := Lib.hid hb6
      have HO := Lib.hid hO
      clear hK K hO hb6
      (try simp only [List.getElem_toArray, List.getElem_cons_zero, List.getElem_cons_succ, Act.put, List.setIfInBounds_toArray, List.set_cons_zero, List.set_cons_succ])
      refine wpAnyH_ready (rs := [0, 3]) (by kernel_rfl) (by simp) ?_
      refine AllReadyH.cons rfl (fun K hK => ?_) ( AllReadyH.cons rfl (fun K hK => ?_) AllReadyH.nil)
      · go_simp
        have hb0 := Blk.new W1 9 #[.string ⟨#[97]⟩, .string ⟨#[98]⟩, .string ⟨#[99, 49]⟩]
        have hle0 := HO.out.le
        have hO := HO.out.alloc (.cells #[.string ⟨#[97]⟩, .string ⟨#[98]⟩, .string ⟨#[99, 49]⟩] 9)
        have hb6 := Hb6.out.alloc (.cells #[.string ⟨#[97]⟩, .string ⟨#[98]⟩, .string ⟨#[99, 49]⟩] 9)
        have hne60 : b6 ≠ W1.heap.size := by have := Hb6.out.lt; omega
        clear HO Hb6
        generalize W1.alloc (.cells #[.string ⟨#[97]⟩, .string ⟨#[98]⟩, .string ⟨#[99, 49]⟩] 9) = W2 at hO hb6 hb0 ⊢
        generalize W1.heap.size = b0 at hb0 hle0 hne60 ⊢
        refine hK.out _ _ (hSS _ hO) (fun hHeld => ?_)
        have Hb6 := Lib.hid hb6
        have Hb0 := Lib.hid hb0
        have HO := Lib.hid hO
        clear hK K hO hb6 hb0
        (try simp only [List.getElem_toArray, List.getElem_cons_zero, List.getElem_cons_succ, Act.put, List.setIfInBounds_toArray, List.set_cons_zero, List.set_cons_succ])
        refine wpAnyH_ready (rs := [3]) (by kernel_rfl) (by simp) ?_
        refine AllReadyH.cons rfl (fun K hK => ?_) AllReadyH.nil
        go_simp
        refine (s_walk W2 ⟨#[120]⟩).mono ?_
        rintro _ W3 ⟨rfl, hb⟩
        go_simp
        have hO := HO.out.next hb
        have hb6 := Hb6.out.below hb Hb6.out.lt
        have hb0 := Hb0.out.below hb Hb0.out.lt
        clear HO Hb6 Hb0
        refine hK.out _ _ (hSS _ hO) (fun hHeld => ?_)
        have Hb6 := Lib.hid hb6
        have Hb0 := Lib.hid hb0
        have HO := Lib.hid hO
        clear hK K hO hb hb6 hb0
        (try simp only [List.getElem_toArray, List.getElem_cons_zero, List.getElem_cons_succ, Act.put, List.setIfInBounds_toArray, List.set_cons_zero, List.set_cons_succ])
        refine wpAnyH_ready (rs := [4]) (by kernel_rfl) (by simp) ?_
        refine AllReadyH.cons rfl (fun K hK => ?_) AllReadyH.nil
        go_simp
        have hb4 := Blk.new W3 27 #[.int .i64 k1, .bool b1, .int .i64 n1, .string s1, .slice N1 nn1 nc1, .slice A1 m1 c1, .int .i64 k2, .bool b2, .int .i64 n2, .string s2, .slice N2 nn2 nc2, .slice A2 m2 c2, .int .i64 4, .bool false, .int .i64 0, .string ⟨#[120]⟩, .slice none 0 0, .slice none 0 0]
        have hle4 := HO.out.le
        have hO := HO.out.alloc (.cells #[.int .i64 k1, .bool b1, .int .i64 n1, .string s1, .slice N1 nn1 nc1, .slice A1 m1 c1, .int .i64 k2, .bool b2, .int .i64 n2, .string s2, .slice N2 nn2 nc2, .slice A2 m2 c2, .int .i64 4, .bool false, .int .i64 0, .string ⟨#[120]⟩, .slice none 0 0, .slice none 0 0] 27)
        have hb6 := Hb6.out.alloc (.cells #[.int .i64 k1, .bool b1, .int .i64 n1, .string s1, .slice N1 nn1 nc1, .slice A1 m1 c1, .int .i64 k2, .bool b2, .int .i64 n2, .string s2, .slice N2 nn2 nc2, .slice A2 m2 c2, .int .i64 4, .bool false, .int .i64 0, .string ⟨#[120]⟩, .slice none 0 0, .slice none 0 0] 27)
        have hne64 : b6 ≠ W3.heap.size := by have := Hb6.out.lt; omega
        have hb0 := Hb0.out.alloc (.cells #[.int .i64 k1, .bool b1, .int .i64 n1, .string s1, .slice N1 nn1 nc1, .slice A1 m1 c1, .int .i64 k2, .bool b2, .int .i64 n2, .string s2, .slice N2 nn2 nc2, .slice A2 m2 c2, .int .i64 4, .bool false, .int .i64 0, .string ⟨#[120]⟩, .slice none 0 0, .slice none 0 0] 27)
        have hne04 : b0 ≠ W3.heap.size := by have := Hb0.out.lt; omega
        clear HO Hb6 Hb0
        generalize W3.alloc (.cells #[.int .i64 k1, .bool b1, .int .i64 n1, .string s1, .slice N1 nn1 nc1, .slice A1 m1 c1, .int .i64 k2, .bool b2, .int .i64 n2, .string s2, .slice N2 nn2 nc2, .slice A2 m2 c2, .int .i64 4, .bool false, .int .i64 0, .string ⟨#[120]⟩, .slice none 0 0, .slice none 0 0] 27) = W4 at hO hb6 hb0 hb4 ⊢
        generalize W3.heap.size = b4 at hb4 hle4 hne64 hne04 ⊢
        refine hK.out _ _ (hSS _ hO) (fun hHeld => ?_)
        have Hb6 := Lib.hid hb6
        have Hb0 := Lib.hid hb0
        have Hb4 := Lib.hid hb4
        have HO := Lib.hid hO
        clear hK K hO hb6 hb0 hb4
        (try simp only [List.getElem_toArray, List.getElem_cons_zero, List.getElem_cons_succ, Act.put, List.setIfInBounds_toArray, List.set_cons_zero, List.set_cons_succ])
        refine wpAnyH_ready (rs := [5]) (by kernel_rfl) (by simp) ?_
        refine AllReadyH.cons rfl (fun K hK => ?_) AllReadyH.nil
        go_simp
        refine (o_walk W4 (some ⟨b0, 0, none⟩) 3 3 (some ⟨b4, 0, none⟩) 3 3).mono ?_
        rintro _ W5 ⟨rfl, hb⟩
        go_simp
        have hO := HO.out.next hb
        have hb6 := Hb6.out.below hb Hb6.out.lt
        have hb0 := Hb0.out.below hb Hb0.out.lt
        have hb4 := Hb4.out.below hb Hb4.out.lt
        clear HO Hb6 Hb0 Hb4
        refine hK.out _ _ (hSS _ hO) (fun hHeld => ?_)
        have Hb6 := Lib.hid hb6
        have Hb0 := Lib.hid hb0
        have Hb4 := Lib.hid hb4
        have HO := Lib.hid hO
        clear hK K hO hb hb6 hb0 hb4
        (try simp only [List.getElem_toArray, List.getElem_cons_zero, List.getElem_cons_succ, Act.put, List.setIfInBounds_toArray, List.set_cons_zero, List.set_cons_succ])
        refine wpAnyH_ready (rs := [7]) (by kernel_rfl) (by simp) ?_
        refine AllReadyH.cons rfl (fun K hK => ?_) AllReadyH.nil
        have hA := HO.out.put hle6 Hb6.out (obj_rows (v := v) (u := u) ((HO.out.rows _ hmv).2.weak (fun b (h : b < _) => by omega)) ((HO.out.rows _ hmu).2.weak (fun b (h : b < _) => by omega)) Hb0.out (fun e => hne60 e.symm) (fun e => hne64 e.symm) Hb4.out)
        have hS2 := hSA [] _ _ hA
        rw [if_pos (by rfl)]
        refine wp_store_blk 27 _ _ rfl b6 #[.int .i64 0, .bool false, .int .i64 0, .string ⟨#[]⟩, .slice none 0 0, .slice none 0 0] _ _ rfl rfl Hb6.out rfl jv_size (jv_ones _ _ _ _ _ _ _ _ _ _) ?_
        refine hK.out _ _ hS2 (fun hHeld => ?_)
        have HA := Lib.hid hA
        clear hK K hA hS2 HO Hb0 Hb4 Hb6
        (try simp only [List.getElem_toArray, List.getElem_cons_zero, List.getElem_cons_succ, Act.put, List.setIfInBounds_toArray, List.set_cons_zero, List.set_cons_succ])
        refine wpAnyH_done (by kernel_rfl) ?_ _
        exact ⟨rfl, _, _, _, _, _, _, b6, b0, b4, rfl, HA⟩
      · go_simp
        refine (s_walk W1 ⟨#[120]⟩).mono ?_
        rintro _ W2 ⟨rfl, hb⟩
        go_simp
        have hO := HO.out.next hb
        have hb6 := Hb6.out.below hb Hb6.out.lt
        clear HO Hb6
        refine hK.out _ _ (hSS _ hO) (fun hHeld => ?_)
        have Hb6 := Lib.hid hb6
        have HO := Lib.hid hO
        clear hK K hO hb hb6
        (try simp only [List.getElem_toArray, List.getElem_cons_zero, List.getElem_cons_succ, Act.put, List.setIfInBounds_toArray, List.set_cons_zero, List.set_cons_succ])
        refine wpAnyH_ready (rs := [0, 4]) (by kernel_rfl) (by simp) ?_
        refine AllReadyH.cons rfl (fun K hK => ?_) ( AllReadyH.cons rfl (fun K hK => ?_) AllReadyH.nil)
        · go_simp
          have hb0 := Blk.new W2 9 #[.string ⟨#[97]⟩, .string ⟨#[98]⟩, .string ⟨#[99, 49]⟩]
          have hle0 := HO.out.le
          have hO := HO.out.alloc (.cells #[.string ⟨#[97]⟩, .string ⟨#[98]⟩, .string ⟨#[99, 49]⟩] 9)
          have hb6 := Hb6.out.alloc (.cells #[.string ⟨#[97]⟩, .string ⟨#[98]⟩, .string ⟨#[99, 49]⟩] 9)
          have hne60 : b6 ≠ W2.heap.size := by have := Hb6.out.lt; omega
          clear HO Hb6
          generalize W2.alloc (.cells #[.string ⟨#[97]⟩, .string ⟨#[98]⟩, .string ⟨#[99, 49]⟩] 9) = W3 at hO hb6 hb0 ⊢
          generalize W2.heap.size = b0 at hb0 hle0 hne60 ⊢
          refine hK.out _ _ (hSS _ hO) (fun hHeld => ?_)
          have Hb6 := Lib.hid hb6
          have Hb0 := Lib.hid hb0
          have HO := Lib.hid hO
          clear hK K hO hb6 hb0
          (try simp only [List.getElem_toArray, List.getElem_cons_zero, List.getElem_cons_succ, Act.put, List.setIfInBounds_toArray, List.set_cons_zero, List.set_cons_succ])
          refine wpAnyH_ready (rs := [4]) (by kernel_rfl) (by simp) ?_
          refine AllReadyH.cons rfl (fun K hK => ?_) AllReadyH.nil
          go_simp
          have hb4 := Blk.new W3 27 #[.int .i64 k1, .bool b1, .int .i64 n1, .string s1, .slice N1 nn1 nc1, .slice A1 m1 c1, .int .i64 k2, .bool b2, .int .i64 n2, .string s2, .slice N2 nn2 nc2, .slice A2 m2 c2, .int .i64 4, .bool false, .int .i64 0, .string ⟨#[120]⟩, .slice none 0 0, .slice none 0 0]
          have hle4 := HO.out.le
          have hO := HO.out.alloc (.cells #[.int .i64 k1, .bool b1, .int .i64 n1, .string s1, .slice N1 nn1 nc1, .slice A1 m1 c1, .int .i64 k2, .bool b2, .int .i64 n2, .string s2, .slice N2 nn2 nc2, .slice A2 m2 c2, .int .i64 4, .bool false, .int .i64 0, .string ⟨#[120]⟩, .slice none 0 0, .slice none 0 0] 27)
          have hb6 := Hb6.out.alloc (.cells #[.int .i64 k1, .bool b1, .int .i64 n1, .string s1, .slice N1 nn1 nc1, .slice A1 m1 c1, .int .i64 k2, .bool b2, .int .i64 n2, .string s2, .slice N2 nn2 nc2, .slice A2 m2 c2, .int .i64 4, .bool false, .int .i64 0, .string ⟨#[120]⟩, .slice none 0 0, .slice none 0 0] 27)
          have hne64 : b6 ≠ W3.heap.size := by have := Hb6.out.lt; omega
          have hb0 := Hb0.out.alloc (.cells #[.int .i64 k1, .bool b1, .int .i64 n1, .string s1, .slice N1 nn1 nc1, .slice A1 m1 c1, .int .i64 k2, .bool b2, .int .i64 n2, .string s2, .slice N2 nn2 nc2, .slice A2 m2 c2, .int .i64 4, .bool false, .int .i64 0, .string ⟨#[120]⟩, .slice none 0 0, .slice none 0 0] 27)
          have hne04 : b0 ≠ W3.heap.size := by have := Hb0.out.lt; omega
          clear HO Hb6 Hb0
          generalize W3.alloc (.cells #[.int .i64 k1, .bool b1, .int .i64 n1, .string s1, .slice N1 nn1 nc1, .slice A1 m1 c1, .int .i64 k2, .bool b2, .int .i64 n2, .string s2, .slice N2 nn2 nc2, .slice A2 m2 c2, .int .i64 4, .bool false, .int .i64 0, .string ⟨#[120]⟩, .slice none 0 0, .slice none 0 0] 27) = W4 at hO hb6 hb0 hb4 ⊢
          generalize W3.heap.size = b4 at hb4 hle4 hne64 hne04 ⊢
          refine hK.out _ _ (hSS _ hO) (fun hHeld => ?_)
          have Hb6 := Lib.hid hb6
          have Hb0 := Lib.hid hb0
          have Hb4 := Lib.hid hb4
          have HO := Lib.hid hO
          clear hK K hO hb6 hb0 hb4
          (try simp only [List.getElem_toArray, List.getElem_cons_zero, List.getElem_cons_succ, Act.put, List.setIfInBounds_toArray, List.set_cons_zero, List.set_cons_succ])
          refine wpAnyH_ready (rs := [5]) (by kernel_rfl) (by simp) ?_
          refine AllReadyH.cons rfl (fun K hK => ?_) AllReadyH.nil
          go_simp
          refine (o_walk W4 (some ⟨b0, 0, none⟩) 3 3 (some ⟨b4, 0, none⟩) 3 3).mono ?_
          rintro _ W5 ⟨rfl, hb⟩
          go_simp
          have hO := HO.out.next hb
          have hb6 := Hb6.out.below hb Hb6.out.lt
          have hb0 := Hb0.out.below hb Hb0.out.lt
          have hb4 := Hb4.out.below hb Hb4.out.lt
          clear HO Hb6 Hb0 Hb4
          refine hK.out _ _ (hSS _ hO) (fun hHeld => ?_)
          have Hb6 := Lib.hid hb6
          have Hb0 := Lib.hid hb0
          have Hb4 := Lib.hid hb4
          have HO := Lib.hid hO
          clear hK K hO hb hb6 hb0 hb4
          (try simp only [List.getElem_toArray, List.getElem_cons_zero, List.getElem_cons_succ, Act.put, List.setIfInBounds_toArray, List.set_cons_zero, List.set_cons_succ])
          refine wpAnyH_ready (rs := [7]) (by kernel_rfl) (by simp) ?_
          refine AllReadyH.cons rfl (fun K hK => ?_) AllReadyH.nil
          have hA := HO.out.put hle6 Hb6.out (obj_rows (v := v) (u := u) ((HO.out.rows _ hmv).2.weak (fun b (h : b < _) => by omega)) ((HO.out.rows _ hmu).2.weak (fun b (h : b < _) => by omega)) Hb0.out (fun e => hne60 e.symm) (fun e => hne64 e.symm) Hb4.out)
          have hS2 := hSA [] _ _ hA
          rw [if_pos (by rfl)]
          refine wp_store_blk 27 _ _ rfl b6 #[.int .i64 0, .bool false, .int .i64 0, .string ⟨#[]⟩, .slice none 0 0, .slice none 0 0] _ _ rfl rfl Hb6.out rfl jv_size (jv_ones _ _ _ _ _ _ _ _ _ _) ?_
          refine hK.out _ _ hS2 (fun hHeld => ?_)
          have HA := Lib.hid hA
          clear hK K hA hS2 HO Hb0 Hb4 Hb6
          (try simp only [List.getElem_toArray, List.getElem_cons_zero, List.getElem_cons_succ, Act.put, List.setIfInBounds_toArray, List.set_cons_zero, List.set_cons_succ])
          refine wpAnyH_done (by kernel_rfl) ?_ _
          exact ⟨rfl, _, _, _, _, _, _, b6, b0, b4, rfl, HA⟩
        · go_simp
          have hb4 := Blk.new W2 27 #[.int .i64 k1, .bool b1, .int .i64 n1, .string s1, .slice N1 nn1 nc1, .slice A1 m1 c1, .int .i64 k2, .bool b2, .int .i64 n2, .string s2, .slice N2 nn2 nc2, .slice A2 m2 c2, .int .i64 4, .bool false, .int .i64 0, .string ⟨#[120]⟩, .slice none 0 0, .slice none 0 0]
          have hle4 := HO.out.le
          have hO := HO.out.alloc (.cells #[.int .i64 k1, .bool b1, .int .i64 n1, .string s1, .slice N1 nn1 nc1, .slice A1 m1 c1, .int .i64 k2, .bool b2, .int .i64 n2, .string s2, .slice N2 nn2 nc2, .slice A2 m2 c2, .int .i64 4, .bool false, .int .i64 0, .string ⟨#[120]⟩, .slice none 0 0, .slice none 0 0] 27)
          have hb6 := Hb6.out.alloc (.cells #[.int .i64 k1, .bool b1, .int .i64 n1, .string s1, .slice N1 nn1 nc1, .slice A1 m1 c1, .int .i64 k2, .bool b2, .int .i64 n2, .string s2, .slice N2 nn2 nc2, .slice A2 m2 c2, .int .i64 4, .bool false, .int .i64 0, .string ⟨#[120]⟩, .slice none 0 0, .slice none 0 0] 27)
          have hne64 : b6 ≠ W2.heap.size := by have := Hb6.out.lt; omega
          clear HO Hb6
          generalize W2.alloc (.cells #[.int .i64 k1, .bool b1, .int .i64 n1, .string s1, .slice N1 nn1 nc1, .slice A1 m1 c1, .int .i64 k2, .bool b2, .int .i64 n2, .string s2, .slice N2 nn2 nc2, .slice A2 m2 c2, .int .i64 4, .bool false, .int .i64 0, .string ⟨#[120]⟩, .slice none 0 0, .slice none 0 0] 27) = W3 at hO hb6 hb4 ⊢
          generalize W2.heap.size = b4 at hb4 hle4 hne64 ⊢
          refine hK.out _ _ (hSS _ hO) (fun hHeld => ?_)
          have Hb6 := Lib.hid hb6
          have Hb4 := Lib.hid hb4
          have HO := Lib.hid hO
          clear hK K hO hb6 hb4
          (try simp only [List.getElem_toArray, List.getElem_cons_zero, List.getElem_cons_succ, Act.put, List.setIfInBounds_toArray, List.set_cons_zero, List.set_cons_succ])
          refine wpAnyH_ready (rs := [0]) (by kernel_rfl) (by simp) ?_
          refine AllReadyH.cons rfl (fun K hK => ?_) AllReadyH.nil
          go_simp
          have hb0 := Blk.new W3 9 #[.string ⟨#[97]⟩, .string ⟨#[98]⟩, .string ⟨#[99, 49]⟩]
          have hle0 := HO.out.le
          have hO := HO.out.alloc (.cells #[.string ⟨#[97]⟩, .string ⟨#[98]⟩, .string ⟨#[99, 49]⟩] 9)
          have hb6 := Hb6.out.alloc (.cells #[.string ⟨#[97]⟩, .string ⟨#[98]⟩, .string ⟨#[99, 49]⟩] 9)
          have hne60 : b6 ≠ W3.heap.size := by have := Hb6.out.lt; omega
          have hb4 := Hb4.out.alloc (.cells #[.string ⟨#[97]⟩, .string ⟨#[98]⟩, .string ⟨#[99, 49]⟩] 9)
          have hne40 : b4 ≠ W3.heap.size := by have := Hb4.out.lt; omega
          clear HO Hb6 Hb4
          generalize W3.alloc (.cells #[.string ⟨#[97]⟩, .string ⟨#[98]⟩, .string ⟨#[99, 49]⟩] 9) = W4 at hO hb6 hb4 hb0 ⊢
          generalize W3.heap.size = b0 at hb0 hle0 hne60 hne40 ⊢
          refine hK.out _ _ (hSS _ hO) (fun hHeld => ?_)
          have Hb6 := Lib.hid hb6
          have Hb4 := Lib.hid hb4
          have Hb0 := Lib.hid hb0
          have HO := Lib.hid hO
          clear hK K hO hb6 hb4 hb0
          (try simp only [List.getElem_toArray, List.getElem_cons_zero, List.getElem_cons_succ, Act.put, List.setIfInBounds_toArray, List.set_cons_zero, List.set_cons_succ])
          refine wpAnyH_ready (rs := [5]) (by kernel_rfl) (by simp) ?_
          refine AllReadyH.cons rfl (fun K hK => ?_) AllReadyH.nil
          go_simp
          refine (o_walk W4 (some ⟨b0, 0, none⟩) 3 3 (some ⟨b4, 0, none⟩) 3 3).mono ?_
          rintro _ W5 ⟨rfl, hb⟩
          go_simp
          have hO := HO.out.next hb
          have hb6 := Hb6.out.below hb Hb6.out.lt
          have hb4 := Hb4.out.below hb Hb4.out.lt
          have hb0 := Hb0.out.below hb Hb0.out.lt
          clear HO Hb6 Hb4 Hb0
          refine hK.out _ _ (hSS _ hO) (fun hHeld => ?_)
          have Hb6 := Lib.hid hb6
          have Hb4 := Lib.hid hb4
          have Hb0 := Lib.hid hb0
          have HO := Lib.hid hO
          clear hK K hO hb hb6 hb4 hb0
          (try simp only [List.getElem_toArray, List.getElem_cons_zero, List.getElem_cons_succ, Act.put, List.setIfInBounds_toArray, List.set_cons_zero, List.set_cons_succ])
          refine wpAnyH_ready (rs := [7]) (by kernel_rfl) (by simp) ?_
          refine AllReadyH.cons rfl (fun K hK => ?_) AllReadyH.nil
          have hA := HO.out.put hle6 Hb6.out (obj_rows (v := v) (u := u) ((HO.out.rows _ hmv).2.weak (fun b (h : b < _) => by omega)) ((HO.out.rows _ hmu).2.weak (fun b (h : b < _) => by omega)) Hb0.out (fun e => hne60 e.symm) (fun e => hne64 e.symm) Hb4.out)
          have hS2 := hSA [] _ _ hA
          rw [if_pos (by rfl)]
          refine wp_store_blk 27 _ _ rfl b6 #[.int .i64 0, .bool false, .int .i64 0, .string ⟨#[]⟩, .slice none 0 0, .slice none 0 0] _ _ rfl rfl Hb6.out rfl jv_size (jv_ones _ _ _ _ _ _ _ _ _ _) ?_
          refine hK.out _ _ hS2 (fun hHeld => ?_)
          have HA := Lib.hid hA
          clear hK K hA hS2 HO Hb0 Hb4 Hb6
          (try simp only [List.getElem_toArray, List.getElem_cons_zero, List.getElem_cons_succ, Act.put, List.setIfInBounds_toArray, List.set_cons_zero, List.set_cons_succ])
          refine wpAnyH_done (by kernel_rfl) ?_ _
          exact ⟨rfl, _, _, _, _, _, _, b6, b0, b4, rfl, HA⟩
  · rintro a' W6 ⟨q0, q1, q2, q3, q4, q5, gO, b0, b4, rfl, HA⟩
    (try simp only [List.getElem_toArray, List.getElem_cons_zero, List.getElem_cons_succ, Act.put, List.setIfInBounds_toArray, List.set_cons_zero, List.set_cons_succ])
    clear hSS hSA hmv hmu HO
    have hM := HA.out.block 9 (nmsJ x)
    go_wp2_with fail
    rw [show (.cells #[.string ⟨#[97]⟩, .string ⟨#[98]⟩, .string ⟨#[99, 49]⟩, .string x] 9 : Obj) = .cells (nmsJ x) 9 from rfl]
    generalize W6.alloc (.cells (nmsJ x) 9) = W7 at hM ⊢
    generalize W6.heap.size = gn at hM ⊢
    have HA7 := Lib.hid hM
    clear hM HA
    go_loopw [11] (fun iv wr => ∃ i : Nat, i ≤ 4 ∧ iv = .int .i64 (i : Int) ∧ Hid (StA w [(gO, objJ v u, ([.int .i64 6, .bool false, .int .i64 0, .string ⟨#[]⟩, .slice (some ⟨b0, 0, none⟩) 3 3, .slice (some ⟨b4, 0, none⟩) 3 3] : List Value)), (gu, u, [.int .i64 k2, .bool b2, .int .i64 n2, .string s2, .slice N2 nn2 nc2, .slice A2 m2 c2]), (gv, v, [.int .i64 k1, .bool b1, .int .i64 n1, .string s1, .slice N1 nn1 nc1, .slice A1 m1 c1])] [(gn, 9, nmsJ x)] wr)) (fun iv _ => 4 - (intOf iv).toNat)
    case atStart => exact ⟨0, by omega, rfl, HA7⟩
    case round =>
      clear HA7
      obtain ⟨i, hi4, rfl, HA⟩ := hrel
      by_cases hi : i < 4
      case neg =>
        have gi : decide ((i : Int) < 4) = false := by simp; omega
        have gi' : decide (i < 4) = false := by simp; omega
        go_wp2_with fail
        have hA := HA.out.next (Below.refl _ _).drew
        have hS0 := (And.intro (hA.cells (g := gv) (v := v) (cs := [.int .i64 k1, .bool b1, .int .i64 n1, .string s1, .slice N1 nn1 nc1, .slice A1 m1 c1]) (by simp)) (hA.cells (g := gu) (v := u) (cs := [.int .i64 k2, .bool b2, .int .i64 n2, .string s2, .slice N2 nn2 nc2, .slice A2 m2 c2]) (by simp)))
        have HA2 := Lib.hid hA
        refine wp_region_held_drew (S := fun W => (∀ j t, ([.int .i64 k1, .bool b1, .int .i64 n1, .string s1, .slice N1 nn1 nc1, .slice A1 m1 c1] : List Value)[j]? = some t → W.cell? ((⟨gv, 0, none⟩ : Addr).add j) = some t) ∧ (∀ j t, ([.int .i64 k2, .bool b2, .int .i64 n2, .string s2, .slice N2 nn2 nc2, .slice A2 m2 c2] : List Value)[j]? = some t → W.cell? ((⟨gu, 0, none⟩ : Addr).add j) = some t)) (by kernel_rfl) hS0 (fun hHeld => ?_)
        refine wpAnyH_take (i := 0) (v := _) rfl (by kernel_rfl) (by kernel_rfl) (by kernel_rfl) (fun _ _ _ h => h) (yieldsIf_load_jv (by rfl) _ rfl ⟨gv, 0, none⟩ rfl _ _ _ _ _ _ (fun w h => h.1)) (by assumption) ?_
        (try simp only [List.getElem_toArray, List.getElem_cons_zero, List.getElem_cons_succ, Act.put, List.setIfInBounds_toArray, List.set_cons_zero, List.set_cons_succ])
        refine wpAnyH_take (i := 1) (v := _) rfl (by kernel_rfl) (by kernel_rfl) (by kernel_rfl) (fun _ _ _ h => h) (yieldsIf_load_jv (by rfl) _ rfl ⟨gu, 0, none⟩ rfl _ _ _ _ _ _ (fun w h => h.2)) (by assumption) ?_
        (try simp only [List.getElem_toArray, List.getElem_cons_zero, List.getElem_cons_succ, Act.put, List.setIfInBounds_toArray, List.set_cons_zero, List.set_cons_succ])
        refine wpAnyH_take (i := 3) (v := _) rfl (by kernel_rfl) (by kernel_rfl) (by kernel_rfl) (fun _ _ _ h => h) (yieldsIf_load_jv (by rfl) _ rfl ⟨gv, 0, none⟩ rfl _ _ _ _ _ _ (fun w h => h.1)) (by assumption) ?_
        (try simp only [List.getElem_toArray, List.getElem_cons_zero, List.getElem_cons_succ, Act.put, List.setIfInBounds_toArray, List.set_cons_zero, List.set_cons_succ])
        refine wpAnyH_take (i := 4) (v := _) rfl (by kernel_rfl) (by kernel_rfl) (by kernel_rfl) (fun _ _ _ h => h) (yieldsIf_load_jv (by rfl) _ rfl ⟨gu, 0, none⟩ rfl _ _ _ _ _ _ (fun w h => h.2)) (by assumption) ?_
        (try simp only [List.getElem_toArray, List.getElem_cons_zero, List.getElem_cons_succ, Act.put, List.setIfInBounds_toArray, List.set_cons_zero, List.set_cons_succ])
        refine wpAnyH_ready (rs := [2]) (by kernel_rfl) (by simp) ?_
        refine AllReadyH.cons rfl (fun K hK => ?_) AllReadyH.nil
        go_simp
        refine (same_all v u [.int .i64 k1, .bool b1, .int .i64 n1, .string s1, .slice N1 nn1 nc1, .slice A1 m1 c1] [.int .i64 k2, .bool b2, .int .i64 n2, .string s2, .slice N2 nn2 nc2, .slice A2 m2 c2] _ (HA2.out.vals (gv, v, [.int .i64 k1, .bool b1, .int .i64 n1, .string s1, .slice N1 nn1 nc1, .slice A1 m1 c1]) (by simp)).2 (HA2.out.vals (gu, u, [.int .i64 k2, .bool b2, .int .i64 n2, .string s2, .slice N2 nn2 nc2, .slice A2 m2 c2]) (by simp)).2).mono ?_
        rintro _ U1 ⟨rfl, hb⟩
        go_simp
        have hA3 := HA2.out.next hb
        refine hK.out _ _ (And.intro (hA3.cells (g := gv) (v := v) (cs := [.int .i64 k1, .bool b1, .int .i64 n1, .string s1, .slice N1 nn1 nc1, .slice A1 m1 c1]) (by simp)) (hA3.cells (g := gu) (v := u) (cs := [.int .i64 k2, .bool b2, .int .i64 n2, .string s2, .slice N2 nn2 nc2, .slice A2 m2 c2]) (by simp))) (fun hHeld => ?_)
        clear hK K hb HA2
        have HA2 := Lib.hid hA3
        clear hA3
        (try simp only [List.getElem_toArray, List.getElem_cons_zero, List.getElem_cons_succ, Act.put, List.setIfInBounds_toArray, List.set_cons_zero, List.set_cons_succ])
        refine wpAnyH_ready (rs := [5]) (by kernel_rfl) (by simp) ?_
        refine AllReadyH.cons rfl (fun K hK => ?_) AllReadyH.nil
        go_simp
        refine (rsame_all v u [.int .i64 k1, .bool b1, .int .i64 n1, .string s1, .slice N1 nn1 nc1, .slice A1 m1 c1] [.int .i64 k2, .bool b2, .int .i64 n2, .string s2, .slice N2 nn2 nc2, .slice A2 m2 c2] _ (HA2.out.vals (gv, v, [.int .i64 k1, .bool b1, .int .i64 n1, .string s1, .slice N1 nn1 nc1, .slice A1 m1 c1]) (by simp)).2 (HA2.out.vals (gu, u, [.int .i64 k2, .bool b2, .int .i64 n2, .string s2, .slice N2 nn2 nc2, .slice A2 m2 c2]) (by simp)).2).mono ?_
        rintro _ U2 ⟨rfl, hb⟩
        go_simp
        have hA4 := HA2.out.next hb
        refine hK.out _ _ (And.intro (hA4.cells (g := gv) (v := v) (cs := [.int .i64 k1, .bool b1, .int .i64 n1, .string s1, .slice N1 nn1 nc1, .slice A1 m1 c1]) (by simp)) (hA4.cells (g := gu) (v := u) (cs := [.int .i64 k2, .bool b2, .int .i64 n2, .string s2, .slice N2 nn2 nc2, .slice A2 m2 c2]) (by simp))) (fun hHeld => ?_)
        clear hK K hb HA2
        have HA2 := Lib.hid hA4
        clear hA4
        (try simp only [List.getElem_toArray, List.getElem_cons_zero, List.getElem_cons_succ, Act.put, List.setIfInBounds_toArray, List.set_cons_zero, List.set_cons_succ])
        first | (refine wpAnyH_take (i := 6) (v := _) rfl (by kernel_rfl) (by kernel_rfl) (by kernel_rfl) (fun _ _ _ h => h) (Or.inr ⟨?_, rfl⟩) (by assumption) ?_; rfl) | (refine wpAnyH_take (i := 6) (v := ?_) rfl (by kernel_rfl) (by kernel_rfl) (by kernel_rfl) (fun _ _ _ h => h) (Or.inl ⟨?_, ?_⟩) (by assumption) ?_; rotate_left; rfl; focus (intro w hSw; (try dsimp only at hSw); go_simp; all_goals (with_reducible rfl)))
        (try simp only [List.getElem_toArray, List.getElem_cons_zero, List.getElem_cons_succ, Act.put, List.setIfInBounds_toArray, List.set_cons_zero, List.set_cons_succ])
        first | (refine wpAnyH_take (i := 7) (v := _) rfl (by kernel_rfl) (by kernel_rfl) (by kernel_rfl) (fun _ _ _ h => h) (Or.inr ⟨?_, rfl⟩) (by assumption) ?_; rfl) | (refine wpAnyH_take (i := 7) (v := ?_) rfl (by kernel_rfl) (by kernel_rfl) (by kernel_rfl) (fun _ _ _ h => h) (Or.inl ⟨?_, ?_⟩) (by assumption) ?_; rotate_left; rfl; focus (intro w hSw; (try dsimp only at hSw); go_simp; all_goals (with_reducible rfl)))
        (try simp only [List.getElem_toArray, List.getElem_cons_zero, List.getElem_cons_succ, Act.put, List.setIfInBounds_toArray, List.set_cons_zero, List.set_cons_succ])
        refine wpAnyH_done (by kernel_rfl) ?_ _
        go_wp2_with fail
        go_ret
        exact ⟨by simp, HA2.out.below⟩
      have gi : decide ((i : Int) < 4) = true := by simp; omega
      have gi' : decide (i < 4) = true := by simp; omega
      have giI : (i : Int) < 4 := by omega
      obtain ⟨q, hQ⟩ := nms_at x i hi
      have HQ := Lib.hid hQ
      clear hQ
      have hsv := HSV.out
      have hso := HSO.out
      go_wp2_with fail
      have hB := Lib.hid (HA.out.toB.next (Below.refl _ _).drew)
      have hSS : ∀ W, StB wr.heap.size w [(gO, objJ v u, ([.int .i64 6, .bool false, .int .i64 0, .string ⟨#[]⟩, .slice (some ⟨b0, 0, none⟩) 3 3, .slice (some ⟨b4, 0, none⟩) 3 3] : List Value)), (gu, u, [.int .i64 k2, .bool b2, .int .i64 n2, .string s2, .slice N2 nn2 nc2, .slice A2 m2 c2]), (gv, v, [.int .i64 k1, .bool b1, .int .i64 n1, .string s1, .slice N1 nn1 nc1, .slice A1 m1 c1])] [(gn, 9, nmsJ x)] W → (∀ j t, ([.int .i64 6, .bool false, .int .i64 0, .string ⟨#[]⟩, .slice (some ⟨b0, 0, none⟩) 3 3, .slice (some ⟨b4, 0, none⟩) 3 3] : List Value)[j]? = some t → W.cell? ((⟨gO, 0, none⟩ : Addr).add j) = some t) ∧ W.cell? ⟨gn, i, none⟩ = some (.string ⟨q.toArray⟩) := fun W h => ⟨h.st.cells (g := gO) (v := objJ v u) (by simp), ((h.st.blks (gn, 9, nmsJ x) (by simp)).cell i).trans HQ.out⟩
      refine region_fin (F := fun a a' W => ∃ (q0 q1 q2 q3 q4 q5 q6 q7 q8 : Value) (gx : Nat) (kx : Int) (bx : Bool) (nx : Int) (sx : ByteArray) (Nx : Option Addr) (nnx ncx : Nat) (Ax : Option Addr) (mx cx : Nat), a' = (((((((((((a.put (some 50) q0).put (some 51) q1).put (some 52) q2).put (some 53) q3).put (some 54) q4).put (some 55) q5).put (some 49) q6).put (some 56) q7).put (some 57) q8).put (some 12) (.pointer (some ⟨gx, 0, none⟩))).put (some 13) (.bool (getJ (objJ v u) q).isSome)) ∧ Hid (StA w ((gx, (getJ (objJ v u) q).getD jvZ, [.int .i64 kx, .bool bx, .int .i64 nx, .string sx, .slice Nx nnx ncx, .slice Ax mx cx]) :: [(gO, objJ v u, ([.int .i64 6, .bool false, .int .i64 0, .string ⟨#[]⟩, .slice (some ⟨b0, 0, none⟩) 3 3, .slice (some ⟨b4, 0, none⟩) 3 3] : List Value)), (gu, u, [.int .i64 k2, .bool b2, .int .i64 n2, .string s2, .slice N2 nn2 nc2, .slice A2 m2 c2]), (gv, v, [.int .i64 k1, .bool b1, .int .i64 n1, .string s1, .slice N1 nn1 nc1, .slice A1 m1 c1])]) [(gn, 9, nmsJ x)] W)) ?_ ?_
      · have hS0 := hSS _ hB.out
        generalize hB0 : wr.heap.size = B0 at hB hSS
        refine wp_region_held_drew (S := fun W => (∀ j t, ([.int .i64 6, .bool false, .int .i64 0, .string ⟨#[]⟩, .slice (some ⟨b0, 0, none⟩) 3 3, .slice (some ⟨b4, 0, none⟩) 3 3] : List Value)[j]? = some t → W.cell? ((⟨gO, 0, none⟩ : Addr).add j) = some t) ∧ W.cell? ⟨gn, i, none⟩ = some (.string ⟨q.toArray⟩)) (by kernel_rfl) hS0 (fun hHeld => ?_)
        refine wpAnyH_take (i := 0) (v := _) rfl (by kernel_rfl) (by kernel_rfl) (by kernel_rfl) (by intro _ _ _ h; exact nomatch h.1) (yieldsIf_load_jv (by rfl) _ rfl ⟨gO, 0, none⟩ rfl _ _ _ _ _ _ (fun w h => h.1)) (by assumption) ?_
        (try simp only [List.getElem_toArray, List.getElem_cons_zero, List.getElem_cons_succ, Act.put, List.setIfInBounds_toArray, List.set_cons_zero, List.set_cons_succ])
        first | (refine wpAnyH_take (i := 1) (v := _) rfl (by kernel_rfl) (by kernel_rfl) (by kernel_rfl) (by intro _ _ _ h; exact nomatch h.1) (Or.inr ⟨?_, rfl⟩) (by assumption) ?_; rfl) | (refine wpAnyH_take (i := 1) (v := ?_) rfl (by kernel_rfl) (by kernel_rfl) (by kernel_rfl) (by intro _ _ _ h; exact nomatch h.1) (Or.inl ⟨?_, ?_⟩) (by assumption) ?_; rotate_left; rfl; focus (intro w hSw; (try dsimp only at hSw); go_simp; all_goals (with_reducible rfl)))
        (try simp only [List.getElem_toArray, List.getElem_cons_zero, List.getElem_cons_succ, Act.put, List.setIfInBounds_toArray, List.set_cons_zero, List.set_cons_succ])
        first | (refine wpAnyH_take (i := 2) (v := _) rfl (by kernel_rfl) (by kernel_rfl) (by kernel_rfl) (by intro _ _ _ h; exact nomatch h.1) (Or.inr ⟨?_, rfl⟩) (by assumption) ?_; rfl) | (refine wpAnyH_take (i := 2) (v := ?_) rfl (by kernel_rfl) (by kernel_rfl) (by kernel_rfl) (by intro _ _ _ h; exact nomatch h.1) (Or.inl ⟨?_, ?_⟩) (by assumption) ?_; rotate_left; rfl; focus (intro w hSw; (try dsimp only at hSw); go_simp; all_goals (with_reducible rfl)))
        (try simp only [List.getElem_toArray, List.getElem_cons_zero, List.getElem_cons_succ, Act.put, List.setIfInBounds_toArray, List.set_cons_zero, List.set_cons_succ])
        first | (refine wpAnyH_take (i := 3) (v := _) rfl (by kernel_rfl) (by kernel_rfl) (by kernel_rfl) (by intro _ _ _ h; exact nomatch h.1) (Or.inr ⟨?_, rfl⟩) (by assumption) ?_; rfl) | (refine wpAnyH_take (i := 3) (v := ?_) rfl (by kernel_rfl) (by kernel_rfl) (by kernel_rfl) (by intro _ _ _ h; exact nomatch h.1) (Or.inl ⟨?_, ?_⟩) (by assumption) ?_; rotate_left; rfl; focus (intro w hSw; (try dsimp only at hSw); go_simp; all_goals (with_reducible rfl)))
        (try simp only [List.getElem_toArray, List.getElem_cons_zero, List.getElem_cons_succ, Act.put, List.setIfInBounds_toArray, List.set_cons_zero, List.set_cons_succ])
        first | (refine wpAnyH_take (i := 4) (v := _) rfl (by kernel_rfl) (by kernel_rfl) (by kernel_rfl) (by intro _ _ _ h; exact nomatch h.1) (Or.inr ⟨?_, rfl⟩) (by assumption) ?_; rfl) | (refine wpAnyH_take (i := 4) (v := ?_) rfl (by kernel_rfl) (by kernel_rfl) (by kernel_rfl) (by intro _ _ _ h; exact nomatch h.1) (Or.inl ⟨?_, ?_⟩) (by assumption) ?_; rotate_left; rfl; focus (intro w hSw; (try dsimp only at hSw); go_simp; all_goals (with_reducible rfl)))
        (try simp only [List.getElem_toArray, List.getElem_cons_zero, List.getElem_cons_succ, Act.put, List.setIfInBounds_toArray, List.set_cons_zero, List.set_cons_succ])
        generalize wr.drew = U0 at hB ⊢
        clear hS0 hHeld
        refine wpAnyH_ready (rs := [5, 9]) (by kernel_rfl) (by simp) ?_
        refine AllReadyH.cons rfl (fun K hK => ?_) ( AllReadyH.cons rfl (fun K hK => ?_) AllReadyH.nil)
        · go_simp
          refine (get_walk2 (objJ v u) [.int .i64 6, .bool false, .int .i64 0, .string ⟨#[]⟩, .slice (some ⟨b0, 0, none⟩) 3 3, .slice (some ⟨b4, 0, none⟩) 3 3] q U0 hso (JvP.toV (fun _ _ => Nat.zero_le _) _ _ (hB.out.rows (gO, objJ v u, [.int .i64 6, .bool false, .int .i64 0, .string ⟨#[]⟩, .slice (some ⟨b0, 0, none⟩) 3 3, .slice (some ⟨b4, 0, none⟩) 3 3]) (by simp)).2)).mono ?_
          rintro _ U1 ⟨cs, rfl, hj, hb⟩
          obtain ⟨kx, bx, nx, sx, Nx, nnx, ncx, Ax, mx, cx, rfl⟩ := hj.form
          go_simp
          have hB2 := hB.out.next hb
          refine hK.out _ _ (hSS _ hB2) (fun hHeld => ?_)
          clear hK K hB
          have hB := Lib.hid hB2
          have HJ := Lib.hid hj
          clear hB2 hj hb
          (try simp only [List.getElem_toArray, List.getElem_cons_zero, List.getElem_cons_succ, Act.put, List.setIfInBounds_toArray, List.set_cons_zero, List.set_cons_succ])
          first | (refine wpAnyH_take (i := 6) (v := _) rfl (by kernel_rfl) (by kernel_rfl) (by kernel_rfl) (by intro _ _ _ h; exact nomatch h.1) (Or.inr ⟨?_, rfl⟩) (by assumption) ?_; rfl) | (refine wpAnyH_take (i := 6) (v := ?_) rfl (by kernel_rfl) (by kernel_rfl) (by kernel_rfl) (by intro _ _ _ h; exact nomatch h.1) (Or.inl ⟨?_, ?_⟩) (by assumption) ?_; rotate_left; rfl; focus (intro w hSw; (try dsimp only at hSw); go_simp; all_goals (with_reducible rfl)))
          (try simp only [List.getElem_toArray, List.getElem_cons_zero, List.getElem_cons_succ, Act.put, List.setIfInBounds_toArray, List.set_cons_zero, List.set_cons_succ])
          first | (refine wpAnyH_take (i := 7) (v := _) rfl (by kernel_rfl) (by kernel_rfl) (by kernel_rfl) (by intro _ _ _ h; exact nomatch h.1) (Or.inr ⟨?_, rfl⟩) (by assumption) ?_; rfl) | (refine wpAnyH_take (i := 7) (v := ?_) rfl (by kernel_rfl) (by kernel_rfl) (by kernel_rfl) (by intro _ _ _ h; exact nomatch h.1) (Or.inl ⟨?_, ?_⟩) (by assumption) ?_; rotate_left; rfl; focus (intro w hSw; (try dsimp only at hSw); go_simp; all_goals (with_reducible rfl)))
          (try simp only [List.getElem_toArray, List.getElem_cons_zero, List.getElem_cons_succ, Act.put, List.setIfInBounds_toArray, List.set_cons_zero, List.set_cons_succ])
          first | (refine wpAnyH_take (i := 8) (v := _) rfl (by kernel_rfl) (by kernel_rfl) (by kernel_rfl) (by intro _ _ _ h; exact nomatch h.1) (Or.inr ⟨?_, rfl⟩) (by assumption) ?_; rfl) | (refine wpAnyH_take (i := 8) (v := ?_) rfl (by kernel_rfl) (by kernel_rfl) (by kernel_rfl) (by intro _ _ _ h; exact nomatch h.1) (Or.inl ⟨?_, ?_⟩) (by assumption) ?_; rotate_left; rfl; focus (intro w hSw; (try dsimp only at hSw); go_simp; all_goals (with_reducible rfl)))
          (try simp only [List.getElem_toArray, List.getElem_cons_zero, List.getElem_cons_succ, Act.put, List.setIfInBounds_toArray, List.set_cons_zero, List.set_cons_succ])
          refine wpAnyH_ready (rs := [9]) (by kernel_rfl) (by simp) ?_
          refine AllReadyH.cons rfl (fun K hK => ?_) AllReadyH.nil
          go_simp
          have hle := hB.out.le
          have hb9 := Blk.new U1 27 #[.int .i64 0, .bool false, .int .i64 0, .string ⟨#[]⟩, .slice none 0 0, .slice none 0 0]
          have hB2 := hB.out.alloc (.cells #[.int .i64 0, .bool false, .int .i64 0, .string ⟨#[]⟩, .slice none 0 0, .slice none 0 0] 27)
          have hj := JvP.below (JvV.toP (D := fun b => b < U1.heap.size) (fun b _ h => h) _ _ HJ.out) (alloc_below U1 (.cells #[.int .i64 0, .bool false, .int .i64 0, .string ⟨#[]⟩, .slice none 0 0, .slice none 0 0] 27))
          generalize U1.alloc (.cells #[.int .i64 0, .bool false, .int .i64 0, .string ⟨#[]⟩, .slice none 0 0, .slice none 0 0] 27) = U2 at hb9 hB2 hj ⊢
          have hj2 := hj.weak (D' := fun b => b ≠ U1.heap.size) (fun b (h : b < _) => by omega)
          generalize U1.heap.size = gx at hb9 hle hj2 ⊢
          refine hK.out _ _ (hSS _ hB2) (fun hHeld => ?_)
          clear hK K hB
          have hB := Lib.hid hB2
          clear hB2 hj HJ
          (try simp only [List.getElem_toArray, List.getElem_cons_zero, List.getElem_cons_succ, Act.put, List.setIfInBounds_toArray, List.set_cons_zero, List.set_cons_succ])
          refine wpAnyH_ready (rs := [10]) (by kernel_rfl) (by simp) ?_
          refine AllReadyH.cons rfl (fun K hK => ?_) AllReadyH.nil
          have hA := hB.out.put hle hb9 hj2
          rw [if_pos (by rfl)]
          refine wp_store_blk 27 _ _ rfl gx #[.int .i64 0, .bool false, .int .i64 0, .string ⟨#[]⟩, .slice none 0 0, .slice none 0 0] _ _ rfl rfl hb9 rfl jv_size (jv_ones _ _ _ _ _ _ _ _ _ _) ?_
          refine hK.out _ _ ⟨hA.cells (g := gO) (v := objJ v u) (by simp), ((hA.blks (gn, 9, nmsJ x) (by simp)).cell i).trans HQ.out⟩ (fun hHeld => ?_)
          have HA := Lib.hid hA
          clear hK K hA hB hb9 hj2
          (try simp only [List.getElem_toArray, List.getElem_cons_zero, List.getElem_cons_succ, Act.put, List.setIfInBounds_toArray, List.set_cons_zero, List.set_cons_succ])
          first | (refine wpAnyH_take (i := 11) (v := _) rfl (by kernel_rfl) (by kernel_rfl) (by kernel_rfl) (by intro _ _ _ h; exact nomatch h.1) (Or.inr ⟨?_, rfl⟩) (by assumption) ?_; rfl) | (refine wpAnyH_take (i := 11) (v := ?_) rfl (by kernel_rfl) (by kernel_rfl) (by kernel_rfl) (by intro _ _ _ h; exact nomatch h.1) (Or.inl ⟨?_, ?_⟩) (by assumption) ?_; rotate_left; rfl; focus (intro w hSw; (try dsimp only at hSw); go_simp; all_goals (with_reducible rfl)))
          (try simp only [List.getElem_toArray, List.getElem_cons_zero, List.getElem_cons_succ, Act.put, List.setIfInBounds_toArray, List.set_cons_zero, List.set_cons_succ])
          refine wpAnyH_done (by kernel_rfl) ?_ _
          exact ⟨rfl, _, _, _, _, _, _, _, _, _, gx, kx, bx, nx, sx, Nx, nnx, ncx, Ax, mx, cx, rfl, HA⟩
        · go_simp
          have hle := hB.out.le
          have hb9 := Blk.new U0 27 #[.int .i64 0, .bool false, .int .i64 0, .string ⟨#[]⟩, .slice none 0 0, .slice none 0 0]
          have hB2 := hB.out.alloc (.cells #[.int .i64 0, .bool false, .int .i64 0, .string ⟨#[]⟩, .slice none 0 0, .slice none 0 0] 27)
          generalize hU1 : U0.alloc (.cells #[.int .i64 0, .bool false, .int .i64 0, .string ⟨#[]⟩, .slice none 0 0, .slice none 0 0] 27) = U1 at hb9 hB2 ⊢
          have hsz : U1.heap.size = U0.heap.size + 1 := by rw [← hU1]; simp
          generalize U0.heap.size = gx at hb9 hle hsz ⊢
          refine hK.out _ _ (hSS _ hB2) (fun hHeld => ?_)
          clear hK K hB hU1
          have hB := Lib.hid hB2
          have Hb9 := Lib.hid hb9
          have HSZ := Lib.hid hsz
          clear hB2 hb9 hsz
          (try simp only [List.getElem_toArray, List.getElem_cons_zero, List.getElem_cons_succ, Act.put, List.setIfInBounds_toArray, List.set_cons_zero, List.set_cons_succ])
          refine wpAnyH_ready (rs := [5]) (by kernel_rfl) (by simp) ?_
          refine AllReadyH.cons rfl (fun K hK => ?_) AllReadyH.nil
          go_simp
          refine (get_walk2 (objJ v u) [.int .i64 6, .bool false, .int .i64 0, .string ⟨#[]⟩, .slice (some ⟨b0, 0, none⟩) 3 3, .slice (some ⟨b4, 0, none⟩) 3 3] q U1 hso (JvP.toV (fun _ _ => Nat.zero_le _) _ _ (hB.out.rows (gO, objJ v u, [.int .i64 6, .bool false, .int .i64 0, .string ⟨#[]⟩, .slice (some ⟨b0, 0, none⟩) 3 3, .slice (some ⟨b4, 0, none⟩) 3 3]) (by simp)).2)).mono ?_
          rintro _ U2 ⟨cs, rfl, hj, hb⟩
          obtain ⟨kx, bx, nx, sx, Nx, nnx, ncx, Ax, mx, cx, rfl⟩ := hj.form
          go_simp
          have hB2 := hB.out.next hb
          have hb9 := Hb9.out.below hb Hb9.out.lt
          have hj2 := JvP.weak (D' := fun b => b ≠ gx) (JvV.toP (D := fun b => U1.heap.size ≤ b) (fun b h _ => h) _ _ hj) (fun b (h : U1.heap.size ≤ b) => by have := HSZ.out; omega)
          refine hK.out _ _ (hSS _ hB2) (fun hHeld => ?_)
          clear hK K hB Hb9 HSZ
          have hB := Lib.hid hB2
          clear hB2 hj hb
          (try simp only [List.getElem_toArray, List.getElem_cons_zero, List.getElem_cons_succ, Act.put, List.setIfInBounds_toArray, List.set_cons_zero, List.set_cons_succ])
          first | (refine wpAnyH_take (i := 6) (v := _) rfl (by kernel_rfl) (by kernel_rfl) (by kernel_rfl) (by intro _ _ _ h; exact nomatch h.1) (Or.inr ⟨?_, rfl⟩) (by assumption) ?_; rfl) | (refine wpAnyH_take (i := 6) (v := ?_) rfl (by kernel_rfl) (by kernel_rfl) (by kernel_rfl) (by intro _ _ _ h; exact nomatch h.1) (Or.inl ⟨?_, ?_⟩) (by assumption) ?_; rotate_left; rfl; focus (intro w hSw; (try dsimp only at hSw); go_simp; all_goals (with_reducible rfl)))
          (try simp only [List.getElem_toArray, List.getElem_cons_zero, List.getElem_cons_succ, Act.put, List.setIfInBounds_toArray, List.set_cons_zero, List.set_cons_succ])
          first | (refine wpAnyH_take (i := 7) (v := _) rfl (by kernel_rfl) (by kernel_rfl) (by kernel_rfl) (by intro _ _ _ h; exact nomatch h.1) (Or.inr ⟨?_, rfl⟩) (by assumption) ?_; rfl) | (refine wpAnyH_take (i := 7) (v := ?_) rfl (by kernel_rfl) (by kernel_rfl) (by kernel_rfl) (by intro _ _ _ h; exact nomatch h.1) (Or.inl ⟨?_, ?_⟩) (by assumption) ?_; rotate_left; rfl; focus (intro w hSw; (try dsimp only at hSw); go_simp; all_goals (with_reducible rfl)))
          (try simp only [List.getElem_toArray, List.getElem_cons_zero, List.getElem_cons_succ, Act.put, List.setIfInBounds_toArray, List.set_cons_zero, List.set_cons_succ])
          first | (refine wpAnyH_take (i := 8) (v := _) rfl (by kernel_rfl) (by kernel_rfl) (by kernel_rfl) (by intro _ _ _ h; exact nomatch h.1) (Or.inr ⟨?_, rfl⟩) (by assumption) ?_; rfl) | (refine wpAnyH_take (i := 8) (v := ?_) rfl (by kernel_rfl) (by kernel_rfl) (by kernel_rfl) (by intro _ _ _ h; exact nomatch h.1) (Or.inl ⟨?_, ?_⟩) (by assumption) ?_; rotate_left; rfl; focus (intro w hSw; (try dsimp only at hSw); go_simp; all_goals (with_reducible rfl)))
          (try simp only [List.getElem_toArray, List.getElem_cons_zero, List.getElem_cons_succ, Act.put, List.setIfInBounds_toArray, List.set_cons_zero, List.set_cons_succ])
          refine wpAnyH_ready (rs := [10]) (by kernel_rfl) (by simp) ?_
          refine AllReadyH.cons rfl (fun K hK => ?_) AllReadyH.nil
          have hA := hB.out.put hle hb9 hj2
          rw [if_pos (by rfl)]
          refine wp_store_blk 27 _ _ rfl gx #[.int .i64 0, .bool false, .int .i64 0, .string ⟨#[]⟩, .slice none 0 0, .slice none 0 0] _ _ rfl rfl hb9 rfl jv_size (jv_ones _ _ _ _ _ _ _ _ _ _) ?_
          refine hK.out _ _ ⟨hA.cells (g := gO) (v := objJ v u) (by simp), ((hA.blks (gn, 9, nmsJ x) (by simp)).cell i).trans HQ.out⟩ (fun hHeld => ?_)
          have HA := Lib.hid hA
          clear hK K hA hB hb9 hj2
          (try simp only [List.getElem_toArray, List.getElem_cons_zero, List.getElem_cons_succ, Act.put, List.setIfInBounds_toArray, List.set_cons_zero, List.set_cons_succ])
          first | (refine wpAnyH_take (i := 11) (v := _) rfl (by kernel_rfl) (by kernel_rfl) (by kernel_rfl) (by intro _ _ _ h; exact nomatch h.1) (Or.inr ⟨?_, rfl⟩) (by assumption) ?_; rfl) | (refine wpAnyH_take (i := 11) (v := ?_) rfl (by kernel_rfl) (by kernel_rfl) (by kernel_rfl) (by intro _ _ _ h; exact nomatch h.1) (Or.inl ⟨?_, ?_⟩) (by assumption) ?_; rotate_left; rfl; focus (intro w hSw; (try dsimp only at hSw); go_simp; all_goals (with_reducible rfl)))
          (try simp only [List.getElem_toArray, List.getElem_cons_zero, List.getElem_cons_succ, Act.put, List.setIfInBounds_toArray, List.set_cons_zero, List.set_cons_succ])
          refine wpAnyH_done (by kernel_rfl) ?_ _
          exact ⟨rfl, _, _, _, _, _, _, _, _, _, gx, kx, bx, nx, sx, Nx, nnx, ncx, Ax, mx, cx, rfl, HA⟩
      · rintro a' W11 ⟨q0, q1, q2, q3, q4, q5, q6, q7, q8, gx, kx, bx, nx, sx, Nx, nnx, ncx, Ax, mx, cx, rfl, HA⟩
        (try simp only [List.getElem_toArray, List.getElem_cons_zero, List.getElem_cons_succ, Act.put, List.setIfInBounds_toArray, List.set_cons_zero, List.set_cons_succ])
        clear hB hSS
        go_wp2_with fail
        have hB := Lib.hid (HA.out.toB.next (Below.refl _ _).drew)
        have hSS : ∀ W, StB W11.heap.size w ((gx, (getJ (objJ v u) q).getD jvZ, [.int .i64 kx, .bool bx, .int .i64 nx, .string sx, .slice Nx nnx ncx, .slice Ax mx cx]) :: [(gO, objJ v u, ([.int .i64 6, .bool false, .int .i64 0, .string ⟨#[]⟩, .slice (some ⟨b0, 0, none⟩) 3 3, .slice (some ⟨b4, 0, none⟩) 3 3] : List Value)), (gu, u, [.int .i64 k2, .bool b2, .int .i64 n2, .string s2, .slice N2 nn2 nc2, .slice A2 m2 c2]), (gv, v, [.int .i64 k1, .bool b1, .int .i64 n1, .string s1, .slice N1 nn1 nc1, .slice A1 m1 c1])]) [(gn, 9, nmsJ x)] W → (∀ j t, ([.int .i64 6, .bool false, .int .i64 0, .string ⟨#[]⟩, .slice (some ⟨b0, 0, none⟩) 3 3, .slice (some ⟨b4, 0, none⟩) 3 3] : List Value)[j]? = some t → W.cell? ((⟨gO, 0, none⟩ : Addr).add j) = some t) ∧ W.cell? ⟨gn, i, none⟩ = some (.string ⟨q.toArray⟩) := fun W h => ⟨h.st.cells (g := gO) (v := objJ v u) (by simp), ((h.st.blks (gn, 9, nmsJ x) (by simp)).cell i).trans HQ.out⟩
        refine region_fin (F := fun a a' W => ∃ (q0 q1 q2 q3 q4 q5 q6 q7 q8 : Value) (gyy : Nat) (kyy : Int) (byy : Bool) (nyy : Int) (syy : ByteArray) (Nyy : Option Addr) (nnyy ncyy : Nat) (Ayy : Option Addr) (myy cyy : Nat), a' = (((((((((((a.put (some 59) q0).put (some 60) q1).put (some 61) q2).put (some 62) q3).put (some 63) q4).put (some 64) q5).put (some 58) q6).put (some 65) q7).put (some 66) q8).put (some 14) (.pointer (some ⟨gyy, 0, none⟩))).put (some 15) (.bool (getJ (objJ v u) q).isSome)) ∧ Hid (StA w ((gyy, (getJ (objJ v u) q).getD jvZ, [.int .i64 kyy, .bool byy, .int .i64 nyy, .string syy, .slice Nyy nnyy ncyy, .slice Ayy myy cyy]) :: ((gx, (getJ (objJ v u) q).getD jvZ, [.int .i64 kx, .bool bx, .int .i64 nx, .string sx, .slice Nx nnx ncx, .slice Ax mx cx]) :: [(gO, objJ v u, ([.int .i64 6, .bool false, .int .i64 0, .string ⟨#[]⟩, .slice (some ⟨b0, 0, none⟩) 3 3, .slice (some ⟨b4, 0, none⟩) 3 3] : List Value)), (gu, u, [.int .i64 k2, .bool b2, .int .i64 n2, .string s2, .slice N2 nn2 nc2, .slice A2 m2 c2]), (gv, v, [.int .i64 k1, .bool b1, .int .i64 n1, .string s1, .slice N1 nn1 nc1, .slice A1 m1 c1])])) [(gn, 9, nmsJ x)] W)) ?_ ?_
        · have hS0 := hSS _ hB.out
          generalize hB0 : W11.heap.size = B0 at hB hSS
          refine wp_region_held_drew (S := fun W => (∀ j t, ([.int .i64 6, .bool false, .int .i64 0, .string ⟨#[]⟩, .slice (some ⟨b0, 0, none⟩) 3 3, .slice (some ⟨b4, 0, none⟩) 3 3] : List Value)[j]? = some t → W.cell? ((⟨gO, 0, none⟩ : Addr).add j) = some t) ∧ W.cell? ⟨gn, i, none⟩ = some (.string ⟨q.toArray⟩)) (by kernel_rfl) hS0 (fun hHeld => ?_)
          refine wpAnyH_take (i := 0) (v := _) rfl (by kernel_rfl) (by kernel_rfl) (by kernel_rfl) (by intro _ _ _ h; exact nomatch h.1) (yieldsIf_load_jv (by rfl) _ rfl ⟨gO, 0, none⟩ rfl _ _ _ _ _ _ (fun w h => h.1)) (by assumption) ?_
          (try simp only [List.getElem_toArray, List.getElem_cons_zero, List.getElem_cons_succ, Act.put, List.setIfInBounds_toArray, List.set_cons_zero, List.set_cons_succ])
          first | (refine wpAnyH_take (i := 1) (v := _) rfl (by kernel_rfl) (by kernel_rfl) (by kernel_rfl) (by intro _ _ _ h; exact nomatch h.1) (Or.inr ⟨?_, rfl⟩) (by assumption) ?_; rfl) | (refine wpAnyH_take (i := 1) (v := ?_) rfl (by kernel_rfl) (by kernel_rfl) (by kernel_rfl) (by intro _ _ _ h; exact nomatch h.1) (Or.inl ⟨?_, ?_⟩) (by assumption) ?_; rotate_left; rfl; focus (intro w hSw; (try dsimp only at hSw); go_simp; all_goals (with_reducible rfl)))
          (try simp only [List.getElem_toArray, List.getElem_cons_zero, List.getElem_cons_succ, Act.put, List.setIfInBounds_toArray, List.set_cons_zero, List.set_cons_succ])
          first | (refine wpAnyH_take (i := 2) (v := _) rfl (by kernel_rfl) (by kernel_rfl) (by kernel_rfl) (by intro _ _ _ h; exact nomatch h.1) (Or.inr ⟨?_, rfl⟩) (by assumption) ?_; rfl) | (refine wpAnyH_take (i := 2) (v := ?_) rfl (by kernel_rfl) (by kernel_rfl) (by kernel_rfl) (by intro _ _ _ h; exact nomatch h.1) (Or.inl ⟨?_, ?_⟩) (by assumption) ?_; rotate_left; rfl; focus (intro w hSw; (try dsimp only at hSw); go_simp; all_goals (with_reducible rfl)))
          (try simp only [List.getElem_toArray, List.getElem_cons_zero, List.getElem_cons_succ, Act.put, List.setIfInBounds_toArray, List.set_cons_zero, List.set_cons_succ])
          first | (refine wpAnyH_take (i := 3) (v := _) rfl (by kernel_rfl) (by kernel_rfl) (by kernel_rfl) (by intro _ _ _ h; exact nomatch h.1) (Or.inr ⟨?_, rfl⟩) (by assumption) ?_; rfl) | (refine wpAnyH_take (i := 3) (v := ?_) rfl (by kernel_rfl) (by kernel_rfl) (by kernel_rfl) (by intro _ _ _ h; exact nomatch h.1) (Or.inl ⟨?_, ?_⟩) (by assumption) ?_; rotate_left; rfl; focus (intro w hSw; (try dsimp only at hSw); go_simp; all_goals (with_reducible rfl)))
          (try simp only [List.getElem_toArray, List.getElem_cons_zero, List.getElem_cons_succ, Act.put, List.setIfInBounds_toArray, List.set_cons_zero, List.set_cons_succ])
          first | (refine wpAnyH_take (i := 4) (v := _) rfl (by kernel_rfl) (by kernel_rfl) (by kernel_rfl) (by intro _ _ _ h; exact nomatch h.1) (Or.inr ⟨?_, rfl⟩) (by assumption) ?_; rfl) | (refine wpAnyH_take (i := 4) (v := ?_) rfl (by kernel_rfl) (by kernel_rfl) (by kernel_rfl) (by intro _ _ _ h; exact nomatch h.1) (Or.inl ⟨?_, ?_⟩) (by assumption) ?_; rotate_left; rfl; focus (intro w hSw; (try dsimp only at hSw); go_simp; all_goals (with_reducible rfl)))
          (try simp only [List.getElem_toArray, List.getElem_cons_zero, List.getElem_cons_succ, Act.put, List.setIfInBounds_toArray, List.set_cons_zero, List.set_cons_succ])
          generalize W11.drew = U0 at hB ⊢
          clear hS0 hHeld
          refine wpAnyH_ready (rs := [5, 9]) (by kernel_rfl) (by simp) ?_
          refine AllReadyH.cons rfl (fun K hK => ?_) ( AllReadyH.cons rfl (fun K hK => ?_) AllReadyH.nil)
          · go_simp
            refine (rget_walk2 (fun b => b < B0) (objJ v u) [.int .i64 6, .bool false, .int .i64 0, .string ⟨#[]⟩, .slice (some ⟨b0, 0, none⟩) 3 3, .slice (some ⟨b4, 0, none⟩) 3 3] q U0 hso (hB.out.rows (gO, objJ v u, [.int .i64 6, .bool false, .int .i64 0, .string ⟨#[]⟩, .slice (some ⟨b0, 0, none⟩) 3 3, .slice (some ⟨b4, 0, none⟩) 3 3]) (by simp)).2).mono ?_
            rintro _ U1 ⟨cs, rfl, hj, hb⟩
            obtain ⟨kyy, byy, nyy, syy, Nyy, nnyy, ncyy, Ayy, myy, cyy, rfl⟩ := JvP.form hj
            go_simp
            have hB2 := hB.out.next hb
            refine hK.out _ _ (hSS _ hB2) (fun hHeld => ?_)
            clear hK K hB
            have hB := Lib.hid hB2
            have HJ := Lib.hid hj
            clear hB2 hj hb
            (try simp only [List.getElem_toArray, List.getElem_cons_zero, List.getElem_cons_succ, Act.put, List.setIfInBounds_toArray, List.set_cons_zero, List.set_cons_succ])
            first | (refine wpAnyH_take (i := 6) (v := _) rfl (by kernel_rfl) (by kernel_rfl) (by kernel_rfl) (by intro _ _ _ h; exact nomatch h.1) (Or.inr ⟨?_, rfl⟩) (by assumption) ?_; rfl) | (refine wpAnyH_take (i := 6) (v := ?_) rfl (by kernel_rfl) (by kernel_rfl) (by kernel_rfl) (by intro _ _ _ h; exact nomatch h.1) (Or.inl ⟨?_, ?_⟩) (by assumption) ?_; rotate_left; rfl; focus (intro w hSw; (try dsimp only at hSw); go_simp; all_goals (with_reducible rfl)))
            (try simp only [List.getElem_toArray, List.getElem_cons_zero, List.getElem_cons_succ, Act.put, List.setIfInBounds_toArray, List.set_cons_zero, List.set_cons_succ])
            first | (refine wpAnyH_take (i := 7) (v := _) rfl (by kernel_rfl) (by kernel_rfl) (by kernel_rfl) (by intro _ _ _ h; exact nomatch h.1) (Or.inr ⟨?_, rfl⟩) (by assumption) ?_; rfl) | (refine wpAnyH_take (i := 7) (v := ?_) rfl (by kernel_rfl) (by kernel_rfl) (by kernel_rfl) (by intro _ _ _ h; exact nomatch h.1) (Or.inl ⟨?_, ?_⟩) (by assumption) ?_; rotate_left; rfl; focus (intro w hSw; (try dsimp only at hSw); go_simp; all_goals (with_reducible rfl)))
            (try simp only [List.getElem_toArray, List.getElem_cons_zero, List.getElem_cons_succ, Act.put, List.setIfInBounds_toArray, List.set_cons_zero, List.set_cons_succ])
            first | (refine wpAnyH_take (i := 8) (v := _) rfl (by kernel_rfl) (by kernel_rfl) (by kernel_rfl) (by intro _ _ _ h; exact nomatch h.1) (Or.inr ⟨?_, rfl⟩) (by assumption) ?_; rfl) | (refine wpAnyH_take (i := 8) (v := ?_) rfl (by kernel_rfl) (by kernel_rfl) (by kernel_rfl) (by intro _ _ _ h; exact nomatch h.1) (Or.inl ⟨?_, ?_⟩) (by assumption) ?_; rotate_left; rfl; focus (intro w hSw; (try dsimp only at hSw); go_simp; all_goals (with_reducible rfl)))
            (try simp only [List.getElem_toArray, List.getElem_cons_zero, List.getElem_cons_succ, Act.put, List.setIfInBounds_toArray, List.set_cons_zero, List.set_cons_succ])
            refine wpAnyH_ready (rs := [9]) (by kernel_rfl) (by simp) ?_
            refine AllReadyH.cons rfl (fun K hK => ?_) AllReadyH.nil
            go_simp
            have hle := hB.out.le
            have hb9 := Blk.new U1 27 #[.int .i64 0, .bool false, .int .i64 0, .string ⟨#[]⟩, .slice none 0 0, .slice none 0 0]
            have hB2 := hB.out.alloc (.cells #[.int .i64 0, .bool false, .int .i64 0, .string ⟨#[]⟩, .slice none 0 0, .slice none 0 0] 27)
            have hj := JvP.below (HJ.out) (alloc_below U1 (.cells #[.int .i64 0, .bool false, .int .i64 0, .string ⟨#[]⟩, .slice none 0 0, .slice none 0 0] 27))
            generalize U1.alloc (.cells #[.int .i64 0, .bool false, .int .i64 0, .string ⟨#[]⟩, .slice none 0 0, .slice none 0 0] 27) = U2 at hb9 hB2 hj ⊢
            have hj2 := hj.weak (D' := fun b => b ≠ U1.heap.size) (fun b (h : b < _) => by omega)
            generalize U1.heap.size = gyy at hb9 hle hj2 ⊢
            refine hK.out _ _ (hSS _ hB2) (fun hHeld => ?_)
            clear hK K hB
            have hB := Lib.hid hB2
            clear hB2 hj HJ
            (try simp only [List.getElem_toArray, List.getElem_cons_zero, List.getElem_cons_succ, Act.put, List.setIfInBounds_toArray, List.set_cons_zero, List.set_cons_succ])
            refine wpAnyH_ready (rs := [10]) (by kernel_rfl) (by simp) ?_
            refine AllReadyH.cons rfl (fun K hK => ?_) AllReadyH.nil
            have hA := hB.out.put hle hb9 hj2
            rw [if_pos (by rfl)]
            refine wp_store_blk 27 _ _ rfl gyy #[.int .i64 0, .bool false, .int .i64 0, .string ⟨#[]⟩, .slice none 0 0, .slice none 0 0] _ _ rfl rfl hb9 rfl jv_size (jv_ones _ _ _ _ _ _ _ _ _ _) ?_
            refine hK.out _ _ ⟨hA.cells (g := gO) (v := objJ v u) (by simp), ((hA.blks (gn, 9, nmsJ x) (by simp)).cell i).trans HQ.out⟩ (fun hHeld => ?_)
            have HA := Lib.hid hA
            clear hK K hA hB hb9 hj2
            (try simp only [List.getElem_toArray, List.getElem_cons_zero, List.getElem_cons_succ, Act.put, List.setIfInBounds_toArray, List.set_cons_zero, List.set_cons_succ])
            first | (refine wpAnyH_take (i := 11) (v := _) rfl (by kernel_rfl) (by kernel_rfl) (by kernel_rfl) (by intro _ _ _ h; exact nomatch h.1) (Or.inr ⟨?_, rfl⟩) (by assumption) ?_; rfl) | (refine wpAnyH_take (i := 11) (v := ?_) rfl (by kernel_rfl) (by kernel_rfl) (by kernel_rfl) (by intro _ _ _ h; exact nomatch h.1) (Or.inl ⟨?_, ?_⟩) (by assumption) ?_; rotate_left; rfl; focus (intro w hSw; (try dsimp only at hSw); go_simp; all_goals (with_reducible rfl)))
            (try simp only [List.getElem_toArray, List.getElem_cons_zero, List.getElem_cons_succ, Act.put, List.setIfInBounds_toArray, List.set_cons_zero, List.set_cons_succ])
            refine wpAnyH_done (by kernel_rfl) ?_ _
            exact ⟨rfl, _, _, _, _, _, _, _, _, _, gyy, kyy, byy, nyy, syy, Nyy, nnyy, ncyy, Ayy, myy, cyy, rfl, HA⟩
          · go_simp
            have hle := hB.out.le
            have hb9 := Blk.new U0 27 #[.int .i64 0, .bool false, .int .i64 0, .string ⟨#[]⟩, .slice none 0 0, .slice none 0 0]
            have hB2 := hB.out.alloc (.cells #[.int .i64 0, .bool false, .int .i64 0, .string ⟨#[]⟩, .slice none 0 0, .slice none 0 0] 27)
            generalize hU1 : U0.alloc (.cells #[.int .i64 0, .bool false, .int .i64 0, .string ⟨#[]⟩, .slice none 0 0, .slice none 0 0] 27) = U1 at hb9 hB2 ⊢
            have hsz : U1.heap.size = U0.heap.size + 1 := by rw [← hU1]; simp
            generalize U0.heap.size = gyy at hb9 hle hsz ⊢
            refine hK.out _ _ (hSS _ hB2) (fun hHeld => ?_)
            clear hK K hB hU1
            have hB := Lib.hid hB2
            have Hb9 := Lib.hid hb9
            have HSZ := Lib.hid hsz
            clear hB2 hb9 hsz
            (try simp only [List.getElem_toArray, List.getElem_cons_zero, List.getElem_cons_succ, Act.put, List.setIfInBounds_toArray, List.set_cons_zero, List.set_cons_succ])
            refine wpAnyH_ready (rs := [5]) (by kernel_rfl) (by simp) ?_
            refine AllReadyH.cons rfl (fun K hK => ?_) AllReadyH.nil
            go_simp
            refine (rget_walk2 (fun b => b < B0) (objJ v u) [.int .i64 6, .bool false, .int .i64 0, .string ⟨#[]⟩, .slice (some ⟨b0, 0, none⟩) 3 3, .slice (some ⟨b4, 0, none⟩) 3 3] q U1 hso (hB.out.rows (gO, objJ v u, [.int .i64 6, .bool false, .int .i64 0, .string ⟨#[]⟩, .slice (some ⟨b0, 0, none⟩) 3 3, .slice (some ⟨b4, 0, none⟩) 3 3]) (by simp)).2).mono ?_
            rintro _ U2 ⟨cs, rfl, hj, hb⟩
            obtain ⟨kyy, byy, nyy, syy, Nyy, nnyy, ncyy, Ayy, myy, cyy, rfl⟩ := JvP.form hj
            go_simp
            have hB2 := hB.out.next hb
            have hb9 := Hb9.out.below hb Hb9.out.lt
            have hj2 := JvP.weak (D' := fun b => b ≠ gyy) (hj) (fun b (h : b < _) => by have := HSZ.out; omega)
            refine hK.out _ _ (hSS _ hB2) (fun hHeld => ?_)
            clear hK K hB Hb9 HSZ
            have hB := Lib.hid hB2
            clear hB2 hj hb
            (try simp only [List.getElem_toArray, List.getElem_cons_zero, List.getElem_cons_succ, Act.put, List.setIfInBounds_toArray, List.set_cons_zero, List.set_cons_succ])
            first | (refine wpAnyH_take (i := 6) (v := _) rfl (by kernel_rfl) (by kernel_rfl) (by kernel_rfl) (by intro _ _ _ h; exact nomatch h.1) (Or.inr ⟨?_, rfl⟩) (by assumption) ?_; rfl) | (refine wpAnyH_take (i := 6) (v := ?_) rfl (by kernel_rfl) (by kernel_rfl) (by kernel_rfl) (by intro _ _ _ h; exact nomatch h.1) (Or.inl ⟨?_, ?_⟩) (by assumption) ?_; rotate_left; rfl; focus (intro w hSw; (try dsimp only at hSw); go_simp; all_goals (with_reducible rfl)))
            (try simp only [List.getElem_toArray, List.getElem_cons_zero, List.getElem_cons_succ, Act.put, List.setIfInBounds_toArray, List.set_cons_zero, List.set_cons_succ])
            first | (refine wpAnyH_take (i := 7) (v := _) rfl (by kernel_rfl) (by kernel_rfl) (by kernel_rfl) (by intro _ _ _ h; exact nomatch h.1) (Or.inr ⟨?_, rfl⟩) (by assumption) ?_; rfl) | (refine wpAnyH_take (i := 7) (v := ?_) rfl (by kernel_rfl) (by kernel_rfl) (by kernel_rfl) (by intro _ _ _ h; exact nomatch h.1) (Or.inl ⟨?_, ?_⟩) (by assumption) ?_; rotate_left; rfl; focus (intro w hSw; (try dsimp only at hSw); go_simp; all_goals (with_reducible rfl)))
            (try simp only [List.getElem_toArray, List.getElem_cons_zero, List.getElem_cons_succ, Act.put, List.setIfInBounds_toArray, List.set_cons_zero, List.set_cons_succ])
            first | (refine wpAnyH_take (i := 8) (v := _) rfl (by kernel_rfl) (by kernel_rfl) (by kernel_rfl) (by intro _ _ _ h; exact nomatch h.1) (Or.inr ⟨?_, rfl⟩) (by assumption) ?_; rfl) | (refine wpAnyH_take (i := 8) (v := ?_) rfl (by kernel_rfl) (by kernel_rfl) (by kernel_rfl) (by intro _ _ _ h; exact nomatch h.1) (Or.inl ⟨?_, ?_⟩) (by assumption) ?_; rotate_left; rfl; focus (intro w hSw; (try dsimp only at hSw); go_simp; all_goals (with_reducible rfl)))
            (try simp only [List.getElem_toArray, List.getElem_cons_zero, List.getElem_cons_succ, Act.put, List.setIfInBounds_toArray, List.set_cons_zero, List.set_cons_succ])
            refine wpAnyH_ready (rs := [10]) (by kernel_rfl) (by simp) ?_
            refine AllReadyH.cons rfl (fun K hK => ?_) AllReadyH.nil
            have hA := hB.out.put hle hb9 hj2
            rw [if_pos (by rfl)]
            refine wp_store_blk 27 _ _ rfl gyy #[.int .i64 0, .bool false, .int .i64 0, .string ⟨#[]⟩, .slice none 0 0, .slice none 0 0] _ _ rfl rfl hb9 rfl jv_size (jv_ones _ _ _ _ _ _ _ _ _ _) ?_
            refine hK.out _ _ ⟨hA.cells (g := gO) (v := objJ v u) (by simp), ((hA.blks (gn, 9, nmsJ x) (by simp)).cell i).trans HQ.out⟩ (fun hHeld => ?_)
            have HA := Lib.hid hA
            clear hK K hA hB hb9 hj2
            (try simp only [List.getElem_toArray, List.getElem_cons_zero, List.getElem_cons_succ, Act.put, List.setIfInBounds_toArray, List.set_cons_zero, List.set_cons_succ])
            first | (refine wpAnyH_take (i := 11) (v := _) rfl (by kernel_rfl) (by kernel_rfl) (by kernel_rfl) (by intro _ _ _ h; exact nomatch h.1) (Or.inr ⟨?_, rfl⟩) (by assumption) ?_; rfl) | (refine wpAnyH_take (i := 11) (v := ?_) rfl (by kernel_rfl) (by kernel_rfl) (by kernel_rfl) (by intro _ _ _ h; exact nomatch h.1) (Or.inl ⟨?_, ?_⟩) (by assumption) ?_; rotate_left; rfl; focus (intro w hSw; (try dsimp only at hSw); go_simp; all_goals (with_reducible rfl)))
            (try simp only [List.getElem_toArray, List.getElem_cons_zero, List.getElem_cons_succ, Act.put, List.setIfInBounds_toArray, List.set_cons_zero, List.set_cons_succ])
            refine wpAnyH_done (by kernel_rfl) ?_ _
            exact ⟨rfl, _, _, _, _, _, _, _, _, _, gyy, kyy, byy, nyy, syy, Nyy, nnyy, ncyy, Ayy, myy, cyy, rfl, HA⟩
        · rintro a' W12 ⟨q0, q1, q2, q3, q4, q5, q6, q7, q8, gyy, kyy, byy, nyy, syy, Nyy, nnyy, ncyy, Ayy, myy, cyy, rfl, HA⟩
          (try simp only [List.getElem_toArray, List.getElem_cons_zero, List.getElem_cons_succ, Act.put, List.setIfInBounds_toArray, List.set_cons_zero, List.set_cons_succ])
          clear hB hSS
          go_wp2_with fail
          have hA := HA.out.next (Below.refl _ _).drew
          have hS0 := (And.intro (hA.cells (g := gO) (v := objJ v u) (cs := [.int .i64 6, .bool false, .int .i64 0, .string ⟨#[]⟩, .slice (some ⟨b0, 0, none⟩) 3 3, .slice (some ⟨b4, 0, none⟩) 3 3]) (by simp)) (((hA.blks (gn, 9, nmsJ x) (by simp)).cell i).trans HQ.out))
          have HA2 := Lib.hid hA
          refine wp_region_held_drew (S := fun W => (∀ j t, ([.int .i64 6, .bool false, .int .i64 0, .string ⟨#[]⟩, .slice (some ⟨b0, 0, none⟩) 3 3, .slice (some ⟨b4, 0, none⟩) 3 3] : List Value)[j]? = some t → W.cell? ((⟨gO, 0, none⟩ : Addr).add j) = some t) ∧ W.cell? ⟨gn, i, none⟩ = some (.string ⟨q.toArray⟩)) (by kernel_rfl) hS0 (fun hHeld => ?_)
          refine wpAnyH_take (i := 0) (v := _) rfl (by kernel_rfl) (by kernel_rfl) (by kernel_rfl) (fun _ _ _ h => h) (yieldsIf_load_jv (by rfl) _ rfl ⟨gO, 0, none⟩ rfl _ _ _ _ _ _ (fun w h => h.1)) (by assumption) ?_
          (try simp only [List.getElem_toArray, List.getElem_cons_zero, List.getElem_cons_succ, Act.put, List.setIfInBounds_toArray, List.set_cons_zero, List.set_cons_succ])
          first | (refine wpAnyH_take (i := 1) (v := _) rfl (by kernel_rfl) (by kernel_rfl) (by kernel_rfl) (fun _ _ _ h => h) (Or.inr ⟨?_, rfl⟩) (by assumption) ?_; rfl) | (refine wpAnyH_take (i := 1) (v := ?_) rfl (by kernel_rfl) (by kernel_rfl) (by kernel_rfl) (fun _ _ _ h => h) (Or.inl ⟨?_, ?_⟩) (by assumption) ?_; rotate_left; rfl; focus (intro w hSw; (try dsimp only at hSw); go_simp; all_goals (with_reducible rfl)))
          (try simp only [List.getElem_toArray, List.getElem_cons_zero, List.getElem_cons_succ, Act.put, List.setIfInBounds_toArray, List.set_cons_zero, List.set_cons_succ])
          first | (refine wpAnyH_take (i := 2) (v := _) rfl (by kernel_rfl) (by kernel_rfl) (by kernel_rfl) (fun _ _ _ h => h) (Or.inr ⟨?_, rfl⟩) (by assumption) ?_; rfl) | (refine wpAnyH_take (i := 2) (v := ?_) rfl (by kernel_rfl) (by kernel_rfl) (by kernel_rfl) (fun _ _ _ h => h) (Or.inl ⟨?_, ?_⟩) (by assumption) ?_; rotate_left; rfl; focus (intro w hSw; (try dsimp only at hSw); go_simp; all_goals (with_reducible rfl)))
          (try simp only [List.getElem_toArray, List.getElem_cons_zero, List.getElem_cons_succ, Act.put, List.setIfInBounds_toArray, List.set_cons_zero, List.set_cons_succ])
          first | (refine wpAnyH_take (i := 3) (v := _) rfl (by kernel_rfl) (by kernel_rfl) (by kernel_rfl) (fun _ _ _ h => h) (Or.inr ⟨?_, rfl⟩) (by assumption) ?_; rfl) | (refine wpAnyH_take (i := 3) (v := ?_) rfl (by kernel_rfl) (by kernel_rfl) (by kernel_rfl) (fun _ _ _ h => h) (Or.inl ⟨?_, ?_⟩) (by assumption) ?_; rotate_left; rfl; focus (intro w hSw; (try dsimp only at hSw); go_simp; all_goals (with_reducible rfl)))
          (try simp only [List.getElem_toArray, List.getElem_cons_zero, List.getElem_cons_succ, Act.put, List.setIfInBounds_toArray, List.set_cons_zero, List.set_cons_succ])
          first | (refine wpAnyH_take (i := 4) (v := _) rfl (by kernel_rfl) (by kernel_rfl) (by kernel_rfl) (fun _ _ _ h => h) (Or.inr ⟨?_, rfl⟩) (by assumption) ?_; rfl) | (refine wpAnyH_take (i := 4) (v := ?_) rfl (by kernel_rfl) (by kernel_rfl) (by kernel_rfl) (fun _ _ _ h => h) (Or.inl ⟨?_, ?_⟩) (by assumption) ?_; rotate_left; rfl; focus (intro w hSw; (try dsimp only at hSw); go_simp; all_goals (with_reducible rfl)))
          (try simp only [List.getElem_toArray, List.getElem_cons_zero, List.getElem_cons_succ, Act.put, List.setIfInBounds_toArray, List.set_cons_zero, List.set_cons_succ])
          refine wpAnyH_ready (rs := [5]) (by kernel_rfl) (by simp) ?_
          refine AllReadyH.cons rfl (fun K hK => ?_) AllReadyH.nil
          go_simp
          refine (text_walk (objJ v u) [.int .i64 6, .bool false, .int .i64 0, .string ⟨#[]⟩, .slice (some ⟨b0, 0, none⟩) 3 3, .slice (some ⟨b4, 0, none⟩) 3 3] q _ HSO.out (HA2.out.vals (gO, objJ v u, [.int .i64 6, .bool false, .int .i64 0, .string ⟨#[]⟩, .slice (some ⟨b0, 0, none⟩) 3 3, .slice (some ⟨b4, 0, none⟩) 3 3]) (by simp)).2).mono ?_
          rintro _ U13 ⟨rfl, hb⟩
          simp only [strV]
          go_simp
          have hA3 := HA2.out.next hb
          refine hK.out _ _ (And.intro (hA3.cells (g := gO) (v := objJ v u) (cs := [.int .i64 6, .bool false, .int .i64 0, .string ⟨#[]⟩, .slice (some ⟨b0, 0, none⟩) 3 3, .slice (some ⟨b4, 0, none⟩) 3 3]) (by simp)) (((hA3.blks (gn, 9, nmsJ x) (by simp)).cell i).trans HQ.out)) (fun hHeld2 => ?_)
          clear hK K hHeld hA hS0 hb HA2 HA
          have HA := Lib.hid hA3
          clear hA3
          (try simp only [List.getElem_toArray, List.getElem_cons_zero, List.getElem_cons_succ, Act.put, List.setIfInBounds_toArray, List.set_cons_zero, List.set_cons_succ])
          first | (refine wpAnyH_take (i := 6) (v := _) rfl (by kernel_rfl) (by kernel_rfl) (by kernel_rfl) (fun _ _ _ h => h) (Or.inr ⟨?_, rfl⟩) (by assumption) ?_; rfl) | (refine wpAnyH_take (i := 6) (v := ?_) rfl (by kernel_rfl) (by kernel_rfl) (by kernel_rfl) (fun _ _ _ h => h) (Or.inl ⟨?_, ?_⟩) (by assumption) ?_; rotate_left; rfl; focus (intro w hSw; (try dsimp only at hSw); go_simp; all_goals (with_reducible rfl)))
          (try simp only [List.getElem_toArray, List.getElem_cons_zero, List.getElem_cons_succ, Act.put, List.setIfInBounds_toArray, List.set_cons_zero, List.set_cons_succ])
          first | (refine wpAnyH_take (i := 7) (v := _) rfl (by kernel_rfl) (by kernel_rfl) (by kernel_rfl) (fun _ _ _ h => h) (Or.inr ⟨?_, rfl⟩) (by assumption) ?_; rfl) | (refine wpAnyH_take (i := 7) (v := ?_) rfl (by kernel_rfl) (by kernel_rfl) (by kernel_rfl) (fun _ _ _ h => h) (Or.inl ⟨?_, ?_⟩) (by assumption) ?_; rotate_left; rfl; focus (intro w hSw; (try dsimp only at hSw); go_simp; all_goals (with_reducible rfl)))
          (try simp only [List.getElem_toArray, List.getElem_cons_zero, List.getElem_cons_succ, Act.put, List.setIfInBounds_toArray, List.set_cons_zero, List.set_cons_succ])
          first | (refine wpAnyH_take (i := 8) (v := _) rfl (by kernel_rfl) (by kernel_rfl) (by kernel_rfl) (fun _ _ _ h => h) (Or.inr ⟨?_, rfl⟩) (by assumption) ?_; rfl) | (refine wpAnyH_take (i := 8) (v := ?_) rfl (by kernel_rfl) (by kernel_rfl) (by kernel_rfl) (fun _ _ _ h => h) (Or.inl ⟨?_, ?_⟩) (by assumption) ?_; rotate_left; rfl; focus (intro w hSw; (try dsimp only at hSw); go_simp; all_goals (with_reducible rfl)))
          (try simp only [List.getElem_toArray, List.getElem_cons_zero, List.getElem_cons_succ, Act.put, List.setIfInBounds_toArray, List.set_cons_zero, List.set_cons_succ])
          first | (refine wpAnyH_take (i := 9) (v := _) rfl (by kernel_rfl) (by kernel_rfl) (by kernel_rfl) (fun _ _ _ h => h) (Or.inr ⟨?_, rfl⟩) (by assumption) ?_; rfl) | (refine wpAnyH_take (i := 9) (v := ?_) rfl (by kernel_rfl) (by kernel_rfl) (by kernel_rfl) (fun _ _ _ h => h) (Or.inl ⟨?_, ?_⟩) (by assumption) ?_; rotate_left; rfl; focus (intro w hSw; (try dsimp only at hSw); go_simp; all_goals (with_reducible rfl)))
          (try simp only [List.getElem_toArray, List.getElem_cons_zero, List.getElem_cons_succ, Act.put, List.setIfInBounds_toArray, List.set_cons_zero, List.set_cons_succ])
          first | (refine wpAnyH_take (i := 10) (v := _) rfl (by kernel_rfl) (by kernel_rfl) (by kernel_rfl) (fun _ _ _ h => h) (Or.inr ⟨?_, rfl⟩) (by assumption) ?_; rfl) | (refine wpAnyH_take (i := 10) (v := ?_) rfl (by kernel_rfl) (by kernel_rfl) (by kernel_rfl) (fun _ _ _ h => h) (Or.inl ⟨?_, ?_⟩) (by assumption) ?_; rotate_left; rfl; focus (intro w hSw; (try dsimp only at hSw); go_simp; all_goals (with_reducible rfl)))
          (try simp only [List.getElem_toArray, List.getElem_cons_zero, List.getElem_cons_succ, Act.put, List.setIfInBounds_toArray, List.set_cons_zero, List.set_cons_succ])
          refine wpAnyH_done (by kernel_rfl) ?_ _
          clear hHeld2
          go_wp2_with fail
          have hA := HA.out.next (Below.refl _ _).drew
          have hS0 := (And.intro (hA.cells (g := gO) (v := objJ v u) (cs := [.int .i64 6, .bool false, .int .i64 0, .string ⟨#[]⟩, .slice (some ⟨b0, 0, none⟩) 3 3, .slice (some ⟨b4, 0, none⟩) 3 3]) (by simp)) (((hA.blks (gn, 9, nmsJ x) (by simp)).cell i).trans HQ.out))
          have HA2 := Lib.hid hA
          refine wp_region_held_drew (S := fun W => (∀ j t, ([.int .i64 6, .bool false, .int .i64 0, .string ⟨#[]⟩, .slice (some ⟨b0, 0, none⟩) 3 3, .slice (some ⟨b4, 0, none⟩) 3 3] : List Value)[j]? = some t → W.cell? ((⟨gO, 0, none⟩ : Addr).add j) = some t) ∧ W.cell? ⟨gn, i, none⟩ = some (.string ⟨q.toArray⟩)) (by kernel_rfl) hS0 (fun hHeld => ?_)
          refine wpAnyH_take (i := 0) (v := _) rfl (by kernel_rfl) (by kernel_rfl) (by kernel_rfl) (fun _ _ _ h => h) (yieldsIf_load_jv (by rfl) _ rfl ⟨gO, 0, none⟩ rfl _ _ _ _ _ _ (fun w h => h.1)) (by assumption) ?_
          (try simp only [List.getElem_toArray, List.getElem_cons_zero, List.getElem_cons_succ, Act.put, List.setIfInBounds_toArray, List.set_cons_zero, List.set_cons_succ])
          first | (refine wpAnyH_take (i := 1) (v := _) rfl (by kernel_rfl) (by kernel_rfl) (by kernel_rfl) (fun _ _ _ h => h) (Or.inr ⟨?_, rfl⟩) (by assumption) ?_; rfl) | (refine wpAnyH_take (i := 1) (v := ?_) rfl (by kernel_rfl) (by kernel_rfl) (by kernel_rfl) (fun _ _ _ h => h) (Or.inl ⟨?_, ?_⟩) (by assumption) ?_; rotate_left; rfl; focus (intro w hSw; (try dsimp only at hSw); go_simp; all_goals (with_reducible rfl)))
          (try simp only [List.getElem_toArray, List.getElem_cons_zero, List.getElem_cons_succ, Act.put, List.setIfInBounds_toArray, List.set_cons_zero, List.set_cons_succ])
          first | (refine wpAnyH_take (i := 2) (v := _) rfl (by kernel_rfl) (by kernel_rfl) (by kernel_rfl) (fun _ _ _ h => h) (Or.inr ⟨?_, rfl⟩) (by assumption) ?_; rfl) | (refine wpAnyH_take (i := 2) (v := ?_) rfl (by kernel_rfl) (by kernel_rfl) (by kernel_rfl) (fun _ _ _ h => h) (Or.inl ⟨?_, ?_⟩) (by assumption) ?_; rotate_left; rfl; focus (intro w hSw; (try dsimp only at hSw); go_simp; all_goals (with_reducible rfl)))
          (try simp only [List.getElem_toArray, List.getElem_cons_zero, List.getElem_cons_succ, Act.put, List.setIfInBounds_toArray, List.set_cons_zero, List.set_cons_succ])
          first | (refine wpAnyH_take (i := 3) (v := _) rfl (by kernel_rfl) (by kernel_rfl) (by kernel_rfl) (fun _ _ _ h => h) (Or.inr ⟨?_, rfl⟩) (by assumption) ?_; rfl) | (refine wpAnyH_take (i := 3) (v := ?_) rfl (by kernel_rfl) (by kernel_rfl) (by kernel_rfl) (fun _ _ _ h => h) (Or.inl ⟨?_, ?_⟩) (by assumption) ?_; rotate_left; rfl; focus (intro w hSw; (try dsimp only at hSw); go_simp; all_goals (with_reducible rfl)))
          (try simp only [List.getElem_toArray, List.getElem_cons_zero, List.getElem_cons_succ, Act.put, List.setIfInBounds_toArray, List.set_cons_zero, List.set_cons_succ])
          first | (refine wpAnyH_take (i := 4) (v := _) rfl (by kernel_rfl) (by kernel_rfl) (by kernel_rfl) (fun _ _ _ h => h) (Or.inr ⟨?_, rfl⟩) (by assumption) ?_; rfl) | (refine wpAnyH_take (i := 4) (v := ?_) rfl (by kernel_rfl) (by kernel_rfl) (by kernel_rfl) (fun _ _ _ h => h) (Or.inl ⟨?_, ?_⟩) (by assumption) ?_; rotate_left; rfl; focus (intro w hSw; (try dsimp only at hSw); go_simp; all_goals (with_reducible rfl)))
          (try simp only [List.getElem_toArray, List.getElem_cons_zero, List.getElem_cons_succ, Act.put, List.setIfInBounds_toArray, List.set_cons_zero, List.set_cons_succ])
          refine wpAnyH_ready (rs := [5]) (by kernel_rfl) (by simp) ?_
          refine AllReadyH.cons rfl (fun K hK => ?_) AllReadyH.nil
          go_simp
          refine (rtext_walk (objJ v u) [.int .i64 6, .bool false, .int .i64 0, .string ⟨#[]⟩, .slice (some ⟨b0, 0, none⟩) 3 3, .slice (some ⟨b4, 0, none⟩) 3 3] q _ HSO.out (HA2.out.vals (gO, objJ v u, [.int .i64 6, .bool false, .int .i64 0, .string ⟨#[]⟩, .slice (some ⟨b0, 0, none⟩) 3 3, .slice (some ⟨b4, 0, none⟩) 3 3]) (by simp)).2).mono ?_
          rintro _ U14 ⟨rfl, hb⟩
          simp only [strV]
          go_simp
          have hA3 := HA2.out.next hb
          refine hK.out _ _ (And.intro (hA3.cells (g := gO) (v := objJ v u) (cs := [.int .i64 6, .bool false, .int .i64 0, .string ⟨#[]⟩, .slice (some ⟨b0, 0, none⟩) 3 3, .slice (some ⟨b4, 0, none⟩) 3 3]) (by simp)) (((hA3.blks (gn, 9, nmsJ x) (by simp)).cell i).trans HQ.out)) (fun hHeld2 => ?_)
          clear hK K hHeld hA hS0 hb HA2 HA
          have HA := Lib.hid hA3
          clear hA3
          (try simp only [List.getElem_toArray, List.getElem_cons_zero, List.getElem_cons_succ, Act.put, List.setIfInBounds_toArray, List.set_cons_zero, List.set_cons_succ])
          first | (refine wpAnyH_take (i := 6) (v := _) rfl (by kernel_rfl) (by kernel_rfl) (by kernel_rfl) (fun _ _ _ h => h) (Or.inr ⟨?_, rfl⟩) (by assumption) ?_; rfl) | (refine wpAnyH_take (i := 6) (v := ?_) rfl (by kernel_rfl) (by kernel_rfl) (by kernel_rfl) (fun _ _ _ h => h) (Or.inl ⟨?_, ?_⟩) (by assumption) ?_; rotate_left; rfl; focus (intro w hSw; (try dsimp only at hSw); go_simp; all_goals (with_reducible rfl)))
          (try simp only [List.getElem_toArray, List.getElem_cons_zero, List.getElem_cons_succ, Act.put, List.setIfInBounds_toArray, List.set_cons_zero, List.set_cons_succ])
          first | (refine wpAnyH_take (i := 7) (v := _) rfl (by kernel_rfl) (by kernel_rfl) (by kernel_rfl) (fun _ _ _ h => h) (Or.inr ⟨?_, rfl⟩) (by assumption) ?_; rfl) | (refine wpAnyH_take (i := 7) (v := ?_) rfl (by kernel_rfl) (by kernel_rfl) (by kernel_rfl) (fun _ _ _ h => h) (Or.inl ⟨?_, ?_⟩) (by assumption) ?_; rotate_left; rfl; focus (intro w hSw; (try dsimp only at hSw); go_simp; all_goals (with_reducible rfl)))
          (try simp only [List.getElem_toArray, List.getElem_cons_zero, List.getElem_cons_succ, Act.put, List.setIfInBounds_toArray, List.set_cons_zero, List.set_cons_succ])
          first | (refine wpAnyH_take (i := 8) (v := _) rfl (by kernel_rfl) (by kernel_rfl) (by kernel_rfl) (fun _ _ _ h => h) (Or.inr ⟨?_, rfl⟩) (by assumption) ?_; rfl) | (refine wpAnyH_take (i := 8) (v := ?_) rfl (by kernel_rfl) (by kernel_rfl) (by kernel_rfl) (fun _ _ _ h => h) (Or.inl ⟨?_, ?_⟩) (by assumption) ?_; rotate_left; rfl; focus (intro w hSw; (try dsimp only at hSw); go_simp; all_goals (with_reducible rfl)))
          (try simp only [List.getElem_toArray, List.getElem_cons_zero, List.getElem_cons_succ, Act.put, List.setIfInBounds_toArray, List.set_cons_zero, List.set_cons_succ])
          first | (refine wpAnyH_take (i := 9) (v := _) rfl (by kernel_rfl) (by kernel_rfl) (by kernel_rfl) (fun _ _ _ h => h) (Or.inr ⟨?_, rfl⟩) (by assumption) ?_; rfl) | (refine wpAnyH_take (i := 9) (v := ?_) rfl (by kernel_rfl) (by kernel_rfl) (by kernel_rfl) (fun _ _ _ h => h) (Or.inl ⟨?_, ?_⟩) (by assumption) ?_; rotate_left; rfl; focus (intro w hSw; (try dsimp only at hSw); go_simp; all_goals (with_reducible rfl)))
          (try simp only [List.getElem_toArray, List.getElem_cons_zero, List.getElem_cons_succ, Act.put, List.setIfInBounds_toArray, List.set_cons_zero, List.set_cons_succ])
          first | (refine wpAnyH_take (i := 10) (v := _) rfl (by kernel_rfl) (by kernel_rfl) (by kernel_rfl) (fun _ _ _ h => h) (Or.inr ⟨?_, rfl⟩) (by assumption) ?_; rfl) | (refine wpAnyH_take (i := 10) (v := ?_) rfl (by kernel_rfl) (by kernel_rfl) (by kernel_rfl) (fun _ _ _ h => h) (Or.inl ⟨?_, ?_⟩) (by assumption) ?_; rotate_left; rfl; focus (intro w hSw; (try dsimp only at hSw); go_simp; all_goals (with_reducible rfl)))
          (try simp only [List.getElem_toArray, List.getElem_cons_zero, List.getElem_cons_succ, Act.put, List.setIfInBounds_toArray, List.set_cons_zero, List.set_cons_succ])
          refine wpAnyH_done (by kernel_rfl) ?_ _
          clear hHeld2
          go_wp2_with fail
          have hB := Lib.hid (HA.out.toB.next (Below.refl _ _).drew)
          have hSS : ∀ W, StB U14.heap.size w ((gyy, (getJ (objJ v u) q).getD jvZ, [.int .i64 kyy, .bool byy, .int .i64 nyy, .string syy, .slice Nyy nnyy ncyy, .slice Ayy myy cyy]) :: ((gx, (getJ (objJ v u) q).getD jvZ, [.int .i64 kx, .bool bx, .int .i64 nx, .string sx, .slice Nx nnx ncx, .slice Ax mx cx]) :: [(gO, objJ v u, ([.int .i64 6, .bool false, .int .i64 0, .string ⟨#[]⟩, .slice (some ⟨b0, 0, none⟩) 3 3, .slice (some ⟨b4, 0, none⟩) 3 3] : List Value)), (gu, u, [.int .i64 k2, .bool b2, .int .i64 n2, .string s2, .slice N2 nn2 nc2, .slice A2 m2 c2]), (gv, v, [.int .i64 k1, .bool b1, .int .i64 n1, .string s1, .slice N1 nn1 nc1, .slice A1 m1 c1])])) [(gn, 9, nmsJ x)] W → (∀ j t, ([.int .i64 k1, .bool b1, .int .i64 n1, .string s1, .slice N1 nn1 nc1, .slice A1 m1 c1] : List Value)[j]? = some t → W.cell? ((⟨gv, 0, none⟩ : Addr).add j) = some t) ∧ W.cell? ⟨gn, i, none⟩ = some (.string ⟨q.toArray⟩) := fun W h => ⟨h.st.cells (g := gv) (v := v) (by simp), ((h.st.blks (gn, 9, nmsJ x) (by simp)).cell i).trans HQ.out⟩
          refine region_fin (F := fun a a' W => ∃ (q0 q1 q2 q3 q4 q5 q6 q7 q8 : Value) (gp : Nat) (kp : Int) (bp : Bool) (np : Int) (sp : ByteArray) (Np : Option Addr) (nnp ncp : Nat) (Ap : Option Addr) (mp cp : Nat), a' = (((((((((((a.put (some 86) q0).put (some 87) q1).put (some 88) q2).put (some 89) q3).put (some 90) q4).put (some 91) q5).put (some 85) q6).put (some 92) q7).put (some 93) q8).put (some 20) (.pointer (some ⟨gp, 0, none⟩))).put (some 21) (.bool (getJ (v) q).isSome)) ∧ Hid (StA w ((gp, (getJ (v) q).getD jvZ, [.int .i64 kp, .bool bp, .int .i64 np, .string sp, .slice Np nnp ncp, .slice Ap mp cp]) :: ((gyy, (getJ (objJ v u) q).getD jvZ, [.int .i64 kyy, .bool byy, .int .i64 nyy, .string syy, .slice Nyy nnyy ncyy, .slice Ayy myy cyy]) :: ((gx, (getJ (objJ v u) q).getD jvZ, [.int .i64 kx, .bool bx, .int .i64 nx, .string sx, .slice Nx nnx ncx, .slice Ax mx cx]) :: [(gO, objJ v u, ([.int .i64 6, .bool false, .int .i64 0, .string ⟨#[]⟩, .slice (some ⟨b0, 0, none⟩) 3 3, .slice (some ⟨b4, 0, none⟩) 3 3] : List Value)), (gu, u, [.int .i64 k2, .bool b2, .int .i64 n2, .string s2, .slice N2 nn2 nc2, .slice A2 m2 c2]), (gv, v, [.int .i64 k1, .bool b1, .int .i64 n1, .string s1, .slice N1 nn1 nc1, .slice A1 m1 c1])]))) [(gn, 9, nmsJ x)] W)) ?_ ?_
          · have hS0 := hSS _ hB.out
            generalize hB0 : U14.heap.size = B0 at hB hSS
            refine wp_region_held_drew (S := fun W => (∀ j t, ([.int .i64 k1, .bool b1, .int .i64 n1, .string s1, .slice N1 nn1 nc1, .slice A1 m1 c1] : List Value)[j]? = some t → W.cell? ((⟨gv, 0, none⟩ : Addr).add j) = some t) ∧ W.cell? ⟨gn, i, none⟩ = some (.string ⟨q.toArray⟩)) (by kernel_rfl) hS0 (fun hHeld => ?_)
            refine wpAnyH_take (i := 0) (v := _) rfl (by kernel_rfl) (by kernel_rfl) (by kernel_rfl) (by intro _ _ _ h; exact nomatch h.1) (yieldsIf_load_jv (by rfl) _ rfl ⟨gv, 0, none⟩ rfl _ _ _ _ _ _ (fun w h => h.1)) (by assumption) ?_
            (try simp only [List.getElem_toArray, List.getElem_cons_zero, List.getElem_cons_succ, Act.put, List.setIfInBounds_toArray, List.set_cons_zero, List.set_cons_succ])
            first | (refine wpAnyH_take (i := 1) (v := _) rfl (by kernel_rfl) (by kernel_rfl) (by kernel_rfl) (by intro _ _ _ h; exact nomatch h.1) (Or.inr ⟨?_, rfl⟩) (by assumption) ?_; rfl) | (refine wpAnyH_take (i := 1) (v := ?_) rfl (by kernel_rfl) (by kernel_rfl) (by kernel_rfl) (by intro _ _ _ h; exact nomatch h.1) (Or.inl ⟨?_, ?_⟩) (by assumption) ?_; rotate_left; rfl; focus (intro w hSw; (try dsimp only at hSw); go_simp; all_goals (with_reducible rfl)))
            (try simp only [List.getElem_toArray, List.getElem_cons_zero, List.getElem_cons_succ, Act.put, List.setIfInBounds_toArray, List.set_cons_zero, List.set_cons_succ])
            first | (refine wpAnyH_take (i := 2) (v := _) rfl (by kernel_rfl) (by kernel_rfl) (by kernel_rfl) (by intro _ _ _ h; exact nomatch h.1) (Or.inr ⟨?_, rfl⟩) (by assumption) ?_; rfl) | (refine wpAnyH_take (i := 2) (v := ?_) rfl (by kernel_rfl) (by kernel_rfl) (by kernel_rfl) (by intro _ _ _ h; exact nomatch h.1) (Or.inl ⟨?_, ?_⟩) (by assumption) ?_; rotate_left; rfl; focus (intro w hSw; (try dsimp only at hSw); go_simp; all_goals (with_reducible rfl)))
            (try simp only [List.getElem_toArray, List.getElem_cons_zero, List.getElem_cons_succ, Act.put, List.setIfInBounds_toArray, List.set_cons_zero, List.set_cons_succ])
            first | (refine wpAnyH_take (i := 3) (v := _) rfl (by kernel_rfl) (by kernel_rfl) (by kernel_rfl) (by intro _ _ _ h; exact nomatch h.1) (Or.inr ⟨?_, rfl⟩) (by assumption) ?_; rfl) | (refine wpAnyH_take (i := 3) (v := ?_) rfl (by kernel_rfl) (by kernel_rfl) (by kernel_rfl) (by intro _ _ _ h; exact nomatch h.1) (Or.inl ⟨?_, ?_⟩) (by assumption) ?_; rotate_left; rfl; focus (intro w hSw; (try dsimp only at hSw); go_simp; all_goals (with_reducible rfl)))
            (try simp only [List.getElem_toArray, List.getElem_cons_zero, List.getElem_cons_succ, Act.put, List.setIfInBounds_toArray, List.set_cons_zero, List.set_cons_succ])
            first | (refine wpAnyH_take (i := 4) (v := _) rfl (by kernel_rfl) (by kernel_rfl) (by kernel_rfl) (by intro _ _ _ h; exact nomatch h.1) (Or.inr ⟨?_, rfl⟩) (by assumption) ?_; rfl) | (refine wpAnyH_take (i := 4) (v := ?_) rfl (by kernel_rfl) (by kernel_rfl) (by kernel_rfl) (by intro _ _ _ h; exact nomatch h.1) (Or.inl ⟨?_, ?_⟩) (by assumption) ?_; rotate_left; rfl; focus (intro w hSw; (try dsimp only at hSw); go_simp; all_goals (with_reducible rfl)))
            (try simp only [List.getElem_toArray, List.getElem_cons_zero, List.getElem_cons_succ, Act.put, List.setIfInBounds_toArray, List.set_cons_zero, List.set_cons_succ])
            generalize U14.drew = U0 at hB ⊢
            clear hS0 hHeld
            refine wpAnyH_ready (rs := [5, 9]) (by kernel_rfl) (by simp) ?_
            refine AllReadyH.cons rfl (fun K hK => ?_) ( AllReadyH.cons rfl (fun K hK => ?_) AllReadyH.nil)
            · go_simp
              refine (get_walk2 (v) [.int .i64 k1, .bool b1, .int .i64 n1, .string s1, .slice N1 nn1 nc1, .slice A1 m1 c1] q U0 hsv (JvP.toV (fun _ _ => Nat.zero_le _) _ _ (hB.out.rows (gv, v, [.int .i64 k1, .bool b1, .int .i64 n1, .string s1, .slice N1 nn1 nc1, .slice A1 m1 c1]) (by simp)).2)).mono ?_
              rintro _ U1 ⟨cs, rfl, hj, hb⟩
              obtain ⟨kp, bp, np, sp, Np, nnp, ncp, Ap, mp, cp, rfl⟩ := hj.form
              go_simp
              have hB2 := hB.out.next hb
              refine hK.out _ _ (hSS _ hB2) (fun hHeld => ?_)
              clear hK K hB
              have hB := Lib.hid hB2
              have HJ := Lib.hid hj
              clear hB2 hj hb
              (try simp only [List.getElem_toArray, List.getElem_cons_zero, List.getElem_cons_succ, Act.put, List.setIfInBounds_toArray, List.set_cons_zero, List.set_cons_succ])
              first | (refine wpAnyH_take (i := 6) (v := _) rfl (by kernel_rfl) (by kernel_rfl) (by kernel_rfl) (by intro _ _ _ h; exact nomatch h.1) (Or.inr ⟨?_, rfl⟩) (by assumption) ?_; rfl) | (refine wpAnyH_take (i := 6) (v := ?_) rfl (by kernel_rfl) (by kernel_rfl) (by kernel_rfl) (by intro _ _ _ h; exact nomatch h.1) (Or.inl ⟨?_, ?_⟩) (by assumption) ?_; rotate_left; rfl; focus (intro w hSw; (try dsimp only at hSw); go_simp; all_goals (with_reducible rfl)))
              (try simp only [List.getElem_toArray, List.getElem_cons_zero, List.getElem_cons_succ, Act.put, List.setIfInBounds_toArray, List.set_cons_zero, List.set_cons_succ])
              first | (refine wpAnyH_take (i := 7) (v := _) rfl (by kernel_rfl) (by kernel_rfl) (by kernel_rfl) (by intro _ _ _ h; exact nomatch h.1) (Or.inr ⟨?_, rfl⟩) (by assumption) ?_; rfl) | (refine wpAnyH_take (i := 7) (v := ?_) rfl (by kernel_rfl) (by kernel_rfl) (by kernel_rfl) (by intro _ _ _ h; exact nomatch h.1) (Or.inl ⟨?_, ?_⟩) (by assumption) ?_; rotate_left; rfl; focus (intro w hSw; (try dsimp only at hSw); go_simp; all_goals (with_reducible rfl)))
              (try simp only [List.getElem_toArray, List.getElem_cons_zero, List.getElem_cons_succ, Act.put, List.setIfInBounds_toArray, List.set_cons_zero, List.set_cons_succ])
              first | (refine wpAnyH_take (i := 8) (v := _) rfl (by kernel_rfl) (by kernel_rfl) (by kernel_rfl) (by intro _ _ _ h; exact nomatch h.1) (Or.inr ⟨?_, rfl⟩) (by assumption) ?_; rfl) | (refine wpAnyH_take (i := 8) (v := ?_) rfl (by kernel_rfl) (by kernel_rfl) (by kernel_rfl) (by intro _ _ _ h; exact nomatch h.1) (Or.inl ⟨?_, ?_⟩) (by assumption) ?_; rotate_left; rfl; focus (intro w hSw; (try dsimp only at hSw); go_simp; all_goals (with_reducible rfl)))
              (try simp only [List.getElem_toArray, List.getElem_cons_zero, List.getElem_cons_succ, Act.put, List.setIfInBounds_toArray, List.set_cons_zero, List.set_cons_succ])
              refine wpAnyH_ready (rs := [9]) (by kernel_rfl) (by simp) ?_
              refine AllReadyH.cons rfl (fun K hK => ?_) AllReadyH.nil
              go_simp
              have hle := hB.out.le
              have hb9 := Blk.new U1 27 #[.int .i64 0, .bool false, .int .i64 0, .string ⟨#[]⟩, .slice none 0 0, .slice none 0 0]
              have hB2 := hB.out.alloc (.cells #[.int .i64 0, .bool false, .int .i64 0, .string ⟨#[]⟩, .slice none 0 0, .slice none 0 0] 27)
              have hj := JvP.below (JvV.toP (D := fun b => b < U1.heap.size) (fun b _ h => h) _ _ HJ.out) (alloc_below U1 (.cells #[.int .i64 0, .bool false, .int .i64 0, .string ⟨#[]⟩, .slice none 0 0, .slice none 0 0] 27))
              generalize U1.alloc (.cells #[.int .i64 0, .bool false, .int .i64 0, .string ⟨#[]⟩, .slice none 0 0, .slice none 0 0] 27) = U2 at hb9 hB2 hj ⊢
              have hj2 := hj.weak (D' := fun b => b ≠ U1.heap.size) (fun b (h : b < _) => by omega)
              generalize U1.heap.size = gp at hb9 hle hj2 ⊢
              refine hK.out _ _ (hSS _ hB2) (fun hHeld => ?_)
              clear hK K hB
              have hB := Lib.hid hB2
              clear hB2 hj HJ
              (try simp only [List.getElem_toArray, List.getElem_cons_zero, List.getElem_cons_succ, Act.put, List.setIfInBounds_toArray, List.set_cons_zero, List.set_cons_succ])
              refine wpAnyH_ready (rs := [10]) (by kernel_rfl) (by simp) ?_
              refine AllReadyH.cons rfl (fun K hK => ?_) AllReadyH.nil
              have hA := hB.out.put hle hb9 hj2
              rw [if_pos (by rfl)]
              refine wp_store_blk 27 _ _ rfl gp #[.int .i64 0, .bool false, .int .i64 0, .string ⟨#[]⟩, .slice none 0 0, .slice none 0 0] _ _ rfl rfl hb9 rfl jv_size (jv_ones _ _ _ _ _ _ _ _ _ _) ?_
              refine hK.out _ _ ⟨hA.cells (g := gv) (v := v) (by simp), ((hA.blks (gn, 9, nmsJ x) (by simp)).cell i).trans HQ.out⟩ (fun hHeld => ?_)
              have HA := Lib.hid hA
              clear hK K hA hB hb9 hj2
              (try simp only [List.getElem_toArray, List.getElem_cons_zero, List.getElem_cons_succ, Act.put, List.setIfInBounds_toArray, List.set_cons_zero, List.set_cons_succ])
              first | (refine wpAnyH_take (i := 11) (v := _) rfl (by kernel_rfl) (by kernel_rfl) (by kernel_rfl) (by intro _ _ _ h; exact nomatch h.1) (Or.inr ⟨?_, rfl⟩) (by assumption) ?_; rfl) | (refine wpAnyH_take (i := 11) (v := ?_) rfl (by kernel_rfl) (by kernel_rfl) (by kernel_rfl) (by intro _ _ _ h; exact nomatch h.1) (Or.inl ⟨?_, ?_⟩) (by assumption) ?_; rotate_left; rfl; focus (intro w hSw; (try dsimp only at hSw); go_simp; all_goals (with_reducible rfl)))
              (try simp only [List.getElem_toArray, List.getElem_cons_zero, List.getElem_cons_succ, Act.put, List.setIfInBounds_toArray, List.set_cons_zero, List.set_cons_succ])
              refine wpAnyH_done (by kernel_rfl) ?_ _
              exact ⟨rfl, _, _, _, _, _, _, _, _, _, gp, kp, bp, np, sp, Np, nnp, ncp, Ap, mp, cp, rfl, HA⟩
            · go_simp
              have hle := hB.out.le
              have hb9 := Blk.new U0 27 #[.int .i64 0, .bool false, .int .i64 0, .string ⟨#[]⟩, .slice none 0 0, .slice none 0 0]
              have hB2 := hB.out.alloc (.cells #[.int .i64 0, .bool false, .int .i64 0, .string ⟨#[]⟩, .slice none 0 0, .slice none 0 0] 27)
              generalize hU1 : U0.alloc (.cells #[.int .i64 0, .bool false, .int .i64 0, .string ⟨#[]⟩, .slice none 0 0, .slice none 0 0] 27) = U1 at hb9 hB2 ⊢
              have hsz : U1.heap.size = U0.heap.size + 1 := by rw [← hU1]; simp
              generalize U0.heap.size = gp at hb9 hle hsz ⊢
              refine hK.out _ _ (hSS _ hB2) (fun hHeld => ?_)
              clear hK K hB hU1
              have hB := Lib.hid hB2
              have Hb9 := Lib.hid hb9
              have HSZ := Lib.hid hsz
              clear hB2 hb9 hsz
              (try simp only [List.getElem_toArray, List.getElem_cons_zero, List.getElem_cons_succ, Act.put, List.setIfInBounds_toArray, List.set_cons_zero, List.set_cons_succ])
              refine wpAnyH_ready (rs := [5]) (by kernel_rfl) (by simp) ?_
              refine AllReadyH.cons rfl (fun K hK => ?_) AllReadyH.nil
              go_simp
              refine (get_walk2 (v) [.int .i64 k1, .bool b1, .int .i64 n1, .string s1, .slice N1 nn1 nc1, .slice A1 m1 c1] q U1 hsv (JvP.toV (fun _ _ => Nat.zero_le _) _ _ (hB.out.rows (gv, v, [.int .i64 k1, .bool b1, .int .i64 n1, .string s1, .slice N1 nn1 nc1, .slice A1 m1 c1]) (by simp)).2)).mono ?_
              rintro _ U2 ⟨cs, rfl, hj, hb⟩
              obtain ⟨kp, bp, np, sp, Np, nnp, ncp, Ap, mp, cp, rfl⟩ := hj.form
              go_simp
              have hB2 := hB.out.next hb
              have hb9 := Hb9.out.below hb Hb9.out.lt
              have hj2 := JvP.weak (D' := fun b => b ≠ gp) (JvV.toP (D := fun b => U1.heap.size ≤ b) (fun b h _ => h) _ _ hj) (fun b (h : U1.heap.size ≤ b) => by have := HSZ.out; omega)
              refine hK.out _ _ (hSS _ hB2) (fun hHeld => ?_)
              clear hK K hB Hb9 HSZ
              have hB := Lib.hid hB2
              clear hB2 hj hb
              (try simp only [List.getElem_toArray, List.getElem_cons_zero, List.getElem_cons_succ, Act.put, List.setIfInBounds_toArray, List.set_cons_zero, List.set_cons_succ])
              first | (refine wpAnyH_take (i := 6) (v := _) rfl (by kernel_rfl) (by kernel_rfl) (by kernel_rfl) (by intro _ _ _ h; exact nomatch h.1) (Or.inr ⟨?_, rfl⟩) (by assumption) ?_; rfl) | (refine wpAnyH_take (i := 6) (v := ?_) rfl (by kernel_rfl) (by kernel_rfl) (by kernel_rfl) (by intro _ _ _ h; exact nomatch h.1) (Or.inl ⟨?_, ?_⟩) (by assumption) ?_; rotate_left; rfl; focus (intro w hSw; (try dsimp only at hSw); go_simp; all_goals (with_reducible rfl)))
              (try simp only [List.getElem_toArray, List.getElem_cons_zero, List.getElem_cons_succ, Act.put, List.setIfInBounds_toArray, List.set_cons_zero, List.set_cons_succ])
              first | (refine wpAnyH_take (i := 7) (v := _) rfl (by kernel_rfl) (by kernel_rfl) (by kernel_rfl) (by intro _ _ _ h; exact nomatch h.1) (Or.inr ⟨?_, rfl⟩) (by assumption) ?_; rfl) | (refine wpAnyH_take (i := 7) (v := ?_) rfl (by kernel_rfl) (by kernel_rfl) (by kernel_rfl) (by intro _ _ _ h; exact nomatch h.1) (Or.inl ⟨?_, ?_⟩) (by assumption) ?_; rotate_left; rfl; focus (intro w hSw; (try dsimp only at hSw); go_simp; all_goals (with_reducible rfl)))
              (try simp only [List.getElem_toArray, List.getElem_cons_zero, List.getElem_cons_succ, Act.put, List.setIfInBounds_toArray, List.set_cons_zero, List.set_cons_succ])
              first | (refine wpAnyH_take (i := 8) (v := _) rfl (by kernel_rfl) (by kernel_rfl) (by kernel_rfl) (by intro _ _ _ h; exact nomatch h.1) (Or.inr ⟨?_, rfl⟩) (by assumption) ?_; rfl) | (refine wpAnyH_take (i := 8) (v := ?_) rfl (by kernel_rfl) (by kernel_rfl) (by kernel_rfl) (by intro _ _ _ h; exact nomatch h.1) (Or.inl ⟨?_, ?_⟩) (by assumption) ?_; rotate_left; rfl; focus (intro w hSw; (try dsimp only at hSw); go_simp; all_goals (with_reducible rfl)))
              (try simp only [List.getElem_toArray, List.getElem_cons_zero, List.getElem_cons_succ, Act.put, List.setIfInBounds_toArray, List.set_cons_zero, List.set_cons_succ])
              refine wpAnyH_ready (rs := [10]) (by kernel_rfl) (by simp) ?_
              refine AllReadyH.cons rfl (fun K hK => ?_) AllReadyH.nil
              have hA := hB.out.put hle hb9 hj2
              rw [if_pos (by rfl)]
              refine wp_store_blk 27 _ _ rfl gp #[.int .i64 0, .bool false, .int .i64 0, .string ⟨#[]⟩, .slice none 0 0, .slice none 0 0] _ _ rfl rfl hb9 rfl jv_size (jv_ones _ _ _ _ _ _ _ _ _ _) ?_
              refine hK.out _ _ ⟨hA.cells (g := gv) (v := v) (by simp), ((hA.blks (gn, 9, nmsJ x) (by simp)).cell i).trans HQ.out⟩ (fun hHeld => ?_)
              have HA := Lib.hid hA
              clear hK K hA hB hb9 hj2
              (try simp only [List.getElem_toArray, List.getElem_cons_zero, List.getElem_cons_succ, Act.put, List.setIfInBounds_toArray, List.set_cons_zero, List.set_cons_succ])
              first | (refine wpAnyH_take (i := 11) (v := _) rfl (by kernel_rfl) (by kernel_rfl) (by kernel_rfl) (by intro _ _ _ h; exact nomatch h.1) (Or.inr ⟨?_, rfl⟩) (by assumption) ?_; rfl) | (refine wpAnyH_take (i := 11) (v := ?_) rfl (by kernel_rfl) (by kernel_rfl) (by kernel_rfl) (by intro _ _ _ h; exact nomatch h.1) (Or.inl ⟨?_, ?_⟩) (by assumption) ?_; rotate_left; rfl; focus (intro w hSw; (try dsimp only at hSw); go_simp; all_goals (with_reducible rfl)))
              (try simp only [List.getElem_toArray, List.getElem_cons_zero, List.getElem_cons_succ, Act.put, List.setIfInBounds_toArray, List.set_cons_zero, List.set_cons_succ])
              refine wpAnyH_done (by kernel_rfl) ?_ _
              exact ⟨rfl, _, _, _, _, _, _, _, _, _, gp, kp, bp, np, sp, Np, nnp, ncp, Ap, mp, cp, rfl, HA⟩
          · rintro a' W15 ⟨q0, q1, q2, q3, q4, q5, q6, q7, q8, gp, kp, bp, np, sp, Np, nnp, ncp, Ap, mp, cp, rfl, HA⟩
            (try simp only [List.getElem_toArray, List.getElem_cons_zero, List.getElem_cons_succ, Act.put, List.setIfInBounds_toArray, List.set_cons_zero, List.set_cons_succ])
            clear hB hSS
            go_wp2_with fail
            have hB := Lib.hid (HA.out.toB.next (Below.refl _ _).drew)
            have hSS : ∀ W, StB W15.heap.size w ((gp, (getJ (v) q).getD jvZ, [.int .i64 kp, .bool bp, .int .i64 np, .string sp, .slice Np nnp ncp, .slice Ap mp cp]) :: ((gyy, (getJ (objJ v u) q).getD jvZ, [.int .i64 kyy, .bool byy, .int .i64 nyy, .string syy, .slice Nyy nnyy ncyy, .slice Ayy myy cyy]) :: ((gx, (getJ (objJ v u) q).getD jvZ, [.int .i64 kx, .bool bx, .int .i64 nx, .string sx, .slice Nx nnx ncx, .slice Ax mx cx]) :: [(gO, objJ v u, ([.int .i64 6, .bool false, .int .i64 0, .string ⟨#[]⟩, .slice (some ⟨b0, 0, none⟩) 3 3, .slice (some ⟨b4, 0, none⟩) 3 3] : List Value)), (gu, u, [.int .i64 k2, .bool b2, .int .i64 n2, .string s2, .slice N2 nn2 nc2, .slice A2 m2 c2]), (gv, v, [.int .i64 k1, .bool b1, .int .i64 n1, .string s1, .slice N1 nn1 nc1, .slice A1 m1 c1])]))) [(gn, 9, nmsJ x)] W → (∀ j t, ([.int .i64 k1, .bool b1, .int .i64 n1, .string s1, .slice N1 nn1 nc1, .slice A1 m1 c1] : List Value)[j]? = some t → W.cell? ((⟨gv, 0, none⟩ : Addr).add j) = some t) ∧ W.cell? ⟨gn, i, none⟩ = some (.string ⟨q.toArray⟩) := fun W h => ⟨h.st.cells (g := gv) (v := v) (by simp), ((h.st.blks (gn, 9, nmsJ x) (by simp)).cell i).trans HQ.out⟩
            refine region_fin (F := fun a a' W => ∃ (q0 q1 q2 q3 q4 q5 q6 q7 q8 : Value) (gr : Nat) (kr : Int) (br : Bool) (nr : Int) (sr : ByteArray) (Nr : Option Addr) (nnr ncr : Nat) (Ar : Option Addr) (mr cr : Nat), a' = (((((((((((a.put (some 95) q0).put (some 96) q1).put (some 97) q2).put (some 98) q3).put (some 99) q4).put (some 100) q5).put (some 94) q6).put (some 101) q7).put (some 102) q8).put (some 22) (.pointer (some ⟨gr, 0, none⟩))).put (some 23) (.bool (getJ (v) q).isSome)) ∧ Hid (StA w ((gr, (getJ (v) q).getD jvZ, [.int .i64 kr, .bool br, .int .i64 nr, .string sr, .slice Nr nnr ncr, .slice Ar mr cr]) :: ((gp, (getJ (v) q).getD jvZ, [.int .i64 kp, .bool bp, .int .i64 np, .string sp, .slice Np nnp ncp, .slice Ap mp cp]) :: ((gyy, (getJ (objJ v u) q).getD jvZ, [.int .i64 kyy, .bool byy, .int .i64 nyy, .string syy, .slice Nyy nnyy ncyy, .slice Ayy myy cyy]) :: ((gx, (getJ (objJ v u) q).getD jvZ, [.int .i64 kx, .bool bx, .int .i64 nx, .string sx, .slice Nx nnx ncx, .slice Ax mx cx]) :: [(gO, objJ v u, ([.int .i64 6, .bool false, .int .i64 0, .string ⟨#[]⟩, .slice (some ⟨b0, 0, none⟩) 3 3, .slice (some ⟨b4, 0, none⟩) 3 3] : List Value)), (gu, u, [.int .i64 k2, .bool b2, .int .i64 n2, .string s2, .slice N2 nn2 nc2, .slice A2 m2 c2]), (gv, v, [.int .i64 k1, .bool b1, .int .i64 n1, .string s1, .slice N1 nn1 nc1, .slice A1 m1 c1])])))) [(gn, 9, nmsJ x)] W)) ?_ ?_
            · have hS0 := hSS _ hB.out
              generalize hB0 : W15.heap.size = B0 at hB hSS
              refine wp_region_held_drew (S := fun W => (∀ j t, ([.int .i64 k1, .bool b1, .int .i64 n1, .string s1, .slice N1 nn1 nc1, .slice A1 m1 c1] : List Value)[j]? = some t → W.cell? ((⟨gv, 0, none⟩ : Addr).add j) = some t) ∧ W.cell? ⟨gn, i, none⟩ = some (.string ⟨q.toArray⟩)) (by kernel_rfl) hS0 (fun hHeld => ?_)
              refine wpAnyH_take (i := 0) (v := _) rfl (by kernel_rfl) (by kernel_rfl) (by kernel_rfl) (by intro _ _ _ h; exact nomatch h.1) (yieldsIf_load_jv (by rfl) _ rfl ⟨gv, 0, none⟩ rfl _ _ _ _ _ _ (fun w h => h.1)) (by assumption) ?_
              (try simp only [List.getElem_toArray, List.getElem_cons_zero, List.getElem_cons_succ, Act.put, List.setIfInBounds_toArray, List.set_cons_zero, List.set_cons_succ])
              first | (refine wpAnyH_take (i := 1) (v := _) rfl (by kernel_rfl) (by kernel_rfl) (by kernel_rfl) (by intro _ _ _ h; exact nomatch h.1) (Or.inr ⟨?_, rfl⟩) (by assumption) ?_; rfl) | (refine wpAnyH_take (i := 1) (v := ?_) rfl (by kernel_rfl) (by kernel_rfl) (by kernel_rfl) (by intro _ _ _ h; exact nomatch h.1) (Or.inl ⟨?_, ?_⟩) (by assumption) ?_; rotate_left; rfl; focus (intro w hSw; (try dsimp only at hSw); go_simp; all_goals (with_reducible rfl)))
              (try simp only [List.getElem_toArray, List.getElem_cons_zero, List.getElem_cons_succ, Act.put, List.setIfInBounds_toArray, List.set_cons_zero, List.set_cons_succ])
              first | (refine wpAnyH_take (i := 2) (v := _) rfl (by kernel_rfl) (by kernel_rfl) (by kernel_rfl) (by intro _ _ _ h; exact nomatch h.1) (Or.inr ⟨?_, rfl⟩) (by assumption) ?_; rfl) | (refine wpAnyH_take (i := 2) (v := ?_) rfl (by kernel_rfl) (by kernel_rfl) (by kernel_rfl) (by intro _ _ _ h; exact nomatch h.1) (Or.inl ⟨?_, ?_⟩) (by assumption) ?_; rotate_left; rfl; focus (intro w hSw; (try dsimp only at hSw); go_simp; all_goals (with_reducible rfl)))
              (try simp only [List.getElem_toArray, List.getElem_cons_zero, List.getElem_cons_succ, Act.put, List.setIfInBounds_toArray, List.set_cons_zero, List.set_cons_succ])
              first | (refine wpAnyH_take (i := 3) (v := _) rfl (by kernel_rfl) (by kernel_rfl) (by kernel_rfl) (by intro _ _ _ h; exact nomatch h.1) (Or.inr ⟨?_, rfl⟩) (by assumption) ?_; rfl) | (refine wpAnyH_take (i := 3) (v := ?_) rfl (by kernel_rfl) (by kernel_rfl) (by kernel_rfl) (by intro _ _ _ h; exact nomatch h.1) (Or.inl ⟨?_, ?_⟩) (by assumption) ?_; rotate_left; rfl; focus (intro w hSw; (try dsimp only at hSw); go_simp; all_goals (with_reducible rfl)))
              (try simp only [List.getElem_toArray, List.getElem_cons_zero, List.getElem_cons_succ, Act.put, List.setIfInBounds_toArray, List.set_cons_zero, List.set_cons_succ])
              first | (refine wpAnyH_take (i := 4) (v := _) rfl (by kernel_rfl) (by kernel_rfl) (by kernel_rfl) (by intro _ _ _ h; exact nomatch h.1) (Or.inr ⟨?_, rfl⟩) (by assumption) ?_; rfl) | (refine wpAnyH_take (i := 4) (v := ?_) rfl (by kernel_rfl) (by kernel_rfl) (by kernel_rfl) (by intro _ _ _ h; exact nomatch h.1) (Or.inl ⟨?_, ?_⟩) (by assumption) ?_; rotate_left; rfl; focus (intro w hSw; (try dsimp only at hSw); go_simp; all_goals (with_reducible rfl)))
              (try simp only [List.getElem_toArray, List.getElem_cons_zero, List.getElem_cons_succ, Act.put, List.setIfInBounds_toArray, List.set_cons_zero, List.set_cons_succ])
              generalize W15.drew = U0 at hB ⊢
              clear hS0 hHeld
              refine wpAnyH_ready (rs := [5, 9]) (by kernel_rfl) (by simp) ?_
              refine AllReadyH.cons rfl (fun K hK => ?_) ( AllReadyH.cons rfl (fun K hK => ?_) AllReadyH.nil)
              · go_simp
                refine (rget_walk2 (fun b => b < B0) (v) [.int .i64 k1, .bool b1, .int .i64 n1, .string s1, .slice N1 nn1 nc1, .slice A1 m1 c1] q U0 hsv (hB.out.rows (gv, v, [.int .i64 k1, .bool b1, .int .i64 n1, .string s1, .slice N1 nn1 nc1, .slice A1 m1 c1]) (by simp)).2).mono ?_
                rintro _ U1 ⟨cs, rfl, hj, hb⟩
                obtain ⟨kr, br, nr, sr, Nr, nnr, ncr, Ar, mr, cr, rfl⟩ := JvP.form hj
                go_simp
                have hB2 := hB.out.next hb
                refine hK.out _ _ (hSS _ hB2) (fun hHeld => ?_)
                clear hK K hB
                have hB := Lib.hid hB2
                have HJ := Lib.hid hj
                clear hB2 hj hb
                (try simp only [List.getElem_toArray, List.getElem_cons_zero, List.getElem_cons_succ, Act.put, List.setIfInBounds_toArray, List.set_cons_zero, List.set_cons_succ])
                first | (refine wpAnyH_take (i := 6) (v := _) rfl (by kernel_rfl) (by kernel_rfl) (by kernel_rfl) (by intro _ _ _ h; exact nomatch h.1) (Or.inr ⟨?_, rfl⟩) (by assumption) ?_; rfl) | (refine wpAnyH_take (i := 6) (v := ?_) rfl (by kernel_rfl) (by kernel_rfl) (by kernel_rfl) (by intro _ _ _ h; exact nomatch h.1) (Or.inl ⟨?_, ?_⟩) (by assumption) ?_; rotate_left; rfl; focus (intro w hSw; (try dsimp only at hSw); go_simp; all_goals (with_reducible rfl)))
                (try simp only [List.getElem_toArray, List.getElem_cons_zero, List.getElem_cons_succ, Act.put, List.setIfInBounds_toArray, List.set_cons_zero, List.set_cons_succ])
                first | (refine wpAnyH_take (i := 7) (v := _) rfl (by kernel_rfl) (by kernel_rfl) (by kernel_rfl) (by intro _ _ _ h; exact nomatch h.1) (Or.inr ⟨?_, rfl⟩) (by assumption) ?_; rfl) | (refine wpAnyH_take (i := 7) (v := ?_) rfl (by kernel_rfl) (by kernel_rfl) (by kernel_rfl) (by intro _ _ _ h; exact nomatch h.1) (Or.inl ⟨?_, ?_⟩) (by assumption) ?_; rotate_left; rfl; focus (intro w hSw; (try dsimp only at hSw); go_simp; all_goals (with_reducible rfl)))
                (try simp only [List.getElem_toArray, List.getElem_cons_zero, List.getElem_cons_succ, Act.put, List.setIfInBounds_toArray, List.set_cons_zero, List.set_cons_succ])
                first | (refine wpAnyH_take (i := 8) (v := _) rfl (by kernel_rfl) (by kernel_rfl) (by kernel_rfl) (by intro _ _ _ h; exact nomatch h.1) (Or.inr ⟨?_, rfl⟩) (by assumption) ?_; rfl) | (refine wpAnyH_take (i := 8) (v := ?_) rfl (by kernel_rfl) (by kernel_rfl) (by kernel_rfl) (by intro _ _ _ h; exact nomatch h.1) (Or.inl ⟨?_, ?_⟩) (by assumption) ?_; rotate_left; rfl; focus (intro w hSw; (try dsimp only at hSw); go_simp; all_goals (with_reducible rfl)))
                (try simp only [List.getElem_toArray, List.getElem_cons_zero, List.getElem_cons_succ, Act.put, List.setIfInBounds_toArray, List.set_cons_zero, List.set_cons_succ])
                refine wpAnyH_ready (rs := [9]) (by kernel_rfl) (by simp) ?_
                refine AllReadyH.cons rfl (fun K hK => ?_) AllReadyH.nil
                go_simp
                have hle := hB.out.le
                have hb9 := Blk.new U1 27 #[.int .i64 0, .bool false, .int .i64 0, .string ⟨#[]⟩, .slice none 0 0, .slice none 0 0]
                have hB2 := hB.out.alloc (.cells #[.int .i64 0, .bool false, .int .i64 0, .string ⟨#[]⟩, .slice none 0 0, .slice none 0 0] 27)
                have hj := JvP.below (HJ.out) (alloc_below U1 (.cells #[.int .i64 0, .bool false, .int .i64 0, .string ⟨#[]⟩, .slice none 0 0, .slice none 0 0] 27))
                generalize U1.alloc (.cells #[.int .i64 0, .bool false, .int .i64 0, .string ⟨#[]⟩, .slice none 0 0, .slice none 0 0] 27) = U2 at hb9 hB2 hj ⊢
                have hj2 := hj.weak (D' := fun b => b ≠ U1.heap.size) (fun b (h : b < _) => by omega)
                generalize U1.heap.size = gr at hb9 hle hj2 ⊢
                refine hK.out _ _ (hSS _ hB2) (fun hHeld => ?_)
                clear hK K hB
                have hB := Lib.hid hB2
                clear hB2 hj HJ
                (try simp only [List.getElem_toArray, List.getElem_cons_zero, List.getElem_cons_succ, Act.put, List.setIfInBounds_toArray, List.set_cons_zero, List.set_cons_succ])
                refine wpAnyH_ready (rs := [10]) (by kernel_rfl) (by simp) ?_
                refine AllReadyH.cons rfl (fun K hK => ?_) AllReadyH.nil
                have hA := hB.out.put hle hb9 hj2
                rw [if_pos (by rfl)]
                refine wp_store_blk 27 _ _ rfl gr #[.int .i64 0, .bool false, .int .i64 0, .string ⟨#[]⟩, .slice none 0 0, .slice none 0 0] _ _ rfl rfl hb9 rfl jv_size (jv_ones _ _ _ _ _ _ _ _ _ _) ?_
                refine hK.out _ _ ⟨hA.cells (g := gv) (v := v) (by simp), ((hA.blks (gn, 9, nmsJ x) (by simp)).cell i).trans HQ.out⟩ (fun hHeld => ?_)
                have HA := Lib.hid hA
                clear hK K hA hB hb9 hj2
                (try simp only [List.getElem_toArray, List.getElem_cons_zero, List.getElem_cons_succ, Act.put, List.setIfInBounds_toArray, List.set_cons_zero, List.set_cons_succ])
                first | (refine wpAnyH_take (i := 11) (v := _) rfl (by kernel_rfl) (by kernel_rfl) (by kernel_rfl) (by intro _ _ _ h; exact nomatch h.1) (Or.inr ⟨?_, rfl⟩) (by assumption) ?_; rfl) | (refine wpAnyH_take (i := 11) (v := ?_) rfl (by kernel_rfl) (by kernel_rfl) (by kernel_rfl) (by intro _ _ _ h; exact nomatch h.1) (Or.inl ⟨?_, ?_⟩) (by assumption) ?_; rotate_left; rfl; focus (intro w hSw; (try dsimp only at hSw); go_simp; all_goals (with_reducible rfl)))
                (try simp only [List.getElem_toArray, List.getElem_cons_zero, List.getElem_cons_succ, Act.put, List.setIfInBounds_toArray, List.set_cons_zero, List.set_cons_succ])
                refine wpAnyH_done (by kernel_rfl) ?_ _
                exact ⟨rfl, _, _, _, _, _, _, _, _, _, gr, kr, br, nr, sr, Nr, nnr, ncr, Ar, mr, cr, rfl, HA⟩
              · go_simp
                have hle := hB.out.le
                have hb9 := Blk.new U0 27 #[.int .i64 0, .bool false, .int .i64 0, .string ⟨#[]⟩, .slice none 0 0, .slice none 0 0]
                have hB2 := hB.out.alloc (.cells #[.int .i64 0, .bool false, .int .i64 0, .string ⟨#[]⟩, .slice none 0 0, .slice none 0 0] 27)
                generalize hU1 : U0.alloc (.cells #[.int .i64 0, .bool false, .int .i64 0, .string ⟨#[]⟩, .slice none 0 0, .slice none 0 0] 27) = U1 at hb9 hB2 ⊢
                have hsz : U1.heap.size = U0.heap.size + 1 := by rw [← hU1]; simp
                generalize U0.heap.size = gr at hb9 hle hsz ⊢
                refine hK.out _ _ (hSS _ hB2) (fun hHeld => ?_)
                clear hK K hB hU1
                have hB := Lib.hid hB2
                have Hb9 := Lib.hid hb9
                have HSZ := Lib.hid hsz
                clear hB2 hb9 hsz
                (try simp only [List.getElem_toArray, List.getElem_cons_zero, List.getElem_cons_succ, Act.put, List.setIfInBounds_toArray, List.set_cons_zero, List.set_cons_succ])
                refine wpAnyH_ready (rs := [5]) (by kernel_rfl) (by simp) ?_
                refine AllReadyH.cons rfl (fun K hK => ?_) AllReadyH.nil
                go_simp
                refine (rget_walk2 (fun b => b < B0) (v) [.int .i64 k1, .bool b1, .int .i64 n1, .string s1, .slice N1 nn1 nc1, .slice A1 m1 c1] q U1 hsv (hB.out.rows (gv, v, [.int .i64 k1, .bool b1, .int .i64 n1, .string s1, .slice N1 nn1 nc1, .slice A1 m1 c1]) (by simp)).2).mono ?_
                rintro _ U2 ⟨cs, rfl, hj, hb⟩
                obtain ⟨kr, br, nr, sr, Nr, nnr, ncr, Ar, mr, cr, rfl⟩ := JvP.form hj
                go_simp
                have hB2 := hB.out.next hb
                have hb9 := Hb9.out.below hb Hb9.out.lt
                have hj2 := JvP.weak (D' := fun b => b ≠ gr) (hj) (fun b (h : b < _) => by have := HSZ.out; omega)
                refine hK.out _ _ (hSS _ hB2) (fun hHeld => ?_)
                clear hK K hB Hb9 HSZ
                have hB := Lib.hid hB2
                clear hB2 hj hb
                (try simp only [List.getElem_toArray, List.getElem_cons_zero, List.getElem_cons_succ, Act.put, List.setIfInBounds_toArray, List.set_cons_zero, List.set_cons_succ])
                first | (refine wpAnyH_take (i := 6) (v := _) rfl (by kernel_rfl) (by kernel_rfl) (by kernel_rfl) (by intro _ _ _ h; exact nomatch h.1) (Or.inr ⟨?_, rfl⟩) (by assumption) ?_; rfl) | (refine wpAnyH_take (i := 6) (v := ?_) rfl (by kernel_rfl) (by kernel_rfl) (by kernel_rfl) (by intro _ _ _ h; exact nomatch h.1) (Or.inl ⟨?_, ?_⟩) (by assumption) ?_; rotate_left; rfl; focus (intro w hSw; (try dsimp only at hSw); go_simp; all_goals (with_reducible rfl)))
                (try simp only [List.getElem_toArray, List.getElem_cons_zero, List.getElem_cons_succ, Act.put, List.setIfInBounds_toArray, List.set_cons_zero, List.set_cons_succ])
                first | (refine wpAnyH_take (i := 7) (v := _) rfl (by kernel_rfl) (by kernel_rfl) (by kernel_rfl) (by intro _ _ _ h; exact nomatch h.1) (Or.inr ⟨?_, rfl⟩) (by assumption) ?_; rfl) | (refine wpAnyH_take (i := 7) (v := ?_) rfl (by kernel_rfl) (by kernel_rfl) (by kernel_rfl) (by intro _ _ _ h; exact nomatch h.1) (Or.inl ⟨?_, ?_⟩) (by assumption) ?_; rotate_left; rfl; focus (intro w hSw; (try dsimp only at hSw); go_simp; all_goals (with_reducible rfl)))
                (try simp only [List.getElem_toArray, List.getElem_cons_zero, List.getElem_cons_succ, Act.put, List.setIfInBounds_toArray, List.set_cons_zero, List.set_cons_succ])
                first | (refine wpAnyH_take (i := 8) (v := _) rfl (by kernel_rfl) (by kernel_rfl) (by kernel_rfl) (by intro _ _ _ h; exact nomatch h.1) (Or.inr ⟨?_, rfl⟩) (by assumption) ?_; rfl) | (refine wpAnyH_take (i := 8) (v := ?_) rfl (by kernel_rfl) (by kernel_rfl) (by kernel_rfl) (by intro _ _ _ h; exact nomatch h.1) (Or.inl ⟨?_, ?_⟩) (by assumption) ?_; rotate_left; rfl; focus (intro w hSw; (try dsimp only at hSw); go_simp; all_goals (with_reducible rfl)))
                (try simp only [List.getElem_toArray, List.getElem_cons_zero, List.getElem_cons_succ, Act.put, List.setIfInBounds_toArray, List.set_cons_zero, List.set_cons_succ])
                refine wpAnyH_ready (rs := [10]) (by kernel_rfl) (by simp) ?_
                refine AllReadyH.cons rfl (fun K hK => ?_) AllReadyH.nil
                have hA := hB.out.put hle hb9 hj2
                rw [if_pos (by rfl)]
                refine wp_store_blk 27 _ _ rfl gr #[.int .i64 0, .bool false, .int .i64 0, .string ⟨#[]⟩, .slice none 0 0, .slice none 0 0] _ _ rfl rfl hb9 rfl jv_size (jv_ones _ _ _ _ _ _ _ _ _ _) ?_
                refine hK.out _ _ ⟨hA.cells (g := gv) (v := v) (by simp), ((hA.blks (gn, 9, nmsJ x) (by simp)).cell i).trans HQ.out⟩ (fun hHeld => ?_)
                have HA := Lib.hid hA
                clear hK K hA hB hb9 hj2
                (try simp only [List.getElem_toArray, List.getElem_cons_zero, List.getElem_cons_succ, Act.put, List.setIfInBounds_toArray, List.set_cons_zero, List.set_cons_succ])
                first | (refine wpAnyH_take (i := 11) (v := _) rfl (by kernel_rfl) (by kernel_rfl) (by kernel_rfl) (by intro _ _ _ h; exact nomatch h.1) (Or.inr ⟨?_, rfl⟩) (by assumption) ?_; rfl) | (refine wpAnyH_take (i := 11) (v := ?_) rfl (by kernel_rfl) (by kernel_rfl) (by kernel_rfl) (by intro _ _ _ h; exact nomatch h.1) (Or.inl ⟨?_, ?_⟩) (by assumption) ?_; rotate_left; rfl; focus (intro w hSw; (try dsimp only at hSw); go_simp; all_goals (with_reducible rfl)))
                (try simp only [List.getElem_toArray, List.getElem_cons_zero, List.getElem_cons_succ, Act.put, List.setIfInBounds_toArray, List.set_cons_zero, List.set_cons_succ])
                refine wpAnyH_done (by kernel_rfl) ?_ _
                exact ⟨rfl, _, _, _, _, _, _, _, _, _, gr, kr, br, nr, sr, Nr, nnr, ncr, Ar, mr, cr, rfl, HA⟩
            · rintro a' W16 ⟨q0, q1, q2, q3, q4, q5, q6, q7, q8, gr, kr, br, nr, sr, Nr, nnr, ncr, Ar, mr, cr, rfl, HA⟩
              (try simp only [List.getElem_toArray, List.getElem_cons_zero, List.getElem_cons_succ, Act.put, List.setIfInBounds_toArray, List.set_cons_zero, List.set_cons_succ])
              clear hB hSS
              obtain ⟨lx0, lx1, lx2, lx3, lx4, lx5⟩ := six_cells (HA.out.vals (gx, (getJ (objJ v u) q).getD jvZ, [.int .i64 kx, .bool bx, .int .i64 nx, .string sx, .slice Nx nnx ncx, .slice Ax mx cx]) (by simp)).1
              obtain ⟨ly0, ly1, ly2, ly3, ly4, ly5⟩ := six_cells (HA.out.vals (gyy, (getJ (objJ v u) q).getD jvZ, [.int .i64 kyy, .bool byy, .int .i64 nyy, .string syy, .slice Nyy nnyy ncyy, .slice Ayy myy cyy]) (by simp)).1
              go_wp2_with fail
              refine (rsame_all ((getJ (objJ v u) q).getD jvZ) ((getJ (objJ v u) q).getD jvZ) [.int .i64 kx, .bool bx, .int .i64 nx, .string sx, .slice Nx nnx ncx, .slice Ax mx cx] [.int .i64 kyy, .bool byy, .int .i64 nyy, .string syy, .slice Nyy nnyy ncyy, .slice Ayy myy cyy] _ (HA.out.vals (gx, (getJ (objJ v u) q).getD jvZ, [.int .i64 kx, .bool bx, .int .i64 nx, .string sx, .slice Nx nnx ncx, .slice Ax mx cx]) (by simp)).2 (HA.out.vals (gyy, (getJ (objJ v u) q).getD jvZ, [.int .i64 kyy, .bool byy, .int .i64 nyy, .string syy, .slice Nyy nnyy ncyy, .slice Ayy myy cyy]) (by simp)).2).mono ?_
              rintro _ W17 ⟨rfl, hb⟩
              rw [(sameJ_iff _ _).2 rfl]
              have HA7 := Lib.hid (HA.out.next hb)
              clear hb HA lx0 lx1 lx2 lx3 lx4 lx5 ly0 ly1 ly2 ly3 ly4 ly5
              obtain ⟨lp0, lp1, lp2, lp3, lp4, lp5⟩ := six_cells (HA7.out.vals (gp, (getJ (v) q).getD jvZ, [.int .i64 kp, .bool bp, .int .i64 np, .string sp, .slice Np nnp ncp, .slice Ap mp cp]) (by simp)).1
              obtain ⟨lr0, lr1, lr2, lr3, lr4, lr5⟩ := six_cells (HA7.out.vals (gr, (getJ (v) q).getD jvZ, [.int .i64 kr, .bool br, .int .i64 nr, .string sr, .slice Nr nnr ncr, .slice Ar mr cr]) (by simp)).1
              go_wp2_with fail
              refine (rsame_all ((getJ v q).getD jvZ) ((getJ v q).getD jvZ) [.int .i64 kp, .bool bp, .int .i64 np, .string sp, .slice Np nnp ncp, .slice Ap mp cp] [.int .i64 kr, .bool br, .int .i64 nr, .string sr, .slice Nr nnr ncr, .slice Ar mr cr] _ (HA7.out.vals (gp, (getJ (v) q).getD jvZ, [.int .i64 kp, .bool bp, .int .i64 np, .string sp, .slice Np nnp ncp, .slice Ap mp cp]) (by simp)).2 (HA7.out.vals (gr, (getJ (v) q).getD jvZ, [.int .i64 kr, .bool br, .int .i64 nr, .string sr, .slice Nr nnr ncr, .slice Ar mr cr]) (by simp)).2).mono ?_
              rintro _ W18 ⟨rfl, hb⟩
              rw [(sameJ_iff _ _).2 rfl]
              have HA8 := Lib.hid ((HA7.out.next hb).sub (L' := [(gO, objJ v u, ([.int .i64 6, .bool false, .int .i64 0, .string ⟨#[]⟩, .slice (some ⟨b0, 0, none⟩) 3 3, .slice (some ⟨b4, 0, none⟩) 3 3] : List Value)), (gu, u, [.int .i64 k2, .bool b2, .int .i64 n2, .string s2, .slice N2 nn2 nc2, .slice A2 m2 c2]), (gv, v, [.int .i64 k1, .bool b1, .int .i64 n1, .string s1, .slice N1 nn1 nc1, .slice A1 m1 c1])]) (M' := [(gn, 9, nmsJ x)]) (by simp) (by simp))
              clear hb HA7 lp0 lp1 lp2 lp3 lp4 lp5 lr0 lr1 lr2 lr3 lr4 lr5
              go_wp2_with fail
              exact ⟨⟨i + 1, by omega, by go_num, HA8⟩, by simp [intOf]; omega⟩
end Go.Proofs.YtokgkifckgnabaaDoor

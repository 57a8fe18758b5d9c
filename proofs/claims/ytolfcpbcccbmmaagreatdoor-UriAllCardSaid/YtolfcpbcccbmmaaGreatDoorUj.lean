/- uri.cut: the place to which a text leads. No condition of its own. -/
import Derived.Test.YtolfcpbcccbmmaaGreatDoorUi
set_option linter.unusedVariables false
set_option linter.unusedSimpArgs false
set_option maxRecDepth 20000
namespace Go.Proofs.YtolfcpbcccbmmaaGreatDoor
open Go.RowKit Pc
theorem wp_store_blk {P : Program} {op : Oper} {a : Act} {w : World} {K : Act → World → Prop} {Q : Exit → Act → World → Prop} (ty : TypeId) (x y : Operand) (ho : op.op = .store ty x y)
    (g : Nat) (cur cells : Array Value) (t : TypeId) (hx : a.eval x = .pointer (some ⟨g, 0, none⟩)) (hy : a.eval y = .agg cells) (hb : Blk w g t cur) (hs : cur.size = cells.size)
    (hi : (P.info? ty).map (·.size) = some cells.size) (h1 : cells.all (·.oneCell') = true)
    (h : K (a.put op.dst undef) (w.setRow g cells)) : op.wp P a w K Q := by
  refine wp_store_mid ty x y ho g 0 cells hx hy (fun j hj => ?_) hi h1 ?_
  · rw [show 0 + j = j by omega, hb.cell]
    exact ⟨by rw [Array.getElem?_eq_getElem (by omega)]; rfl, hb.frozen j⟩
  · rw [setCells_row g t cells.toList 0 _ cur hb, putAll_whole _ _ (by simpa using hs)]
    simpa using h
def placeA (a b : List UInt8) : Array Value := #[.string ⟨a.toArray⟩, .string ⟨b.toArray⟩]
theorem placeA_ones (a b : List UInt8) : (placeA a b).all (·.oneCell') = true := by
  rw [Array.all_eq_true_iff_forall_mem]
  intro v hv
  simp [placeA] at hv
  rcases hv with rfl | rfl <;> rfl
theorem place_size : (Tryz.prog.info? 47).map (·.size) = some 2 := by kernel_rfl
def cutE (l : List UInt8) : List UInt8 × List UInt8 :=
  if l.take 8 = schemeL then match cutP 47 (l.drop 8) with
    | some p => (p.1, 47 :: p.2)
    | none => ([], [])
  else ([], [])
theorem pref_scheme (l : List UInt8) : Lib.hasPrefix l schemeL = decide (l.take 8 = schemeL) := by
  rw [Lib.hasPrefix, Bool.eq_iff_iff, decide_eq_true_eq, List.isPrefixOf_iff_prefix, List.prefix_iff_eq_take]
  exact eq_comm
set_option maxHeartbeats 8000000 in
theorem cut_walk (s : ByteArray) (l : List UInt8) (hs : s.data.toList = l) (w : World) (hm : s.size ≤ 1000000) :
    Calls Tryz.prog 21 #[.string s] w fun e w' => e = .returned (.agg (placeA (cutE l).1 (cutE l).2)) ∧ Below w.heap.size w w' := by
  have hsz : l.length = s.size := by rw [← hs, Lib.size_eq]
  have HB0 := Lib.hid ((Below.refl w.heap.size w).alloc (Nat.le_refl _) (.cells (placeA [] []) 47))
  have HK0 := Lib.hid (Blk.new w 47 (placeA [] []))
  have hz : (#[.string ⟨#[]⟩, .string ⟨#[]⟩] : Array Value) = placeA [] [] := rfl
  have cc := Lib.hid (fun W => Tryz.strings_CutPrefix s ⟨#[104, 116, 116, 112, 115, 58, 47, 47]⟩ W)
  rw [hs, show (⟨#[104, 116, 116, 112, 115, 58, 47, 47]⟩ : ByteArray).data.toList = schemeL from rfl, pref_scheme] at cc
  by_cases h8 : l.take 8 = schemeL
  · have ht : Lib.trimPrefix l schemeL = l.drop 8 := by rw [Lib.trimPrefix, pref_scheme, if_pos (by simpa using h8)]; rfl
    rw [ht, decide_eq_true h8] at cc
    have hdl : (l.drop 8).length ≤ s.size := by rw [List.length_drop]; omega
    obtain ⟨r, hr⟩ : ∃ r, l.drop 8 = r := ⟨_, rfl⟩
    have hC : cutE l = match cutP 47 r with | some p => (p.1, 47 :: p.2) | none => ([], []) := by rw [cutE, if_pos h8, hr]
    rw [hr] at cc hdl
    have ci := Lib.hid (fun W => Tryz.strings_IndexByte ⟨r.toArray⟩ 47 W)
    rw [show (⟨r.toArray⟩ : ByteArray).data.toList = r by simp, show (47 : Int).toNat.toUInt8 = 47 from rfl] at ci
    have hrs := size_mks r
    clear ht hr h8 hs
    rcases Int.lt_or_le (Lib.indexByte r 47) 0 with h0 | h0
    · have hge := Lib.indexByte_ge r 47
      have h1 : Lib.indexByte r 47 = -1 := by omega
      have hv : Hid (cutE l = ([], [])) := by show _ = _; rw [hC, cutP_none 47 r (Lib.indexByte_none h1)]
      rw [h1] at ci
      clear h0 hge h1 hC
      go_enter Tryz.func21, Tryz.ntmps21
      go_wp2_with fail
      refine (cc.out _).mono ?_
      rintro _ w2 ⟨rfl, rfl⟩
      go_wp2_with fail
      refine (ci.out _).mono ?_
      rintro _ w3 ⟨rfl, rfl⟩
      go_wp2_with (refine wpList_store_blk rfl 47 _ _ rfl w.heap.size (placeA [] []) (placeA [] []) _ rfl rfl HK0.out rfl place_size (placeA_ones _ _) ?_)
      refine bodyPost_ret (results_cell_row Tryz.results21 _ _ w.heap.size _ _ _ _ rfl HK0.out.setRow Tryz.underlying47 rfl (by kernel_rfl)) rfl ⟨?_, below_setRow HB0.out (Nat.le_refl _) _⟩
      rw [hv.out]
    · obtain ⟨m, hm2⟩ := Int.eq_ofNat_of_zero_le h0
      obtain ⟨h1, h2⟩ := Lib.indexByte_some hm2
      have hml := (List.getElem?_eq_some_iff.1 h1).1
      have hv : Hid (cutE l = (r.take m, 47 :: r.drop (m + 1))) := by show _ = _; rw [hC, cutP_at 47 r m h1 h2]
      have hd : r.drop m = 47 :: r.drop (m + 1) := by
        rw [List.drop_eq_getElem_cons hml]
        congr 1
        exact (List.getElem?_eq_some_iff.1 h1).2
      rw [hm2] at ci
      have hd1 : ((⟨r.toArray⟩ : ByteArray).extract 0 m).data.toList = r.take m := by rw [Lib.extract_data]; simp
      have hd2 : ((⟨r.toArray⟩ : ByteArray).extract m (⟨r.toArray⟩ : ByteArray).size).data.toList = 47 :: r.drop (m + 1) := by rw [Lib.extract_to_end, ← hd]
      have hst1 := Lib.hid (str_eta _ _ hd1)
      have hst2 := Lib.hid (str_eta _ _ hd2)
      have b1 : m < r.length := hml
      have b2 : (m : Int) ≤ (r.length : Int) := by omega
      clear h0 hm2 h1 h2 hC hd hd1 hd2 hml
      go_enter Tryz.func21, Tryz.ntmps21
      go_wp2_with fail
      refine (cc.out _).mono ?_
      rintro _ w2 ⟨rfl, rfl⟩
      go_wp2_with fail
      refine (ci.out _).mono ?_
      rintro _ w3 ⟨rfl, rfl⟩
      have hcells : Hid ((#[.string ((⟨r.toArray⟩ : ByteArray).extract 0 m), .string ((⟨r.toArray⟩ : ByteArray).extract m (⟨r.toArray⟩ : ByteArray).size)] : Array Value) = placeA (r.take m) (47 :: r.drop (m + 1))) := by
        show _ = _
        rw [hst1.out, hst2.out]
        rfl
      go_wp2_with fail
      clear hz
      refine wp_region_held_drew (S := fun _ => True) (by kernel_rfl) trivial (fun hHeld => ?_)
      first | (refine wpAnyH_take (i := 0) (v := _) rfl (by kernel_rfl) (by kernel_rfl) (by kernel_rfl) (fun _ _ _ h => h) (Or.inr ⟨?_, rfl⟩) (by assumption) ?_; rfl) | (refine wpAnyH_take (i := 0) (v := ?_) rfl (by kernel_rfl) (by kernel_rfl) (by kernel_rfl) (fun _ _ _ h => h) (Or.inl ⟨?_, ?_⟩) (by assumption) ?_; rotate_left; rfl; focus (intro w hSw; (try dsimp only at hSw); go_simp; all_goals (with_reducible rfl)))
      (try simp only [List.getElem_toArray, List.getElem_cons_zero, List.getElem_cons_succ, Act.put, List.setIfInBounds_toArray, List.set_cons_zero, List.set_cons_succ])
      first | (refine wpAnyH_take (i := 1) (v := _) rfl (by kernel_rfl) (by kernel_rfl) (by kernel_rfl) (fun _ _ _ h => h) (Or.inr ⟨?_, rfl⟩) (by assumption) ?_; rfl) | (refine wpAnyH_take (i := 1) (v := ?_) rfl (by kernel_rfl) (by kernel_rfl) (by kernel_rfl) (fun _ _ _ h => h) (Or.inl ⟨?_, ?_⟩) (by assumption) ?_; rotate_left; rfl; focus (intro w hSw; (try dsimp only at hSw); go_simp; all_goals (with_reducible rfl)))
      (try simp only [List.getElem_toArray, List.getElem_cons_zero, List.getElem_cons_succ, Act.put, List.setIfInBounds_toArray, List.set_cons_zero, List.set_cons_succ])
      first | (refine wpAnyH_take (i := 2) (v := _) rfl (by kernel_rfl) (by kernel_rfl) (by kernel_rfl) (fun _ _ _ h => h) (Or.inr ⟨?_, rfl⟩) (by assumption) ?_; rfl) | (refine wpAnyH_take (i := 2) (v := ?_) rfl (by kernel_rfl) (by kernel_rfl) (by kernel_rfl) (fun _ _ _ h => h) (Or.inl ⟨?_, ?_⟩) (by assumption) ?_; rotate_left; rfl; focus (intro w hSw; (try dsimp only at hSw); go_simp; all_goals (with_reducible rfl)))
      (try simp only [List.getElem_toArray, List.getElem_cons_zero, List.getElem_cons_succ, Act.put, List.setIfInBounds_toArray, List.set_cons_zero, List.set_cons_succ])
      first | (refine wpAnyH_take (i := 3) (v := _) rfl (by kernel_rfl) (by kernel_rfl) (by kernel_rfl) (fun _ _ _ h => h) (Or.inr ⟨?_, rfl⟩) (by assumption) ?_; rfl) | (refine wpAnyH_take (i := 3) (v := ?_) rfl (by kernel_rfl) (by kernel_rfl) (by kernel_rfl) (fun _ _ _ h => h) (Or.inl ⟨?_, ?_⟩) (by assumption) ?_; rotate_left; rfl; focus (intro w hSw; (try dsimp only at hSw); go_simp; all_goals (with_reducible rfl)))
      (try simp only [List.getElem_toArray, List.getElem_cons_zero, List.getElem_cons_succ, Act.put, List.setIfInBounds_toArray, List.set_cons_zero, List.set_cons_succ])
      first | (refine wpAnyH_take (i := 4) (v := _) rfl (by kernel_rfl) (by kernel_rfl) (by kernel_rfl) (fun _ _ _ h => h) (Or.inr ⟨?_, rfl⟩) (by assumption) ?_; rfl) | (refine wpAnyH_take (i := 4) (v := ?_) rfl (by kernel_rfl) (by kernel_rfl) (by kernel_rfl) (fun _ _ _ h => h) (Or.inl ⟨?_, ?_⟩) (by assumption) ?_; rotate_left; rfl; focus (intro w hSw; (try dsimp only at hSw); go_simp; all_goals (with_reducible rfl)))
      (try simp only [List.getElem_toArray, List.getElem_cons_zero, List.getElem_cons_succ, Act.put, List.setIfInBounds_toArray, List.set_cons_zero, List.set_cons_succ])
      first | (refine wpAnyH_take (i := 5) (v := _) rfl (by kernel_rfl) (by kernel_rfl) (by kernel_rfl) (fun _ _ _ h => h) (Or.inr ⟨?_, rfl⟩) (by assumption) ?_; rfl) | (refine wpAnyH_take (i := 5) (v := ?_) rfl (by kernel_rfl) (by kernel_rfl) (by kernel_rfl) (fun _ _ _ h => h) (Or.inl ⟨?_, ?_⟩) (by assumption) ?_; rotate_left; rfl; focus (intro w hSw; (try dsimp only at hSw); go_simp; all_goals (with_reducible rfl)))
      (try simp only [List.getElem_toArray, List.getElem_cons_zero, List.getElem_cons_succ, Act.put, List.setIfInBounds_toArray, List.set_cons_zero, List.set_cons_succ])
      first | (refine wpAnyH_take (i := 6) (v := _) rfl (by kernel_rfl) (by kernel_rfl) (by kernel_rfl) (fun _ _ _ h => h) (Or.inr ⟨?_, rfl⟩) (by assumption) ?_; rfl) | (refine wpAnyH_take (i := 6) (v := ?_) rfl (by kernel_rfl) (by kernel_rfl) (by kernel_rfl) (fun _ _ _ h => h) (Or.inl ⟨?_, ?_⟩) (by assumption) ?_; rotate_left; rfl; focus (intro w hSw; (try dsimp only at hSw); go_simp; all_goals (with_reducible rfl)))
      (try simp only [List.getElem_toArray, List.getElem_cons_zero, List.getElem_cons_succ, Act.put, List.setIfInBounds_toArray, List.set_cons_zero, List.set_cons_succ])
      refine wpAnyH_ready (rs := [7]) (by kernel_rfl) (by simp) ?_
      refine AllReadyH.cons rfl (fun K hK => ?_) AllReadyH.nil
      rw [if_pos (by rfl)]
      refine wp_store_blk 47 _ _ rfl w.heap.size (placeA [] []) #[.string ((⟨r.toArray⟩ : ByteArray).extract 0 m), .string ((⟨r.toArray⟩ : ByteArray).extract m (⟨r.toArray⟩ : ByteArray).size)] _ rfl rfl HK0.out.drew rfl place_size (by rw [hcells.out]; exact placeA_ones _ _) ?_
      refine hK.out _ _ trivial (fun hHeld => ?_)
      clear hK K
      (try simp only [List.getElem_toArray, List.getElem_cons_zero, List.getElem_cons_succ, Act.put, List.setIfInBounds_toArray, List.set_cons_zero, List.set_cons_succ])
      refine wpAnyH_done (by kernel_rfl) ?_ _
      go_wp2_with fail
      rw [hcells.out]
      refine bodyPost_ret (results_cell_row Tryz.results21 _ _ w.heap.size _ _ _ _ rfl HK0.out.drew.setRow Tryz.underlying47 rfl (by kernel_rfl)) rfl ⟨?_, below_setRow HB0.out.drew (Nat.le_refl _) _⟩
      rw [hv.out]
  · have hv : Hid (cutE l = ([], [])) := by show _ = _; rw [cutE, if_neg h8]
    rw [decide_eq_false h8] at cc
    clear h8 hs
    have ci := Lib.hid (fun X W => Tryz.strings_IndexByte X 47 W)
    go_enter Tryz.func21, Tryz.ntmps21
    go_wp2_with fail
    refine (cc.out _).mono ?_
    rintro _ w2 ⟨rfl, rfl⟩
    go_wp2_with fail
    refine (ci.out _ _).mono ?_
    rintro _ w3 ⟨rfl, rfl⟩
    go_wp2_with (refine wpList_store_blk rfl 47 _ _ rfl w.heap.size (placeA [] []) (placeA [] []) _ rfl rfl HK0.out rfl place_size (placeA_ones _ _) ?_)
    refine bodyPost_ret (results_cell_row Tryz.results21 _ _ w.heap.size _ _ _ _ rfl HK0.out.setRow Tryz.underlying47 rfl (by kernel_rfl)) rfl ⟨?_, below_setRow HB0.out (Nat.le_refl _) _⟩
    rw [hv.out]
end Go.Proofs.YtolfcpbcccbmmaaGreatDoor

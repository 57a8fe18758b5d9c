import Derived.Test.YtekpdkjkkglcjaaDj
import Derived.Test.YtekpdkjkkglcjaaDl
import Derived.Laws.EntriesVeiled
set_option linter.unusedVariables false
set_option linter.unusedSimpArgs false
set_option maxRecDepth 20000
namespace Go.Proofs.Ytekpdkjkkglcjaa
open Go.RowKit
mutual
/-- whether it may be, and how many nodes were met -/
def mayT : Tm → Int → Nat → Bool × Nat
  | .mk kind n s kids, deep, c =>
    if 64 < c + 1 ∨ 16 < deep ∨ rightB kind n s kids.length = false then (false, c + 1) else mayK kids (deep + 1) (c + 1)
def mayK : List Tm → Int → Nat → Bool × Nat
  | [], _, c => (true, c)
  | k :: ks, deep, c => match mayT k deep c with
    | (false, c') => (false, c')
    | (true, c') => mayK ks deep c'
end
def walkV (gN gW : Nat) : Value := .func (.func 61) #[] #[.pointer (some ⟨gN, 0, none⟩), .pointer (some ⟨gW, 0, none⟩)]
def MSt (w0 : World) (gN gW : Nat) (TW : TypeId) (c : Nat) (w : World) : Prop :=
  Below w0.heap.size w0 w ∧ w0.heap.size ≤ gN ∧ w0.heap.size ≤ gW ∧ gN ≠ gW ∧ Blk w gN 3 #[.int .i64 (c : Int)] ∧ Blk w gW TW #[walkV gN gW]
theorem MSt.below {w0 w w' : World} {gN gW : Nat} {TW : TypeId} {c : Nat} (h : MSt w0 gN gW TW c w) (hb : Below w.heap.size w w') : MSt w0 gN gW TW c w' := by
  obtain ⟨h1, h2, h3, h4, h5, h6⟩ := h
  exact ⟨below_next h1 hb, h2, h3, h4, h5.below hb h5.lt, h6.below hb h6.lt⟩
theorem MSt.grown {w0 w w' : World} {gN gW : Nat} {TW : TypeId} {c c' : Nat} (h : MSt w0 gN gW TW c w) (hg : w.grownBy w' (some gN)) (hk : Blk w' gN 3 #[.int .i64 (c' : Int)]) : MSt w0 gN gW TW c' w' := by
  obtain ⟨h1, h2, h3, h4, h5, h6⟩ := h
  exact ⟨h1.grown hg h1.size (fun q e => by injection e with e; omega), h2, h3, h4, hk, h6.grown hg (fun e => by injection e with e; omega)⟩
mutual
theorem mayT_le : ∀ (t : Tm) (deep : Int) (c c' : Nat), mayT t deep c = (true, c') → c' ≤ 64
  | .mk kind n s kids, deep, c, c', h => by
    rw [mayT] at h
    split at h
    · injection h with e; cases e
    · exact mayK_le kids (deep + 1) (c + 1) c' (by omega) h
theorem mayK_le : ∀ (ks : List Tm) (deep : Int) (c c' : Nat), c ≤ 64 → mayK ks deep c = (true, c') → c' ≤ 64
  | [], deep, c, c', hc, h => by rw [mayK] at h; injection h with _ e; omega
  | k :: ks, deep, c, c', hc, h => by
    rw [mayK] at h
    cases hT : mayT k deep c with
    | mk b c1 =>
      rw [hT] at h
      cases b
      · injection h with e; cases e
      · exact mayK_le ks deep c1 c' (mayT_le k deep c c1 hT) h
end
theorem below_row {w w' : World} (h : Below w.heap.size w w') (row : Option Nat) : w.grownBy w' row := ⟨h.os, h.tape, h.output, h.size, fun i hi _ => h.block i hi⟩
def MayR (gN : Nat) (r : Bool × Nat) (w : World) (e : Ending) (w' : World) : Prop := e = .returned (.bool r.1) ∧ Blk w' gN 3 #[.int .i64 (r.2 : Int)] ∧ w.grownBy w' (some gN)
def MayOk (t : Tm) : Prop := ∀ (w0 : World) (gN gW : Nat) (TW : TypeId) (cs : List Value) (deep : Int) (c : Nat) (w : World), TmV w0 0 t cs → 1 ≤ deep → deep ≤ 17 → c ≤ 64 → MSt w0 gN gW TW c w →
    Calls Try.prog 61 #[.agg cs.toArray, .int .i64 deep, .pointer (some ⟨gN, 0, none⟩), .pointer (some ⟨gW, 0, none⟩)] w (MayR gN (mayT t deep c) w)
set_option maxHeartbeats 4000000 in
theorem may_node (kind n : Int) (s : ByteArray) (kids : List Tm) (hkids : ∀ k ∈ kids, MayOk k) : MayOk (.mk kind n s kids) := by
  intro w0 gN gW TW cs deep c w ht hd1 hd17 hc hst
  have hcf : ∀ args w, (callFunc 61 args).run Try.prog w = .ok (.enter 61 args) w := fun args w => by kernel_rfl
  rw [TmV] at ht
  obtain ⟨A, cp, vs, rfl, h1, h2, h3, _, h5⟩ := ht
  show Calls _ _ #[.agg #[.int .i64 kind, .int .i64 n, .string s, .slice A kids.length cp], .int .i64 deep, .pointer (some ⟨gN, 0, none⟩), .pointer (some ⟨gW, 0, none⟩)] _ _
  rw [mayT]
  generalize hR : ite (64 < c + 1 ∨ 16 < deep ∨ rightB kind n s kids.length = false) _ _ = R
  have HRR := Lib.hid hR
  clear hR
  have HST := Lib.hid hst
  obtain ⟨hb, hgN, hgW, hne, hkN, hkW⟩ := hst
  have cN : w.cell? ⟨gN, 0, none⟩ = some (.int .i64 (c : Int)) := hkN.cell 0
  have fN := hkN.frozen 0
  have hlN := hkN.lt
  have hlW := hkW.lt
  have hwc : True → wrap64 ((c : Int) + 1) = (c : Int) + 1 := fun _ => by unfold wrap64; omega
  have cN2 : (w.setCell ⟨gN, 0, none⟩ (.int .i64 ((c : Int) + 1))).cell? ⟨gN, 0, none⟩ = some (.int .i64 ((c : Int) + 1)) := (hkN.set_ 0 (.int .i64 ((c : Int) + 1))).cell 0
  have hg1 : Hid (w.grownBy ((w.setCell ⟨gN, 0, none⟩ (.int .i64 ((c : Int) + 1))).alloc (.cells #[.int .i64 kind, .int .i64 n, .string s, .slice A kids.length cp] 35)) (some gN)) := only_alloc (only_setCell (only_refl _ _) (.inl rfl) _) _
  have hk1 : Hid (Blk ((w.setCell ⟨gN, 0, none⟩ (.int .i64 ((c : Int) + 1))).alloc (.cells #[.int .i64 kind, .int .i64 n, .string s, .slice A kids.length cp] 35)) gN 3 #[.int .i64 ((c + 1 : Nat) : Int)]) := (hkN.set_ 0 (.int .i64 ((c : Int) + 1))).alloc _
  have hbx : Hid (Blk ((w.setCell ⟨gN, 0, none⟩ (.int .i64 ((c : Int) + 1))).alloc (.cells #[.int .i64 kind, .int .i64 n, .string s, .slice A kids.length cp] 35)) w.heap.size 35 #[.int .i64 kind, .int .i64 n, .string s, .slice A kids.length cp]) := by
    have := Blk.new (w.setCell ⟨gN, 0, none⟩ (.int .i64 ((c : Int) + 1))) 35 #[.int .i64 kind, .int .i64 n, .string s, .slice A kids.length cp]
    show Blk _ _ _ _
    simpa using this
  have cright := Lib.hid (right_walk kind n s A kids.length cp)
  clear hkN hkW
  by_cases h64 : c = 64
  · have hv : Hid (R = (false, c + 1)) := by show _ = _; rw [← HRR.out, if_pos (.inl (by omega))]
    have d1 : decide (64 < (c : Int) + 1) = true := by simp; omega
    clear h64 hc
    go_enter Try.func61, Try.ntmps61
    go_wp2_with fail
    go_ret
    rw [hv.out]
    exact ⟨rfl, hk1.out, hg1.out⟩
  · have d1 : decide (64 < (c : Int) + 1) = false := by simp; omega
    by_cases h17 : deep = 17
    · have hv : Hid (R = (false, c + 1)) := by show _ = _; rw [← HRR.out, if_pos (.inr (.inl (by omega)))]
      have d2 : decide (16 < deep) = true := by simp; omega
      clear h17 hd1 hd17
      go_enter Try.func61, Try.ntmps61
      go_wp2_with fail
      go_ret
      rw [hv.out]
      exact ⟨rfl, hk1.out, hg1.out⟩
    · have d2 : decide (16 < deep) = false := by simp; omega
      cases hB : rightB kind n s kids.length
      · have hv : Hid (R = (false, c + 1)) := by show _ = _; rw [← HRR.out, if_pos (.inr (.inr hB))]
        rw [hB] at cright
        clear hB
        go_enter Try.func61, Try.ntmps61
        go_wp2_with fail
        refine (cright.out _).mono ?_
        rintro _ w2 ⟨rfl, hbn⟩
        have hk2 := Lib.hid (hk1.out.below hbn hk1.out.lt)
        have hg2 := Lib.hid (row_trans hg1.out (below_row hbn (some gN)))
        clear hbn
        go_wp2_with fail
        go_ret
        rw [hv.out]
        exact ⟨rfl, hk2.out, hg2.out⟩
      · have hv : Hid (R = mayK kids (deep + 1) (c + 1)) := by show _ = _; rw [← HRR.out, if_neg]; rw [hB]; simp; omega
        rw [hB] at cright
        have hwd : True → wrap64 (deep + 1) = deep + 1 := fun _ => by unfold wrap64; omega
        have hc1 : c + 1 ≤ 64 := by omega
        clear hB HRR
        go_enter Try.func61, Try.ntmps61
        go_wp2_with fail
        refine (cright.out _).mono ?_
        rintro _ w2 ⟨rfl, hbn⟩
        have hk2 := Lib.hid (hk1.out.below hbn hk1.out.lt)
        have hg2 := Lib.hid (row_trans hg1.out (below_row hbn (some gN)))
        have hx2 := hbx.out.below hbn hbx.out.lt
        have c23 : w2.cell? ⟨w.heap.size, 3, none⟩ = some (.slice A kids.length cp) := hx2.cell 3
        have HX2 := Lib.hid hx2
        clear hbn hk1 hg1 hbx hx2
        go_wp2_with fail
        go_loopw [24] (fun iv wr => ∃ (i c' : Nat), i ≤ kids.length ∧ iv = .int .i64 i ∧ Hid (mayK kids (deep + 1) (c + 1) = mayK (kids.drop i) (deep + 1) c') ∧ c' ≤ 64 ∧ Hid (Blk wr gN 3 #[.int .i64 (c' : Int)]) ∧ Hid (w.grownBy wr (some gN)) ∧ Hid (Blk wr w.heap.size 35 #[.int .i64 kind, .int .i64 n, .string s, .slice A kids.length cp])) (fun iv _ => kids.length - (intOf iv).toNat)
        case atStart => exact ⟨0, c + 1, by omega, rfl, rfl, hc1, hk2, hg2, HX2⟩
        case round =>
          clear hk2 hg2 HX2 c23
          obtain ⟨i, c', hik, rfl, hmk, hc', hk, hg, hx⟩ := hrel
          by_cases hlt : i < kids.length
          · obtain ⟨k, hki⟩ : ∃ k, kids[i]? = some k := ⟨kids[i], List.getElem?_eq_getElem hlt⟩
            obtain ⟨ad, v, rfl, htk, hcv⟩ := kid_at h5 h3 hki
            obtain ⟨ad', e', hadl, _⟩ := h3.2 (by omega)
            injection e' with e'
            subst e'
            obtain ⟨kd, nm, s2, A2, m2, c2, rfl⟩ := htk.form
            have hst2 := HST.out.grown hg.out hk.out
            have hcw : ∀ j u, [Value.int .i64 kd, .int .i64 nm, .string s2, .slice A2 m2 c2][j]? = some u → wr.cell? ((ad.add (i * 4)).add j) = some u := fun j u hu => (hst2.1.cell (by rw [block_of_add, block_of_add]; exact hadl)).trans (hcv j u hu)
            have cW : wr.cell? ⟨gW, 0, none⟩ = some (.func (.func 61) #[] #[.pointer (some ⟨gN, 0, none⟩), .pointer (some ⟨gW, 0, none⟩)]) := hst2.2.2.2.2.2.cell 0
            have c33 : wr.cell? ⟨w.heap.size, 3, none⟩ = some (.slice (some ad) kids.length cp) := hx.out.cell 3
            have cp2 := Lib.hid (hkids k (List.mem_of_getElem? hki) w0 gN gW TW _ (deep + 1) c' wr.drew htk (by omega) (by omega) hc' (hst2.below (Below.refl _ _).drew))
            have hdr : Hid (mayK (kids.drop i) (deep + 1) c' = match mayT k (deep + 1) c' with | (false, c1) => (false, c1) | (true, c1) => mayK (kids.drop (i + 1)) (deep + 1) c1) := by
              show _ = _
              obtain ⟨hi9, e9⟩ := List.getElem?_eq_some_iff.1 hki
              rw [List.drop_eq_getElem_cons hi9, e9, mayK]
            cases hM : mayT k (deep + 1) c' with
            | mk b c1 =>
            have HM := Lib.hid hM
            rw [hM] at cp2
            clear hM hki htk hcv hst2
            have hwd7 : True → IntKind.i64.wrap (deep + 1) = deep + 1 := fun _ => by rw [IntKind.wrap_i64]; omega
            go_wp2_with fail
            refine wp_region_held_drew (S := fun W => W.cell? ⟨gW, 0, none⟩ = some (.func (.func 61) #[] #[.pointer (some ⟨gN, 0, none⟩), .pointer (some ⟨gW, 0, none⟩)]) ∧ W.cell? ⟨w.heap.size, 3, none⟩ = some (.slice (some ad) kids.length cp) ∧ (∀ j u, [Value.int .i64 kd, .int .i64 nm, .string s2, .slice A2 m2 c2][j]? = some u → W.cell? ((ad.add (i * 4)).add j) = some u)) (by kernel_rfl) ⟨cW, c33, hcw⟩ (fun hHeld => ?_)
            first | (refine wpAnyH_take (i := 0) (v := _) rfl (by kernel_rfl) (by kernel_rfl) (by kernel_rfl) (fun _ _ _ h => h) (Or.inr ⟨?_, rfl⟩) (by assumption) ?_; rfl) | (refine wpAnyH_take (i := 0) (v := ?_) rfl (by kernel_rfl) (by kernel_rfl) (by kernel_rfl) (fun _ _ _ h => h) (Or.inl ⟨?_, ?_⟩) (by assumption) ?_; rotate_left; rfl; focus (intro w hSw; (try dsimp only at hSw); go_simp; all_goals (with_reducible rfl)))
            (try simp only [List.getElem_toArray, List.getElem_cons_zero, List.getElem_cons_succ, Act.put, List.setIfInBounds_toArray, List.set_cons_zero, List.set_cons_succ])
            first | (refine wpAnyH_take (i := 1) (v := _) rfl (by kernel_rfl) (by kernel_rfl) (by kernel_rfl) (fun _ _ _ h => h) (Or.inr ⟨?_, rfl⟩) (by assumption) ?_; rfl) | (refine wpAnyH_take (i := 1) (v := ?_) rfl (by kernel_rfl) (by kernel_rfl) (by kernel_rfl) (fun _ _ _ h => h) (Or.inl ⟨?_, ?_⟩) (by assumption) ?_; rotate_left; rfl; focus (intro w hSw; (try dsimp only at hSw); go_simp; all_goals (with_reducible rfl)))
            (try simp only [List.getElem_toArray, List.getElem_cons_zero, List.getElem_cons_succ, Act.put, List.setIfInBounds_toArray, List.set_cons_zero, List.set_cons_succ])
            first | (refine wpAnyH_take (i := 2) (v := _) rfl (by kernel_rfl) (by kernel_rfl) (by kernel_rfl) (fun _ _ _ h => h) (Or.inr ⟨?_, rfl⟩) (by assumption) ?_; rfl) | (refine wpAnyH_take (i := 2) (v := ?_) rfl (by kernel_rfl) (by kernel_rfl) (by kernel_rfl) (fun _ _ _ h => h) (Or.inl ⟨?_, ?_⟩) (by assumption) ?_; rotate_left; rfl; focus (intro w hSw; (try dsimp only at hSw); go_simp; all_goals (with_reducible rfl)))
            (try simp only [List.getElem_toArray, List.getElem_cons_zero, List.getElem_cons_succ, Act.put, List.setIfInBounds_toArray, List.set_cons_zero, List.set_cons_succ])
            first | (refine wpAnyH_take (i := 3) (v := _) rfl (by kernel_rfl) (by kernel_rfl) (by kernel_rfl) (fun _ _ _ h => h) (Or.inr ⟨?_, rfl⟩) (by assumption) ?_; rfl) | (refine wpAnyH_take (i := 3) (v := ?_) rfl (by kernel_rfl) (by kernel_rfl) (by kernel_rfl) (fun _ _ _ h => h) (Or.inl ⟨?_, ?_⟩) (by assumption) ?_; rotate_left; rfl; focus (intro w hSw; (try dsimp only at hSw); go_simp; all_goals (with_reducible rfl)))
            (try simp only [List.getElem_toArray, List.getElem_cons_zero, List.getElem_cons_succ, Act.put, List.setIfInBounds_toArray, List.set_cons_zero, List.set_cons_succ])
            first | (refine wpAnyH_take (i := 4) (v := _) rfl (by kernel_rfl) (by kernel_rfl) (by kernel_rfl) (fun _ _ _ h => h) (Or.inr ⟨?_, rfl⟩) (by assumption) ?_; rfl) | (refine wpAnyH_take (i := 4) (v := ?_) rfl (by kernel_rfl) (by kernel_rfl) (by kernel_rfl) (fun _ _ _ h => h) (Or.inl ⟨?_, ?_⟩) (by assumption) ?_; rotate_left; rfl; focus (intro w hSw; (try dsimp only at hSw); go_simp; all_goals (with_reducible rfl)))
            (try simp only [List.getElem_toArray, List.getElem_cons_zero, List.getElem_cons_succ, Act.put, List.setIfInBounds_toArray, List.set_cons_zero, List.set_cons_succ])
            refine wpAnyH_take (i := 5) (v := _) rfl (by kernel_rfl) (by kernel_rfl) (by kernel_rfl) (fun _ _ _ h => h) (yieldsIf_load_term (by rfl) _ rfl (ad.add (i * 4)) rfl _ _ _ _ (fun w h => h.2.2)) (by assumption) ?_
            (try simp only [List.getElem_toArray, List.getElem_cons_zero, List.getElem_cons_succ, Act.put, List.setIfInBounds_toArray, List.set_cons_zero, List.set_cons_succ])
            first | (refine wpAnyH_take (i := 6) (v := _) rfl (by kernel_rfl) (by kernel_rfl) (by kernel_rfl) (fun _ _ _ h => h) (Or.inr ⟨?_, rfl⟩) (by assumption) ?_; rfl) | (refine wpAnyH_take (i := 6) (v := ?_) rfl (by kernel_rfl) (by kernel_rfl) (by kernel_rfl) (fun _ _ _ h => h) (Or.inl ⟨?_, ?_⟩) (by assumption) ?_; rotate_left; rfl; focus (intro w hSw; (try dsimp only at hSw); go_simp; all_goals (with_reducible rfl)))
            (try simp only [List.getElem_toArray, List.getElem_cons_zero, List.getElem_cons_succ, Act.put, List.setIfInBounds_toArray, List.set_cons_zero, List.set_cons_succ])
            first | (refine wpAnyH_take (i := 7) (v := _) rfl (by kernel_rfl) (by kernel_rfl) (by kernel_rfl) (fun _ _ _ h => h) (Or.inr ⟨?_, rfl⟩) (by assumption) ?_; rfl) | (refine wpAnyH_take (i := 7) (v := ?_) rfl (by kernel_rfl) (by kernel_rfl) (by kernel_rfl) (fun _ _ _ h => h) (Or.inl ⟨?_, ?_⟩) (by assumption) ?_; rotate_left; rfl; focus (intro w hSw; (try dsimp only at hSw); go_simp; all_goals (with_reducible rfl)))
            (try simp only [List.getElem_toArray, List.getElem_cons_zero, List.getElem_cons_succ, Act.put, List.setIfInBounds_toArray, List.set_cons_zero, List.set_cons_succ])
            refine wpAnyH_ready (rs := [8]) (by kernel_rfl) (by simp) ?_
            refine AllReadyH.cons rfl (fun K hK => ?_) AllReadyH.nil
            go_simp
            go_at_call 61
            with_reducible refine cp2.out.mono ?_
            rintro _ w5 ⟨rfl, hk5, hg5⟩
            have hsw := hg.out.size
            have hsx := hx.out.lt
            have hs0 := hb.size
            have hsd : wr.drew.heap.size = wr.heap.size := rfl
            refine hK.out _ _ ⟨(hg5.cell_far _ (by simp; omega) (fun e => by injection e with e; simp at e; omega)).trans cW, (hg5.cell_far _ (by simp; omega) (fun e => by injection e with e; simp at e; omega)).trans c33, fun j u hu => (hg5.cell_far _ (by rw [block_of_add, block_of_add]; simp; omega) (fun e => by injection e with e; rw [block_of_add, block_of_add] at e; omega)).trans (hcw j u hu)⟩ (fun hHeld => ?_)
            clear hK K
            (try simp only [List.getElem_toArray, List.getElem_cons_zero, List.getElem_cons_succ, Act.put, List.setIfInBounds_toArray, List.set_cons_zero, List.set_cons_succ])
            have HK5 := Lib.hid hk5
            have HG5 := Lib.hid (row_trans hg.out (row_trans (below_row ((Below.refl wr.heap.size wr).drew) (some gN)) hg5))
            have HX5 := Lib.hid (hx.out.drew.grown hg5 (fun e => by injection e with e; omega))
            first | (refine wpAnyH_take (i := 9) (v := _) rfl (by kernel_rfl) (by kernel_rfl) (by kernel_rfl) (fun _ _ _ h => h) (Or.inr ⟨?_, rfl⟩) (by assumption) ?_; rfl) | (refine wpAnyH_take (i := 9) (v := ?_) rfl (by kernel_rfl) (by kernel_rfl) (by kernel_rfl) (fun _ _ _ h => h) (Or.inl ⟨?_, ?_⟩) (by assumption) ?_; rotate_left; rfl; focus (intro w hSw; (try dsimp only at hSw); go_simp; all_goals (with_reducible rfl)))
            (try simp only [List.getElem_toArray, List.getElem_cons_zero, List.getElem_cons_succ, Act.put, List.setIfInBounds_toArray, List.set_cons_zero, List.set_cons_succ])
            refine wpAnyH_done (by kernel_rfl) ?_ _
            clear hk5 hg5 cp2 hHeld
            cases b
            · have hvv : Hid (R = (false, c1)) := by show _ = _; rw [hv.out, hmk.out, hdr.out, HM.out]
              go_wp2_with fail
              go_ret
              rw [hvv.out]
              exact ⟨rfl, HK5.out, HG5.out⟩
            · have hvv : Hid (mayK kids (deep + 1) (c + 1) = mayK (kids.drop (i + 1)) (deep + 1) c1) := by show _ = _; rw [hmk.out, hdr.out, HM.out]
              have hc1' : c1 ≤ 64 := mayT_le k (deep + 1) c' c1 HM.out
              go_wp2_with fail
              exact ⟨⟨i + 1, c1, by omega, by go_num, hvv, hc1', HK5, HG5, HX5⟩, by simp [intOf]; omega⟩
          · obtain rfl : i = kids.length := by omega
            have hvv : Hid (R = (true, c')) := by show _ = _; rw [hv.out, hmk.out, List.drop_length, mayK]
            go_wp2_with fail
            go_ret
            rw [hvv.out]
            exact ⟨rfl, hk.out, hg.out⟩
end Go.Proofs.Ytekpdkjkkglcjaa

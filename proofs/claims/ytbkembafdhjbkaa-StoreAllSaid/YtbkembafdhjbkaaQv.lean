import Derived.Test.YtbkembafdhjbkaaQt
set_option linter.unusedVariables false
namespace Go.Proofs.Ytbkembafdhjbkaa
open Go.RowKit
def RecsB (rs : List Rc) (b : Bool) (w : World) (e : Ending) (w' : World) : Prop := ∃ A c, e = .returned (.tuple #[.slice A rs.length c, .bool b]) ∧ RecsAt w' A c rs ∧ Below w.heap.size w w'
def RecsR (rs : List Rc) (o : Option Rc) (w : World) (e : Ending) (w' : World) : Prop := ∃ A c, e = .returned (.tuple #[.slice A rs.length c, .agg (o.getD Rc.none).arr, .bool o.isSome]) ∧ RecsAt w' A c rs ∧ Below w.heap.size w w'
set_option maxHeartbeats 2000000 in
theorem rchange_walk (rs : List Rc) (A : Option Addr) (c : Nat) (now : Int) (r : Rc) (w : World) (hr : RecsAt w A c rs) :
    Calls Try.prog 21 #[.slice A rs.length c, .int .i64 now, .agg r.arr] w (RecsB (changeL rs now r) (changeI rs now r).isSome w) := by
  have hb := (Below.refl w.heap.size w).alloc (Nat.le_refl _) (.cells r.arr 32)
  have hblk := Blk.new w 32 r.arr
  have HR := Lib.hid hr
  have hm := hr.2.1
  have hl1 := liveL_le now rs
  have cl := Lib.hid (rlive_walk rs A c now _ (hr.below hb))
  clear hr
  go_enter Try.func21, Try.ntmps21
  go_wp2_with fail
  refine cl.out.mono ?_
  rintro _ w1 ⟨v, rfl, hown, hb1⟩
  obtain ⟨A1, c1, rfl, hr1⟩ := RecsAt.own hown (by omega)
  have hblk1 := hblk.below hb1 (by simp)
  replace hb := below_next hb hb1
  have ca := Lib.hid (rat_walkB _ A1 c1 r.kind r.key w1 hr1)
  have hc0 : w1.cell? ⟨w.heap.size, 0, none⟩ = some (.int .i64 r.kind) := hblk1.cell 0
  have hc1 : w1.cell? ⟨w.heap.size, 1, none⟩ = some (.int .i64 r.key) := hblk1.cell 1
  clear hb1 hblk cl
  cases hi : changeI rs now r with
  | none =>
    rw [show idxI (isAt r.kind r.key) (liveL now rs) = -1 by rw [changeI] at hi; rw [idxI, hi]] at ca
    have ht : Hid (changeL rs now r = rs) := by show _ = _; rw [changeL, hi]
    have HI := Lib.hid hi
    clear hi hown
    go_wp2_with fail
    refine ca.out.mono ?_
    rintro _ w2 ⟨rfl, hbn⟩
    replace hb := below_next hb hbn
    clear hbn hblk1 ca hr1 hc0 hc1
    go_wp2_with fail
    go_ret2
    exact ⟨A, c, by rw [HI.out, ht.out]; rfl, by rw [ht.out]; exact HR.out.below hb, hb⟩
  | some i =>
    have hil : i < (liveL now rs).length := by
      rw [changeI, List.findIdx?_eq_some_iff_getElem] at hi
      exact hi.1
    rw [show idxI (isAt r.kind r.key) (liveL now rs) = (i : Int) by rw [changeI] at hi; rw [idxI, hi]] at ca
    have ht : Hid (changeL rs now r = (liveL now rs).set i r) := by show _ = _; rw [changeL, hi]
    obtain ⟨g, cap, hform, hgb, hgl⟩ := hown.form (by omega)
    injection hform with h1 h2 h3
    subst h1 h3
    clear h2
    have hi0 : ¬ (i : Int) < 0 := by omega
    have HI := Lib.hid hi
    clear hi
    go_wp2_with fail
    refine ca.out.mono ?_
    rintro _ w4 ⟨rfl, hbn⟩
    have hblk4 := hblk1.below hbn (by have := hblk1.lt; omega)
    have hown4 := ownsRow_below hown hbn
    replace hb := below_next hb hbn
    clear hbn hblk1 ca hr1 hown hc0 hc1
    have hgb' : w.heap.size < g := by simp at hgb; omega
    go_wp2_with (first
      | (refine wpList_load_rec rfl _ rfl ⟨w.heap.size, 0, none⟩ rfl r (blk_rec hblk4) ?_)
      | (refine wpList_store_own rfl _ _ rfl _ g c1 i (liveL now rs) r hown4 hil rfl rfl ?_; intro w5 hown5 hg5 hs5))
    have h9 := hown5.mono (base' := w.heap.size) (by simp)
    rw [← ht.out] at h9
    have hle := changeL_len rs now r
    obtain ⟨A6, c6, h6, hr6⟩ := RecsAt.own h9 (by omega)
    injection h6 with h1 h2 h3
    subst h1 h3
    have hlen : (changeL rs now r).length = (liveL now rs).length := by rw [ht.out, List.length_set]
    go_ret2
    exact ⟨some ⟨g, 0, none⟩, c1, by rw [HI.out, hlen]; rfl, hr6, below_only hb hg5 (by omega) hb.size⟩
theorem recs_take {w : World} {B n i : Nat} {A : Option Addr} {rs : List Rc} (h : Reads w B 15 A n (recCells rs)) (hi : i ≤ rs.length) : Reads w B 15 A i (recCells (rs.take i)) := by
  have hn := h.1
  rw [recCells_len] at hn
  refine ⟨by rw [recCells_len, List.length_take]; omega, fun h0 => ?_⟩
  obtain ⟨ad, e, hl, hc⟩ := h.2 (by omega)
  refine ⟨ad, e, hl, fun j u hu => hc j u ?_⟩
  have : recCells rs = recCells (rs.take i) ++ recCells (rs.drop i) := by rw [← recCells_append, List.take_append_drop]
  rw [this, List.getElem?_append_left (List.getElem?_eq_some_iff.1 hu).1]
  exact hu
theorem recs_drop {w : World} {B n i : Nat} {g : Nat} {rs : List Rc} (h : Reads w B 15 (some ⟨g, 0, none⟩) n (recCells rs)) (hi : i < rs.length) (c : Nat) (hc : n ≤ c) :
    Reads w B 15 (if c = i + 1 then some ⟨g, 0, none⟩ else some ⟨g, (i + 1) * 15, none⟩) (n - (i + 1)) (recCells (rs.drop (i + 1))) := by
  have hn := h.1
  rw [recCells_len] at hn
  refine ⟨by rw [recCells_len, List.length_drop]; omega, fun h0 => ?_⟩
  obtain ⟨ad, e, hl, hcc⟩ := h.2 (by omega)
  injection e with e
  subst e
  rw [if_neg (by omega)]
  refine ⟨_, rfl, hl, fun j u hu => ?_⟩
  have h1 : recCells rs = recCells (rs.take (i + 1)) ++ recCells (rs.drop (i + 1)) := by rw [← recCells_append, List.take_append_drop]
  have h2 : (recCells rs)[(i + 1) * 15 + j]? = some u := by
    rw [h1, List.getElem?_append_right (by rw [recCells_len, List.length_take]; omega), recCells_len, List.length_take]
    rw [show (i + 1) * 15 + j - 15 * min (i + 1) rs.length = j by omega]
    exact hu
  have h3 := hcc _ _ h2
  rw [show (⟨g, (i + 1) * 15, none⟩ : Addr).add j = (⟨g, 0, none⟩ : Addr).add ((i + 1) * 15 + j) by simp [Addr.add]]
  exact h3
set_option maxHeartbeats 4000000 in
theorem rtake_walk (rs : List Rc) (A : Option Addr) (c : Nat) (now kind key : Int) (w : World) (hr : RecsAt w A c rs) :
    Calls Try.prog 19 #[.slice A rs.length c, .int .i64 now, .int .i64 kind, .int .i64 key] w (RecsR (takeL rs now kind key) (findO rs now kind key) w) := by
  obtain ⟨i0, hi0', hz0, hz1, hz2⟩ := info_parts info_rec
  have hb := (Below.refl w.heap.size w).alloc (Nat.le_refl _) (.cells Rc.none.arr 32)
  have hblk := Blk.new w 32 Rc.none.arr
  have hl1 := liveL_le now rs
  have hm := hr.2.1
  have HR := Lib.hid hr
  have cl := Lib.hid (rlive_walk rs A c now _ (hr.below hb))
  clear hr
  go_enter Try.func19, Try.ntmps19
  go_wp2_with fail
  refine cl.out.mono ?_
  rintro _ w1 ⟨v, rfl, hown, hb1⟩
  obtain ⟨A1, c1, rfl, hr1⟩ := RecsAt.own hown (by omega)
  have hblk1 := hblk.below hb1 (by simp)
  replace hb := below_next hb hb1
  have ca := Lib.hid (rat_walkB _ A1 c1 kind key w1 hr1)
  clear hb1 hblk cl
  cases hi : (liveL now rs).findIdx? (isAt kind key) with
  | none =>
    rw [show idxI (isAt kind key) (liveL now rs) = -1 by rw [idxI, hi]] at ca
    have hv : Hid (findO rs now kind key = none) := by show _ = _; rw [findO, hi]
    have ht : Hid (takeL rs now kind key = rs) := by show _ = _; rw [takeL, idxO, hi]
    clear hi hown
    go_wp2_with fail
    refine ca.out.mono ?_
    rintro _ w2 ⟨rfl, hbn⟩
    have hblk2 := hblk1.below hbn (by have := hblk1.lt; omega)
    replace hb := below_next hb hbn
    clear hbn hblk1 ca hr1
    go_wp2_with (refine wpList_store_blk rfl 32 _ _ rfl w.heap.size _ Rc.none.arr _ rfl rfl hblk2 rfl rec_size Rc.none.ones ?_)
    have hb9 := below_setRow hb (Nat.le_refl _) Rc.none.arr
    refine bodyPost_ret (results_t_rec_t Try.results19 _ _ w.heap.size _ Rc.none rfl hblk2.setRow) rfl ⟨A, c, ?_, ?_, hb9⟩
    · rw [hv.out, ht.out]
      rfl
    · rw [ht.out]
      exact HR.out.below hb9
  | some i =>
    have hil : i < (liveL now rs).length := by
      rw [List.findIdx?_eq_some_iff_getElem] at hi
      exact hi.1
    rw [show idxI (isAt kind key) (liveL now rs) = (i : Int) by rw [idxI, hi]] at ca
    obtain ⟨r, hrk⟩ : ∃ r, (liveL now rs)[i]? = some r := ⟨(liveL now rs)[i], List.getElem?_eq_getElem hil⟩
    have hv : Hid (findO rs now kind key = some r) := by show _ = _; rw [findO, hi]; exact hrk
    have ht : Hid (takeL rs now kind key = (liveL now rs).eraseIdx i) := by show _ = _; rw [takeL, idxO, hi]
    obtain ⟨g, cap, hform, hgb, hgl⟩ := hown.form (by omega)
    injection hform with h1 h2 h3
    subst h1 h3
    clear h2
    have hi0 : ¬ (i : Int) < 0 := by omega
    clear hi
    go_wp2_with fail
    refine ca.out.mono ?_
    rintro _ w4 ⟨rfl, hbn⟩
    have hblk4 := hblk1.below hbn (by have := hblk1.lt; omega)
    have hown4 := ownsRow_below hown hbn
    have hr4 := hr1.below hbn
    have hra0 := rec_at hr4.2.2 hrk
    rw [add_zero_at] at hra0
    have hra := Lib.hid hra0
    clear hra0
    have hsz := hbn.size
    replace hb := below_next hb hbn
    have HR4 := Lib.hid hr4
    obtain ⟨ll, hll⟩ : ∃ ll, (liveL now rs).length = ll := ⟨_, rfl⟩
    have hlc : ll ≤ c1 := by have := hr1.1; omega
    have hic : i ≤ c1 := by omega
    have hi1 : i + 1 ≤ ll := by omega
    have hi2 : i + 1 ≤ c1 := by omega
    rw [hll] at hown4 ⊢
    have HLL := Lib.hid hll
    have hz3 : (0 : Int) ≤ (i : Int) + 1 := by omega
    have hz4 : (i : Int) + 1 ≤ (ll : Int) := by omega
    clear hll
    have hwr : IntKind.i64.wrap ((i : Int) + 1) = (i : Int) + 1 := by rw [IntKind.wrap_i64]; omega
    have hS0 : Blk (w4.alloc (.cells r.arr 32)).drew w4.heap.size 32 r.arr := Blk.new w4 _ _
    clear hbn hblk1 ca hr1 hown hr4
    go_wp2_with (first
      | (refine wpList_load_rec rfl _ rfl ⟨g, i * 15, none⟩ rfl r hra.out ?_)
      | (refine wpList_store_fresh w4 rfl 32 _ _ rfl _ r.arr _ rfl rfl rfl rec_size r.ones ?_))
    refine wp_region_held_drew (S := (fun W => Blk W w4.heap.size 32 r.arr)) (by kernel_rfl) hS0 (fun hHeld => ?_)
    first | (refine wpAnyH_take (i := 1) (v := _) rfl (by kernel_rfl) (by kernel_rfl) (by kernel_rfl) (fun _ _ _ h => h) (Or.inr ⟨?_, rfl⟩) (by assumption) ?_; rfl) | (refine wpAnyH_take (i := 1) (v := ?_) rfl (by kernel_rfl) (by kernel_rfl) (by kernel_rfl) (fun _ _ _ h => h) (Or.inl ⟨?_, ?_⟩) (by assumption) ?_; rotate_left; rfl; focus (intro w hSw; (try dsimp only at hSw); go_simp; all_goals (with_reducible rfl)))
    (try simp only [List.getElem_toArray, List.getElem_cons_zero, List.getElem_cons_succ, Act.put, List.setIfInBounds_toArray, List.set_cons_zero, List.set_cons_succ])
    first | (refine wpAnyH_take (i := 2) (v := _) rfl (by kernel_rfl) (by kernel_rfl) (by kernel_rfl) (fun _ _ _ h => h) (Or.inr ⟨?_, rfl⟩) (by assumption) ?_; rfl) | (refine wpAnyH_take (i := 2) (v := ?_) rfl (by kernel_rfl) (by kernel_rfl) (by kernel_rfl) (fun _ _ _ h => h) (Or.inl ⟨?_, ?_⟩) (by assumption) ?_; rotate_left; rfl; focus (intro w hSw; (try dsimp only at hSw); go_simp; all_goals (with_reducible rfl)))
    (try simp only [List.getElem_toArray, List.getElem_cons_zero, List.getElem_cons_succ, Act.put, List.setIfInBounds_toArray, List.set_cons_zero, List.set_cons_succ])
    first | (refine wpAnyH_take (i := 3) (v := _) rfl (by kernel_rfl) (by kernel_rfl) (by kernel_rfl) (fun _ _ _ h => h) (Or.inr ⟨?_, rfl⟩) (by assumption) ?_; rfl) | (refine wpAnyH_take (i := 3) (v := ?_) rfl (by kernel_rfl) (by kernel_rfl) (by kernel_rfl) (fun _ _ _ h => h) (Or.inl ⟨?_, ?_⟩) (by assumption) ?_; rotate_left; rfl; focus (intro w hSw; (try dsimp only at hSw); go_simp; all_goals (with_reducible rfl)))
    (try simp only [List.getElem_toArray, List.getElem_cons_zero, List.getElem_cons_succ, Act.put, List.setIfInBounds_toArray, List.set_cons_zero, List.set_cons_succ])
    first | (refine wpAnyH_take (i := 5) (v := _) rfl (by kernel_rfl) (by kernel_rfl) (by kernel_rfl) (fun _ _ _ h => h) (Or.inr ⟨?_, rfl⟩) (by assumption) ?_; rfl) | (refine wpAnyH_take (i := 5) (v := ?_) rfl (by kernel_rfl) (by kernel_rfl) (by kernel_rfl) (fun _ _ _ h => h) (Or.inl ⟨?_, ?_⟩) (by assumption) ?_; rotate_left; rfl; focus (intro w hSw; (try dsimp only at hSw); go_simp; all_goals (with_reducible rfl)))
    (try simp only [List.getElem_toArray, List.getElem_cons_zero, List.getElem_cons_succ, Act.put, List.setIfInBounds_toArray, List.set_cons_zero, List.set_cons_succ])
    first | (refine wpAnyH_take (i := 6) (v := _) rfl (by kernel_rfl) (by kernel_rfl) (by kernel_rfl) (fun _ _ _ h => h) (Or.inr ⟨?_, rfl⟩) (by assumption) ?_; rfl) | (refine wpAnyH_take (i := 6) (v := ?_) rfl (by kernel_rfl) (by kernel_rfl) (by kernel_rfl) (fun _ _ _ h => h) (Or.inl ⟨?_, ?_⟩) (by assumption) ?_; rotate_left; rfl; focus (intro w hSw; (try dsimp only at hSw); go_simp; all_goals (with_reducible rfl)))
    (try simp only [List.getElem_toArray, List.getElem_cons_zero, List.getElem_cons_succ, Act.put, List.setIfInBounds_toArray, List.set_cons_zero, List.set_cons_succ])
    first | (refine wpAnyH_take (i := 7) (v := _) rfl (by kernel_rfl) (by kernel_rfl) (by kernel_rfl) (fun _ _ _ h => h) (Or.inr ⟨?_, rfl⟩) (by assumption) ?_; rfl) | (refine wpAnyH_take (i := 7) (v := ?_) rfl (by kernel_rfl) (by kernel_rfl) (by kernel_rfl) (fun _ _ _ h => h) (Or.inl ⟨?_, ?_⟩) (by assumption) ?_; rotate_left; rfl; focus (intro w hSw; (try dsimp only at hSw); go_simp; all_goals (with_reducible rfl)))
    (try simp only [List.getElem_toArray, List.getElem_cons_zero, List.getElem_cons_succ, Act.put, List.setIfInBounds_toArray, List.set_cons_zero, List.set_cons_succ])
    first | (refine wpAnyH_take (i := 8) (v := _) rfl (by kernel_rfl) (by kernel_rfl) (by kernel_rfl) (fun _ _ _ h => h) (Or.inr ⟨?_, rfl⟩) (by assumption) ?_; rfl) | (refine wpAnyH_take (i := 8) (v := ?_) rfl (by kernel_rfl) (by kernel_rfl) (by kernel_rfl) (fun _ _ _ h => h) (Or.inl ⟨?_, ?_⟩) (by assumption) ?_; rotate_left; rfl; focus (intro w hSw; (try dsimp only at hSw); go_simp; all_goals (with_reducible rfl)))
    (try simp only [List.getElem_toArray, List.getElem_cons_zero, List.getElem_cons_succ, Act.put, List.setIfInBounds_toArray, List.set_cons_zero, List.set_cons_succ])
    refine wpAnyH_take (i := 10) (v := _) rfl (by kernel_rfl) (by kernel_rfl) (by kernel_rfl) (fun _ _ _ h => h) (yieldsIf_load_rec (by rfl) _ rfl ⟨w4.heap.size, 0, none⟩ rfl r (fun w h => blk_rec h)) (by assumption) ?_
    (try simp only [List.getElem_toArray, List.getElem_cons_zero, List.getElem_cons_succ, Act.put, List.setIfInBounds_toArray, List.set_cons_zero, List.set_cons_succ])
    refine wpAnyH_ready (rs := [0]) (by kernel_rfl) (by simp) ?_
    refine AllReadyH.cons rfl (fun K hK => ?_) AllReadyH.nil
    go_simp
    have hS1 : Blk (((w4.alloc (.cells r.arr 32)).alloc (.cells #[] 32)).drew) w4.heap.size 32 r.arr := ((Blk.new w4 _ _).alloc _).drew
    refine hK.out _ _ hS1 (fun hHeld => ?_)
    clear hK K hS1
    (try simp only [List.getElem_toArray, List.getElem_cons_zero, List.getElem_cons_succ, Act.put, List.setIfInBounds_toArray, List.set_cons_zero, List.set_cons_succ])
    have ho1 : (((w4.alloc (.cells r.arr 32)).alloc (.cells #[] 32)).drew).ownsRow (w4.heap.size + 1) 32 15 (.slice (some ⟨w4.heap.size + 1, 0, none⟩) 0 0) 0 [] := by
      have := (own_empty15 (w4.alloc (.cells r.arr 32)) 32).drew
      simpa using this
    have hb6 : Below w4.heap.size w4 (((w4.alloc (.cells r.arr 32)).alloc (.cells #[] 32)).drew) := by
      have h1 := (Below.refl w4.heap.size w4).alloc (Nat.le_refl _) (.cells r.arr 32)
      exact below_drewN (h1.alloc h1.size (.cells #[] 32)) 1
    have hrd1 : Reads (((w4.alloc (.cells r.arr 32)).alloc (.cells #[] 32)).drew) w4.heap.size 15 (some ⟨g, 0, none⟩) i (recCells ((liveL now rs).take i)) := recs_take ((HR4.out.2.2).below hb6) (by omega)
    refine wpAnyH_ready (rs := [4]) (by kernel_rfl) (by simp) ?_
    refine AllReadyH.cons rfl (fun K hK => ?_) AllReadyH.nil
    refine step_append_sl _ (by rfl) (.tmp 29) (.tmp 32) 24 rfl (w4.heap.size + 1) 32 i0 (.agg Rc.none.arr) 15 176 Try.underlying24 hi0' hz0 hz1 hz2 rfl (by decide) (.slice (some ⟨w4.heap.size + 1, 0, none⟩) 0 0) 0 [] rfl ho1 w4.heap.size _ i c1 (recCells ((liveL now rs).take i)) rfl hrd1 (fun u hu => recCells_ones _ u hu) (by unfold maxLen; omega) (by omega) (by simp) i (by omega) (recCells ((liveL now rs).take i)) (by simp) (fun A6 c6 w6 hc6 hown6 hg6 => ?_)
    have hne1 : some w4.heap.size ≠ some (w4.heap.size + 1) := fun e => by injection e with e; omega
    refine hK.out _ _ (hHeld.grown hg6 hne1) (fun hHeld => ?_)
    clear hK K
    (try simp only [List.getElem_toArray, List.getElem_cons_zero, List.getElem_cons_succ, Act.put, List.setIfInBounds_toArray, List.set_cons_zero, List.set_cons_succ])
    have hb7 : Below w4.heap.size w4 w6 := hb6.grown hg6 (by simp; omega) (fun q hq => by simp [Value.ownBlock] at hq; omega)
    have hrd2 := recs_drop ((HR4.out.2.2).below hb7) hil c1 (by rw [HLL.out]; exact hlc)
    rw [HLL.out] at hrd2
    have hlm : ll ≤ 1000000 := by have := HLL.out; omega
    have hs6 : w4.heap.size + 1 ≤ w6.heap.size := by have := hg6.size; simp at this; omega
    refine wpAnyH_ready (rs := [9]) (by kernel_rfl) (by simp) ?_
    refine AllReadyH.cons rfl (fun K hK => ?_) AllReadyH.nil
    refine step_append_sl _ (by rfl) (.tmp 33) (.tmp 37) 24 rfl (w4.heap.size + 1) 32 i0 (.agg Rc.none.arr) 15 176 Try.underlying24 hi0' hz0 hz1 hz2 rfl (by decide) (.slice A6 i c6) i (recCells ((liveL now rs).take i)) rfl hown6 w4.heap.size _ (ll - (i + 1)) (c1 - (i + 1)) (recCells ((liveL now rs).drop (i + 1))) rfl hrd2 (fun u hu => recCells_ones _ u hu) (by unfold maxLen; omega) (by omega) hs6 (ll - 1) (by omega) (recCells ((liveL now rs).eraseIdx i)) (by rw [← recCells_append, List.eraseIdx_eq_take_drop_succ]) (fun A7 c7 w7 hc7 hown7 hg7 => ?_)
    have hne2 : some w4.heap.size ≠ (Value.slice A6 i c6).ownBlock := fun e => by have := (hown6.lt _ e.symm).1; omega
    refine hK.out _ _ (hHeld.grown hg7 hne2) (fun hHeld => ?_)
    clear hK K
    (try simp only [List.getElem_toArray, List.getElem_cons_zero, List.getElem_cons_succ, Act.put, List.setIfInBounds_toArray, List.set_cons_zero, List.set_cons_succ])
    have hb8 : Below w4.heap.size w4 w7 := hb7.grown hg7 (by have := hb7.size; omega) (fun q hq => by have := (hown6.lt _ hq).1; omega)
    have hblk8 := hblk4.below hb8 (by have := hblk4.lt; omega)
    have hne3 : w4.heap.size ≠ w.heap.size := by have := hblk4.lt; omega
    first | (refine wpAnyH_take (i := 11) (v := _) rfl (by kernel_rfl) (by kernel_rfl) (by kernel_rfl) (fun _ _ _ h => h) (Or.inr ⟨?_, rfl⟩) (by assumption) ?_; rfl) | (refine wpAnyH_take (i := 11) (v := ?_) rfl (by kernel_rfl) (by kernel_rfl) (by kernel_rfl) (fun _ _ _ h => h) (Or.inl ⟨?_, ?_⟩) (by assumption) ?_; rotate_left; rfl; focus (intro w hSw; (try dsimp only at hSw); go_simp; all_goals (with_reducible rfl)))
    (try simp only [List.getElem_toArray, List.getElem_cons_zero, List.getElem_cons_succ, Act.put, List.setIfInBounds_toArray, List.set_cons_zero, List.set_cons_succ])
    refine wpAnyH_ready (rs := [12]) (by kernel_rfl) (by simp) ?_
    refine AllReadyH.cons rfl (fun K hK => ?_) AllReadyH.nil
    rw [if_pos (by rfl)]
    refine wp_store_blk 32 _ _ rfl w.heap.size _ r.arr _ rfl rfl hblk8 rfl rec_size r.ones ?_
    refine hK.out _ _ (hHeld.setOther hne3 _) (fun hHeld2 => ?_)
    clear hK K
    (try simp only [List.getElem_toArray, List.getElem_cons_zero, List.getElem_cons_succ, Act.put, List.setIfInBounds_toArray, List.set_cons_zero, List.set_cons_succ])
    first | (refine wpAnyH_take (i := 13) (v := _) rfl (by kernel_rfl) (by kernel_rfl) (by kernel_rfl) (fun _ _ _ h => h) (Or.inr ⟨?_, rfl⟩) (by assumption) ?_; rfl) | (refine wpAnyH_take (i := 13) (v := ?_) rfl (by kernel_rfl) (by kernel_rfl) (by kernel_rfl) (fun _ _ _ h => h) (Or.inl ⟨?_, ?_⟩) (by assumption) ?_; rotate_left; rfl; focus (intro w hSw; (try dsimp only at hSw); go_simp; all_goals (with_reducible rfl)))
    (try simp only [List.getElem_toArray, List.getElem_cons_zero, List.getElem_cons_succ, Act.put, List.setIfInBounds_toArray, List.set_cons_zero, List.set_cons_succ])
    refine wpAnyH_done (by kernel_rfl) ?_ _
    have hlen : ((liveL now rs).eraseIdx i).length = ll - 1 := by rw [List.length_eraseIdx, if_pos hil, HLL.out]
    have hb9 : Below w.heap.size w w7 := below_next hb hb8
    have hb10 := below_setRow hb9 (Nat.le_refl _) r.arr
    go_wp2_with fail
    all_goals
      refine bodyPost_ret (results_t_rec_t Try.results19 _ _ w.heap.size _ r rfl hblk8.setRow) rfl ⟨A7, c7, ?_, ?_, hb10⟩
      · rw [hv.out, ht.out, hlen]
        rfl
      · rw [ht.out]
        have h8 := (hown7.mono (base' := w.heap.size + 1) (by have := hblk4.lt; omega)).kept (setRow_only w7 w.heap.size r.arr) (.inr (fun e => by have := (hown7.lt _ e).1; have := hblk4.lt; omega))
        rw [← hlen] at h8
        obtain ⟨A8, c8, e8, hr8⟩ := RecsAt.own h8 (by omega)
        injection e8 with e1 e2 e3
        subst e1 e3
        exact hr8
end Go.Proofs.Ytbkembafdhjbkaa

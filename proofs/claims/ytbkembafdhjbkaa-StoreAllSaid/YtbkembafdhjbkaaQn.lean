import Derived.Test.YtbkembafdhjbkaaQm
set_option linter.unusedVariables false
namespace Go.Proofs.Ytbkembafdhjbkaa
open Go.RowKit
theorem wp_store_blk {P : Program} {op : Oper} {a : Act} {w : World} {K : Act → World → Prop} {Q : Exit → Act → World → Prop} (ty : TypeId) (x y : Operand) (ho : op.op = .store ty x y)
    (g : Nat) (cur cells : Array Value) (t : TypeId) (hx : a.eval x = .pointer (some ⟨g, 0, none⟩)) (hy : a.eval y = .agg cells) (hb : Blk w g t cur) (hs : cur.size = cells.size)
    (hi : (P.info? ty).map (·.size) = some cells.size) (h1 : cells.all (·.oneCell') = true)
    (h : K (a.put op.dst undef) (w.setRow g cells)) : op.wp P a w K Q := by
  refine wp_store_mid ty x y ho g 0 cells hx hy (fun j hj => ?_) hi h1 ?_
  · rw [show 0 + j = j by omega, hb.cell]
    exact ⟨by rw [Array.getElem?_eq_getElem (by omega)]; rfl, hb.frozen j⟩
  · rw [setCells_row g t cells.toList 0 _ cur hb, putAll_whole _ _ (by simpa using hs)]
    simpa using h
theorem add_zero_at (g n : Nat) : (⟨g, 0, none⟩ : Addr).add n = ⟨g, n, none⟩ := by unfold Addr.add; split <;> simp_all
theorem Blk.setOther {w : World} {g g' : Nat} {t : TypeId} {cs : Array Value} (h : Blk w g t cs) (hne : g ≠ g') (cs' : Array Value) : Blk (w.setRow g' cs') g t cs := (setRow_other w g' g cs' hne).trans h
theorem results_t_rec_t {fn : Func} {q p u : Tmp} (h : fn.results = #[.tmp q, .cell p 32, .tmp u]) (tmps : Array Value) (w : World) (g : Nat) (t : TypeId) (r : Rc)
    (hp : tmps.getD p undef = .pointer (some ⟨g, 0, none⟩)) (hb : Blk w g t r.arr) : (results fn tmps).run Try.prog w = .ok (.tuple #[tmps.getD q undef, .agg r.arr, tmps.getD u undef]) w := by
  have hp' : tmps[p]?.getD undef = .pointer (some ⟨g, 0, none⟩) := by simpa using hp
  simp [results, h, hp', asAddr, run_loadVar_row w g t 32 r.arr (0, 0) _ hb Try.underlying32 rfl rec_size]
def idxO (rs : List Rc) (now kind key : Int) : Option Nat := (liveL now rs).findIdx? (isAt kind key)
def takeL (rs : List Rc) (now kind key : Int) : List Rc := match idxO rs now kind key with
  | some i => (liveL now rs).eraseIdx i
  | none => rs
/-- an own row, a record and a yes or no come back -/
def OwnRecR (rs : List Rc) (o : Option Rc) (w : World) (e : Ending) (w' : World) : Prop := ∃ v, e = .returned (.tuple #[v, .agg (o.getD Rc.none).arr, .bool o.isSome]) ∧ w'.ownsRow w.heap.size 32 15 v rs.length (recCells rs) ∧ Below w.heap.size w w'
set_option maxHeartbeats 4000000 in
theorem take_walk (rs : List Rc) (A : Option Addr) (c : Nat) (now kind key : Int) (w : World) (hr : RecsAt w A c rs) :
    Calls Try.prog 18 #[.slice A rs.length c, .int .i64 now, .int .i64 kind, .int .i64 key] w (OwnRecR (takeL rs now kind key) (findO rs now kind key) w) := by
  have hb := (Below.refl w.heap.size w).alloc (Nat.le_refl _) (.cells Rc.none.arr 32)
  have hblk := Blk.new w 32 Rc.none.arr
  have hl1 := liveL_le now rs
  have hm := hr.2.1
  have HR := Lib.hid hr
  have cl := Lib.hid (live_walk rs A c now _ (hr.below hb))
  clear hr
  go_enter Try.func18, Try.ntmps18
  go_wp2_with fail
  refine cl.out.mono ?_
  rintro _ w1 ⟨v, rfl, hown, hb1⟩
  obtain ⟨A1, c1, rfl, hr1⟩ := RecsAt.own hown (by omega)
  have hblk1 := hblk.below hb1 (by simp)
  replace hb := below_next hb hb1
  have ca := Lib.hid (at_walk _ A1 c1 kind key w1 hr1)
  clear hb1 hblk cl
  cases hi : (liveL now rs).findIdx? (isAt kind key) with
  | none =>
    rw [show idxI (isAt kind key) (liveL now rs) = -1 by rw [idxI, hi]] at ca
    have hv : Hid (findO rs now kind key = none) := by show _ = _; rw [findO, hi]
    have ht : Hid (takeL rs now kind key = rs) := by show _ = _; rw [takeL, idxO, hi]
    clear hi hown
    go_wp2_with fail
    refine ca.out.mono ?_
    rintro _ w2 ⟨rfl, hbn⟩
    have hblk2 := hblk1.below hbn (by have := hblk1.lt; omega)
    replace hb := below_next hb hbn
    clear hbn hblk1 ca hr1
    go_wp2_with fail
    refine (clone_walk rs A c w2 (HR.out.below hb)).mono ?_
    rintro _ w3 ⟨v3, rfl, hown3, hb3⟩
    have hblk3 := hblk2.below hb3 (by have := hblk2.lt; omega)
    have hown3' := hown3.mono hb.size
    replace hb := below_next hb hb3
    go_wp2_with (refine wpList_store_blk rfl 32 _ _ rfl w.heap.size _ Rc.none.arr _ rfl rfl hblk3 rfl rec_size Rc.none.ones ?_)
    refine bodyPost_ret (results_t_rec_t Try.results18 _ _ w.heap.size _ Rc.none rfl hblk3.setRow) rfl ⟨v3, ?_, ?_, below_setRow hb (Nat.le_refl _) _⟩
    · rw [hv.out]
      rfl
    · rw [ht.out]
      refine hown3'.kept (setRow_only w3 w.heap.size _) (.inr (fun e => ?_))
      have h1 := hown3.lt _ e
      have h2 := hblk2.lt
      omega
  | some i =>
    have hil : i < (liveL now rs).length := by
      rw [List.findIdx?_eq_some_iff_getElem] at hi
      exact hi.1
    rw [show idxI (isAt kind key) (liveL now rs) = (i : Int) by rw [idxI, hi]] at ca
    obtain ⟨r, hrk⟩ : ∃ r, (liveL now rs)[i]? = some r := ⟨(liveL now rs)[i], List.getElem?_eq_getElem hil⟩
    have hv : Hid (findO rs now kind key = some r) := by show _ = _; rw [findO, hi]; exact hrk
    have ht : Hid (takeL rs now kind key = (liveL now rs).eraseIdx i) := by show _ = _; rw [takeL, idxO, hi]
    obtain ⟨g, cap, hform, hgb, hgl⟩ := hown.form (by omega)
    injection hform with h1 h2 h3
    subst h1 h3
    clear h2
    have hi0 : ¬ (i : Int) < 0 := by omega
    clear hi
    go_wp2_with fail
    refine ca.out.mono ?_
    rintro _ w4 ⟨rfl, hbn⟩
    have hblk4 := hblk1.below hbn (by have := hblk1.lt; omega)
    have hown4 := ownsRow_below hown hbn
    have hra0 := rec_at (hr1.below hbn).2.2 hrk
    rw [add_zero_at] at hra0
    have hra := Lib.hid hra0
    clear hra0
    have hsz := hbn.size
    replace hb := below_next hb hbn
    have hown5 := (hown4.alloc (.cells r.arr 32)).drew
    have hblk5 := (hblk4.alloc (.cells r.arr 32)).drew
    have hS0 : Blk (w4.alloc (.cells r.arr 32)).drew w4.heap.size 32 r.arr := Blk.new w4 _ _
    have cD := Lib.hid (delete_walk (liveL now rs) _ g c1 i _ hown5 hil (by omega))
    have hwr : IntKind.i64.wrap ((i : Int) + 1) = (i : Int) + 1 := by rw [IntKind.wrap_i64]; omega
    have hne1 : some w4.heap.size ≠ some g := fun e => by injection e with e; omega
    have hgb' : w.heap.size < g := by simp at hgb; omega
    have hne2 : some w.heap.size ≠ some g := fun e => by injection e with e; omega
    have hne3 : w4.heap.size ≠ w.heap.size := by have := hblk4.lt; omega
    have hb5 := below_drewN (hb.alloc hb.size (.cells r.arr 32)) 1
    clear hbn hblk1 ca hr1 hown hown4 hown5 hblk4
    go_wp2_with (first
      | (refine wpList_load_rec rfl _ rfl ⟨g, i * 15, none⟩ rfl r hra.out ?_)
      | (refine wpList_store_fresh w4 rfl 32 _ _ rfl _ r.arr _ rfl rfl rfl rec_size r.ones ?_))
    refine wp_region_held_drew (S := (fun W => Blk W w4.heap.size 32 r.arr)) (by kernel_rfl) hS0 (fun hHeld => ?_)
    first | (refine wpAnyH_take (i := 0) (v := _) rfl (by kernel_rfl) (by kernel_rfl) (by kernel_rfl) (fun _ _ _ h => h) (Or.inr ⟨?_, rfl⟩) (by assumption) ?_; rfl) | (refine wpAnyH_take (i := 0) (v := ?_) rfl (by kernel_rfl) (by kernel_rfl) (by kernel_rfl) (fun _ _ _ h => h) (Or.inl ⟨?_, ?_⟩) (by assumption) ?_; rotate_left; rfl; focus (intro w hSw; (try dsimp only at hSw); go_simp; all_goals (with_reducible rfl)))
    (try simp only [List.getElem_toArray, List.getElem_cons_zero, List.getElem_cons_succ, Act.put, List.setIfInBounds_toArray, List.set_cons_zero, List.set_cons_succ])
    first | (refine wpAnyH_take (i := 1) (v := _) rfl (by kernel_rfl) (by kernel_rfl) (by kernel_rfl) (fun _ _ _ h => h) (Or.inr ⟨?_, rfl⟩) (by assumption) ?_; rfl) | (refine wpAnyH_take (i := 1) (v := ?_) rfl (by kernel_rfl) (by kernel_rfl) (by kernel_rfl) (fun _ _ _ h => h) (Or.inl ⟨?_, ?_⟩) (by assumption) ?_; rotate_left; rfl; focus (intro w hSw; (try dsimp only at hSw); go_simp; all_goals (with_reducible rfl)))
    (try simp only [List.getElem_toArray, List.getElem_cons_zero, List.getElem_cons_succ, Act.put, List.setIfInBounds_toArray, List.set_cons_zero, List.set_cons_succ])
    first | (refine wpAnyH_take (i := 2) (v := _) rfl (by kernel_rfl) (by kernel_rfl) (by kernel_rfl) (fun _ _ _ h => h) (Or.inr ⟨?_, rfl⟩) (by assumption) ?_; rfl) | (refine wpAnyH_take (i := 2) (v := ?_) rfl (by kernel_rfl) (by kernel_rfl) (by kernel_rfl) (fun _ _ _ h => h) (Or.inl ⟨?_, ?_⟩) (by assumption) ?_; rotate_left; rfl; focus (intro w hSw; (try dsimp only at hSw); go_simp; all_goals (with_reducible rfl)))
    (try simp only [List.getElem_toArray, List.getElem_cons_zero, List.getElem_cons_succ, Act.put, List.setIfInBounds_toArray, List.set_cons_zero, List.set_cons_succ])
    first | (refine wpAnyH_take (i := 3) (v := _) rfl (by kernel_rfl) (by kernel_rfl) (by kernel_rfl) (fun _ _ _ h => h) (Or.inr ⟨?_, rfl⟩) (by assumption) ?_; rfl) | (refine wpAnyH_take (i := 3) (v := ?_) rfl (by kernel_rfl) (by kernel_rfl) (by kernel_rfl) (fun _ _ _ h => h) (Or.inl ⟨?_, ?_⟩) (by assumption) ?_; rotate_left; rfl; focus (intro w hSw; (try dsimp only at hSw); go_simp; all_goals (with_reducible rfl)))
    (try simp only [List.getElem_toArray, List.getElem_cons_zero, List.getElem_cons_succ, Act.put, List.setIfInBounds_toArray, List.set_cons_zero, List.set_cons_succ])
    refine wpAnyH_take (i := 5) (v := _) rfl (by kernel_rfl) (by kernel_rfl) (by kernel_rfl) (fun _ _ _ h => h) (yieldsIf_load_rec (by rfl) _ rfl ⟨w4.heap.size, 0, none⟩ rfl r (fun w h => blk_rec h)) (by assumption) ?_
    (try simp only [List.getElem_toArray, List.getElem_cons_zero, List.getElem_cons_succ, Act.put, List.setIfInBounds_toArray, List.set_cons_zero, List.set_cons_succ])
    refine wpAnyH_ready (rs := [4]) (by kernel_rfl) (by simp) ?_
    refine AllReadyH.cons rfl (fun K hK => ?_) AllReadyH.nil
    go_simp
    go_at_call 43
    with_reducible refine cD.out.mono ?_
    rintro _ w6 ⟨cap', rfl, hown6, hg6, hs6⟩
    refine hK.out _ _ (hHeld.grown hg6 hne1) (fun hHeld => ?_)
    clear hK K
    (try simp only [List.getElem_toArray, List.getElem_cons_zero, List.getElem_cons_succ, Act.put, List.setIfInBounds_toArray, List.set_cons_zero, List.set_cons_succ])
    first | (refine wpAnyH_take (i := 6) (v := _) rfl (by kernel_rfl) (by kernel_rfl) (by kernel_rfl) (fun _ _ _ h => h) (Or.inr ⟨?_, rfl⟩) (by assumption) ?_; rfl) | (refine wpAnyH_take (i := 6) (v := ?_) rfl (by kernel_rfl) (by kernel_rfl) (by kernel_rfl) (fun _ _ _ h => h) (Or.inl ⟨?_, ?_⟩) (by assumption) ?_; rotate_left; rfl; focus (intro w hSw; (try dsimp only at hSw); go_simp; all_goals (with_reducible rfl)))
    (try simp only [List.getElem_toArray, List.getElem_cons_zero, List.getElem_cons_succ, Act.put, List.setIfInBounds_toArray, List.set_cons_zero, List.set_cons_succ])
    refine wpAnyH_ready (rs := [7]) (by kernel_rfl) (by simp) ?_
    refine AllReadyH.cons rfl (fun K hK => ?_) AllReadyH.nil
    rw [if_pos (by rfl)]
    have hb9 := hblk5.grown hg6 hne2
    refine wp_store_blk 32 _ _ rfl w.heap.size _ r.arr _ rfl rfl hb9 rfl rec_size r.ones ?_
    refine hK.out _ _ (hHeld.setOther hne3 _) (fun hHeld2 => ?_)
    clear hK K
    (try simp only [List.getElem_toArray, List.getElem_cons_zero, List.getElem_cons_succ, Act.put, List.setIfInBounds_toArray, List.set_cons_zero, List.set_cons_succ])
    first | (refine wpAnyH_take (i := 8) (v := _) rfl (by kernel_rfl) (by kernel_rfl) (by kernel_rfl) (fun _ _ _ h => h) (Or.inr ⟨?_, rfl⟩) (by assumption) ?_; rfl) | (refine wpAnyH_take (i := 8) (v := ?_) rfl (by kernel_rfl) (by kernel_rfl) (by kernel_rfl) (fun _ _ _ h => h) (Or.inl ⟨?_, ?_⟩) (by assumption) ?_; rotate_left; rfl; focus (intro w hSw; (try dsimp only at hSw); go_simp; all_goals (with_reducible rfl)))
    (try simp only [List.getElem_toArray, List.getElem_cons_zero, List.getElem_cons_succ, Act.put, List.setIfInBounds_toArray, List.set_cons_zero, List.set_cons_succ])
    refine wpAnyH_done (by kernel_rfl) ?_ _
    have hlen : ((liveL now rs).eraseIdx i).length = (liveL now rs).length - 1 := by rw [List.length_eraseIdx, if_pos hil]
    have hb6 : Below w.heap.size w w6 := below_only hb5 hg6 (by omega) (by have := hb.size; simp; omega)
    go_wp2_with fail
    refine bodyPost_ret (results_t_rec_t Try.results18 _ _ w.heap.size _ r rfl hb9.setRow) rfl ⟨.slice (some ⟨g, 0, none⟩) ((liveL now rs).length - 1) cap', ?_, ?_, below_setRow hb6 (Nat.le_refl _) _⟩
    rotate_left
    · rw [ht.out, hlen]
      have h8 := (hown6.mono (base' := w.heap.size) (by simp)).kept (setRow_only w6 w.heap.size r.arr) (.inr (fun e => by injection e with e; have e2 : g = w.heap.size := e; omega))
      exact h8
    · rw [hv.out]
      rfl
end Go.Proofs.Ytbkembafdhjbkaa

import Derived.Test.YtbkembafdhjbkaaQn
set_option linter.unusedVariables false
namespace Go.Proofs.Ytbkembafdhjbkaa
open Go.RowKit
def changeI (rs : List Rc) (now : Int) (r : Rc) : Option Nat := (liveL now rs).findIdx? (isAt r.kind r.key)
def changeL (rs : List Rc) (now : Int) (r : Rc) : List Rc := match changeI rs now r with
  | some i => (liveL now rs).set i r
  | none => rs
/-- an own row and a yes or no come back -/
def OwnRecB (rs : List Rc) (b : Bool) (w : World) (e : Ending) (w' : World) : Prop := ∃ v, e = .returned (.tuple #[v, .bool b]) ∧ w'.ownsRow w.heap.size 32 15 v rs.length (recCells rs) ∧ Below w.heap.size w w'
theorem recCells_set {rs : List Rc} {i : Nat} (r : Rc) (hi : i < rs.length) : recCells (rs.set i r) = recCells (rs.take i) ++ r.cells ++ recCells (rs.drop (i + 1)) := by
  rw [List.set_eq_take_append_cons_drop, if_pos hi, recCells_append]
  simp [recCells]
theorem putAll_mid {cur : Array Value} {rs : List Rc} {i : Nat} (r : Rc) (hi : i < rs.length) (hs : rs.length * 15 ≤ cur.size) (hcur : cur.toList.take (rs.length * 15) = recCells rs) : (putAll cur (i * 15) r.cells).toList.take (rs.length * 15) = recCells (rs.set i r) := by
  have hl : r.cells.length = 15 := rfl
  have hxs : ∀ x, x < rs.length * 15 → cur[x]? = (recCells rs)[x]? := fun x hx => by
    rw [← hcur, List.getElem?_take, if_pos hx, Array.getElem?_toList]
  have e1 : recCells rs = recCells (rs.take i) ++ recCells (rs.drop i) := by rw [← recCells_append, List.take_append_drop]
  have h1 : (recCells (rs.take i)).length = i * 15 := by rw [recCells_len, List.length_take]; omega
  have h2 : (recCells (rs.take i) ++ r.cells).length = i * 15 + 15 := by rw [List.length_append, h1, hl]
  apply List.ext_getElem?
  intro j
  rw [recCells_set r hi, List.getElem?_take]
  by_cases hj : j < rs.length * 15
  · rw [if_pos hj, Array.getElem?_toList, putAll_at _ _ _ (by rw [hl]; omega), hl]
    by_cases hj1 : j < i * 15
    · rw [if_neg (by omega), List.getElem?_append_left (by omega), List.getElem?_append_left (by omega), hxs j hj, e1, List.getElem?_append_left (by omega)]
    · by_cases hj2 : j < i * 15 + 15
      · rw [if_pos (by omega), List.getElem?_append_left (by omega), List.getElem?_append_right (by omega), h1]
      · rw [if_neg (by omega), List.getElem?_append_right (by omega), h2, hxs j hj]
        have := drop_at (rs := rs) (k := i + 1) (by omega) (j - (i * 15 + 15))
        rw [← this]
        congr 1
        omega
  · rw [if_neg hj, List.getElem?_eq_none]
    rw [List.length_append, h2, recCells_len, List.length_drop]
    omega
theorem wpList_store_own {ops : Array Oper} {rest : List Oper} {op : Oper} {a : Act} {w : World} {Q : Exit → Act → World → Prop} (hgd : op.guard = none) (x y : Operand) (ho : op.op = .store 32 x y)
    (base g cap i : Nat) (rs : List Rc) (r : Rc) (hown : w.ownsRow base 32 15 (.slice (some ⟨g, 0, none⟩) rs.length cap) rs.length (recCells rs)) (hi : i < rs.length)
    (hx : a.eval x = .pointer (some ⟨g, i * 15, none⟩)) (hy : a.eval y = .agg r.arr)
    (h : ∀ w', w'.ownsRow base 32 15 (.slice (some ⟨g, 0, none⟩) (rs.set i r).length cap) (rs.set i r).length (recCells (rs.set i r)) → w.grownBy w' (some g) → w'.heap.size = w.heap.size → wpList Try.prog ops Q rest (a.put op.dst undef) w') : wpList Try.prog ops Q (op :: rest) a w := by
  obtain ⟨hxl, h0 | ⟨g', cap', cur, he, hbase, hg, hnc, hcm, hcs, hcur⟩⟩ := hown
  · obtain ⟨h1, h2⟩ := h0
    cases h1
  injection he with h1 h2 h3
  injection h1 with h1
  injection h1 with h1 h4 h5
  subst h1 h3
  have hblk : Blk w g 32 cur := hg
  have hl : r.cells.length = 15 := rfl
  refine wpList_store_mid hgd 32 x y ho g (i * 15) r.arr hx hy (fun j hj => ?_) rec_size r.ones ?_
  · rw [Rc.sz] at hj
    rw [hblk.cell]
    exact ⟨by rw [Array.getElem?_eq_getElem (by omega)]; rfl, hblk.frozen _⟩
  · rw [setCells_row g _ r.arr.toList (i * 15) w cur hg]
    have hcl : r.arr.toList = r.cells := by simp [Rc.arr]
    rw [hcl]
    refine h _ ⟨?_, .inr ⟨g, cap, _, rfl, hbase, hblk.setRow, by simpa using hnc, hcm, by rw [putAll_size]; exact hcs, ?_⟩⟩ (setRow_only _ _ _) (by simp)
    · rw [recCells_len]; omega
    · rw [List.length_set]
      exact putAll_mid r hi (by omega) hcur
set_option maxHeartbeats 2000000 in
theorem change_walk (rs : List Rc) (A : Option Addr) (c : Nat) (now : Int) (r : Rc) (w : World) (hr : RecsAt w A c rs) :
    Calls Try.prog 20 #[.slice A rs.length c, .int .i64 now, .agg r.arr] w (OwnRecB (changeL rs now r) (changeI rs now r).isSome w) := by
  have hb := (Below.refl w.heap.size w).alloc (Nat.le_refl _) (.cells r.arr 32)
  have hblk := Blk.new w 32 r.arr
  have HR := Lib.hid hr
  have hm := hr.2.1
  have hl1 := liveL_le now rs
  have cl := Lib.hid (live_walk rs A c now _ (hr.below hb))
  clear hr
  go_enter Try.func20, Try.ntmps20
  go_wp2_with fail
  refine cl.out.mono ?_
  rintro _ w1 ⟨v, rfl, hown, hb1⟩
  obtain ⟨A1, c1, rfl, hr1⟩ := RecsAt.own hown (by omega)
  have hblk1 := hblk.below hb1 (by simp)
  replace hb := below_next hb hb1
  have ca := Lib.hid (at_walk _ A1 c1 r.kind r.key w1 hr1)
  have hc0 : w1.cell? ⟨w.heap.size, 0, none⟩ = some (.int .i64 r.kind) := hblk1.cell 0
  have hc1 : w1.cell? ⟨w.heap.size, 1, none⟩ = some (.int .i64 r.key) := hblk1.cell 1
  clear hb1 hblk cl
  cases hi : changeI rs now r with
  | none =>
    rw [show idxI (isAt r.kind r.key) (liveL now rs) = -1 by rw [changeI] at hi; rw [idxI, hi]] at ca
    have ht : Hid (changeL rs now r = rs) := by show _ = _; rw [changeL, hi]
    have HI := Lib.hid hi
    clear hi hown
    go_wp2_with fail
    refine ca.out.mono ?_
    rintro _ w2 ⟨rfl, hbn⟩
    replace hb := below_next hb hbn
    clear hbn hblk1 ca hr1 hc0 hc1
    go_wp2_with fail
    refine (clone_walk rs A c w2 (HR.out.below hb)).mono ?_
    rintro _ w3 ⟨v3, rfl, hown3, hb3⟩
    go_wp2_with fail
    go_ret2
    exact ⟨v3, by rw [HI.out]; rfl, by rw [ht.out]; exact hown3.mono hb.size, below_next hb hb3⟩
  | some i =>
    have hil : i < (liveL now rs).length := by
      rw [changeI, List.findIdx?_eq_some_iff_getElem] at hi
      exact hi.1
    rw [show idxI (isAt r.kind r.key) (liveL now rs) = (i : Int) by rw [changeI] at hi; rw [idxI, hi]] at ca
    have ht : Hid (changeL rs now r = (liveL now rs).set i r) := by show _ = _; rw [changeL, hi]
    obtain ⟨g, cap, hform, hgb, hgl⟩ := hown.form (by omega)
    injection hform with h1 h2 h3
    subst h1 h3
    clear h2
    have hi0 : ¬ (i : Int) < 0 := by omega
    have HI := Lib.hid hi
    clear hi
    go_wp2_with fail
    refine ca.out.mono ?_
    rintro _ w4 ⟨rfl, hbn⟩
    have hblk4 := hblk1.below hbn (by have := hblk1.lt; omega)
    have hown4 := ownsRow_below hown hbn
    replace hb := below_next hb hbn
    clear hbn hblk1 ca hr1 hown hc0 hc1
    have hgb' : w.heap.size < g := by simp at hgb; omega
    go_wp2_with (first
      | (refine wpList_load_rec rfl _ rfl ⟨w.heap.size, 0, none⟩ rfl r (blk_rec hblk4) ?_)
      | (refine wpList_store_own rfl _ _ rfl _ g c1 i (liveL now rs) r hown4 hil rfl rfl ?_; intro w5 hown5 hg5 hs5))
    go_ret2
    refine ⟨.slice (some ⟨g, 0, none⟩) (liveL now rs).length c1, by rw [HI.out]; rfl, ?_, below_only hb hg5 (by omega) hb.size⟩
    rw [ht.out]
    have h9 := hown5.mono (base' := w.heap.size) (by simp)
    rwa [List.length_set] at h9 ⊢
end Go.Proofs.Ytbkembafdhjbkaa

import Derived.Test.YtbkembafdhjbkaaQj
set_option linter.unusedVariables false
namespace Go.Proofs.Ytbkembafdhjbkaa
open Go.RowKit
theorem tape_new {w : World} {A : Option Addr} {c : Nat} {zs : List Int} (hr : IntsIn w A c zs) :
    TapeAt (w.alloc (.cells #[.slice A zs.length c, .int .i64 0] 43)) w.heap.size zs 0 :=
  ⟨Nat.zero_le _, hr.2.1, hr.2.2.1, A, c, hr.1, Blk.new _ _ _, hr.2.2.2.alloc (Nat.le_refl _) _⟩
theorem own_only {w w' : World} {g base : Nat} {e : TypeId} {size n : Nat} {v : Value} {xs : List Value} (h : w.ownsRow base e size v n xs) (hg : w.grownBy w' (some g)) (hlt : g < base) : w'.ownsRow base e size v n xs := by
  refine h.kept hg (.inr (fun e => ?_))
  have := h.lt g e
  omega
theorem below_only {B g : Nat} {a w w' : World} (h : Below B a w) (hg : w.grownBy w' (some g)) (hB : B ≤ g) (hw : B ≤ w.heap.size) : Below B a w' :=
  h.grown hg hw (fun r e => by injection e with e; omega)
/-- some records come back -/
def SomeRecs (most : Nat) (w : World) (e : Ending) (w' : World) : Prop := ∃ rs : List Rc, (∀ r ∈ rs, RecOf r) ∧ rs.length ≤ most ∧ OwnRec rs w e w'
set_option maxHeartbeats 2000000 in
theorem recs_walk (zs : List Int) (A : Option Addr) (c : Nat) (most : Nat) (hm : most ≤ 1000) (w : World) (hr : IntsIn w A c zs) :
    Calls Try.prog 12 #[.slice A zs.length c, .int .i64 most] w (SomeRecs most w) := by
  obtain ⟨i0, hi, hz0, hz1, hz2⟩ := info_parts info_rec
  have hT := Lib.hid (tape_new hr)
  clear hr
  go_enter Try.func12, Try.ntmps12
  go_wp2_with fail
  go_loopw [6, 7] (fun sv nv wr => ∃ (i k : Nat) (rs : List Rc), i ≤ most ∧ nv = .int .i64 i ∧ rs.length ≤ i ∧ wr.ownsRow (w.heap.size + 1) 32 15 sv rs.length (recCells rs) ∧ Hid (∀ r ∈ rs, RecOf r) ∧ Hid (TapeAt wr w.heap.size zs k) ∧ Below w.heap.size w wr) (fun _ nv _ => most - (intOf nv).toNat)
  case atStart => exact ⟨0, 0, [], by omega, rfl, by simp, World.ownsRow_nil _ _ _ _, fun r h => (by cases h), hT, (Below.refl _ _).alloc (Nat.le_refl _) _⟩
  case round =>
    obtain ⟨i, k, rs, hi2, rfl, hl, hown, hof, ht, hb⟩ := hrel
    have cm := Lib.hid (more_walk zs w.heap.size k wr ht.out)
    by_cases hlt : i < most
    · by_cases hk : k < zs.length
      · rw [show decide (k < zs.length) = true by simpa using hk] at cm
        go_wp2_with fail
        refine cm.out.mono ?_
        rintro _ w1 ⟨rfl, q, rfl⟩
        go_wp2_with fail
        have htl := ht.out.lt
        refine (rec_walk zs w.heap.size k _ (ht.out.drewN _)).mono ?_
        rintro _ w2 ⟨r, k2, rfl, hrof, hk2, ht2, hg2⟩
        have hown2 := own_only (w := wr.drewN q) (g := w.heap.size) hown hg2 (by omega)
        have hb2 : Below w.heap.size w w2 := below_only (below_drewN hb _) hg2 (Nat.le_refl _) hb.size
        have HT2 := Lib.hid ht2
        have HOF : Hid (∀ x ∈ rs ++ [r], RecOf x) := by
          show ∀ x ∈ rs ++ [r], RecOf x
          intro x hx
          rcases List.mem_append.1 hx with h | h
          · exact hof.out x h
          · rw [List.mem_singleton.1 h]; exact hrof
        have hrd := reads_new w2 32 r.cells
        have h15 := r.sz
        have hsz := hb2.size
        have htl2 := ht2.lt
        clear hown hg2 hrof ht2 hb ht cm hof
        go_wp2_with (at_builtin; rw [fold_rec]; refine wpList_append_any (w2.alloc (.cells r.arr 32)) rfl (.tmp 20) (.tmp 23) 24 rfl (w.heap.size + 1) 32 i0 (.agg Rc.none.arr) 15 176 Try.underlying24 hi hz0 hz1 hz2 rfl (by decide) u6 rs.length (recCells rs) rfl (hown2.alloc _) (w2.heap.size + 1) _ 1 1 r.cells rfl hrd (fun u hu => recCells_ones [r] u (by simpa [recCells] using hu)) (by unfold maxLen; omega) (by omega) (by simp; omega) ?_; intro v' w5 hown5 hg5 hat5)
        have hlt6 : ∀ g', u6.ownBlock = some g' → w.heap.size < g' := fun g' h => by have := hown2.lt g' h; omega
        have ht5 := Lib.hid ((HT2.out.grown (only_alloc (only_refl w2 none) (.cells r.arr 32)) (fun r e => by cases e)).grown hg5 hlt6)
        have hb5 : Below w.heap.size w w5 := (hb2.alloc hsz _).grown hg5 (by simp; omega) (fun g' h => by have := hlt6 g' h; omega)
        have hown6 := rec_next (l' := rs ++ [r]) hown5 rfl
        exact ⟨⟨i + 1, k2, rs ++ [r], by omega, by go_num, by simp; omega, hown6, HOF, ht5, hb5⟩, by simp [intOf]; omega⟩
      · rw [show decide (k < zs.length) = false by simpa using hk] at cm
        go_wp2_with fail
        refine cm.out.mono ?_
        rintro _ w1 ⟨rfl, q, rfl⟩
        go_wp2_with fail
        go_ret
        exact ⟨rs, hof.out, by omega, _, rfl, hown.mono (by omega), below_drewN hb q⟩
    · go_wp2_with fail
      go_ret
      exact ⟨rs, hof.out, by omega, _, rfl, hown.mono (by omega), hb⟩
end Go.Proofs.Ytbkembafdhjbkaa

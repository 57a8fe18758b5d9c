import Derived.Test.YtbkembafdhjbkaaRe
set_option linter.unusedVariables false
namespace Go.Proofs.Ytbkembafdhjbkaa
open Go.RowKit
theorem rec_next {w : World} {B : Nat} {T : TypeId} {v : Value} {l l' : List Rc} {r : Rc} (h : w.ownsRow B T 15 v (l.length + 1) (recCells l ++ r.cells)) (e : l' = l ++ [r]) : w.ownsRow B T 15 v l'.length (recCells l') := by
  subst e
  rw [recCells_append, List.length_append]
  simpa [recCells] using h
theorem take_filter {rs : List Rc} {p : Rc → Bool} {k : Nat} {r : Rc} (h : rs[k]? = some r) : (rs.take (k + 1)).filter p = (rs.take k).filter p ++ (if p r then [r] else []) := by
  rw [List.take_add_one, h, List.filter_append]
  cases hp : p r <;> simp [hp]
set_option maxHeartbeats 1000000 in
theorem keep_walk (F : FuncId) (caps : Array Value) (p : Rc → Bool) (w : World) (hF : Tells F caps w p) (rs : List Rc) (A : Option Addr) (c : Nat) (hr : Reads w w.heap.size 15 A rs.length (recCells rs)) (hc : rs.length ≤ c) (hm : rs.length ≤ 1000000) :
    Calls Try.prog 38 #[.slice A rs.length c, .func (.func F) #[] caps] w fun e w' => ∃ v, e = .returned v ∧ w'.ownsRow w.heap.size 32 15 v (rs.filter p).length (recCells (rs.filter p)) ∧ Below w.heap.size w w' := by
  have hcf := hF.1
  obtain ⟨i0, hi, hz0, hz1, hz2⟩ := info_parts info_rec
  go_enter Try.func38, Try.ntmps38
  go_wp2_with fail
  go_loopw [5, 10] (fun ov nv wr => ∃ k : Nat, k ≤ rs.length ∧ nv = .int .i64 k ∧ wr.ownsRow w.heap.size 32 15 ov ((rs.take k).filter p).length (recCells ((rs.take k).filter p)) ∧ Below w.heap.size w wr) (fun _ nv _ => rs.length - (intOf nv).toNat)
  case atStart => exact ⟨0, by omega, rfl, World.ownsRow_nil _ _ _ _, Below.refl _ _⟩
  case round =>
    obtain ⟨k, hk, rfl, hown, hbl⟩ := hrel
    by_cases hlt : k < rs.length
    · obtain ⟨ad, rfl⟩ : ∃ ad, A = some ad := by obtain ⟨ad, h, _⟩ := hr.2 (by omega); exact ⟨ad, h⟩
      obtain ⟨r, hrk⟩ : ∃ r, rs[k]? = some r := ⟨rs[k], List.getElem?_eq_getElem hlt⟩
      have hra := Lib.hid (rec_at (hr.below hbl) hrk)
      have hb1 : Below w.heap.size w (wr.alloc (.cells r.arr 32)) := hbl.alloc hbl.size _
      have cF := Lib.hid (hF.2 r _ hb1)
      have hsz := hbl.size
      go_wp2_with (first
        | (refine wpList_load_rec rfl _ rfl (ad.add (k * 15)) rfl r hra.out ?_)
        | (refine wpList_store_fresh wr rfl 32 _ _ rfl _ r.arr _ rfl rfl rfl rec_size r.ones ?_)
        | (refine wpList_load_rec rfl _ rfl ⟨wr.heap.size, 0, none⟩ rfl r (blk_rec (Blk.new _ _ _)) ?_))
      refine cF.out.mono ?_
      rintro _ w1 ⟨rfl, hbn⟩
      have hblk := (Blk.new wr 32 r.arr).below hbn (by simp)
      have hown1 := ownsRow_below (World.ownsRow.alloc (w := wr) hown (.cells r.arr 32)) hbn
      have hb2 : Below w.heap.size w w1 := below_next hb1 hbn
      have htf := Lib.hid (take_filter (p := p) hrk)
      obtain ⟨l, hl⟩ : ∃ l, (rs.take k).filter p = l := ⟨_, rfl⟩
      have hll : l.length ≤ 1000000 := by
        rw [← hl]
        have := List.length_filter_le p (rs.take k)
        rw [List.length_take] at this
        omega
      rw [hl] at hown1
      have HL := Lib.hid hl
      clear hl hown hb1 hbn cF hra hbl
      cases hp : p r
      · go_wp2_with fail
        rw [hp, HL.out] at htf
        exact ⟨⟨k + 1, by omega, by go_num, by rw [htf.out]; simpa using hown1, hb2⟩, by simp [intOf]; omega⟩
      · rw [hp, HL.out] at htf
        have h15 := r.sz
        have hrd := reads_new w1 32 r.cells
        go_wp2_with (first
          | (refine wpList_load_rec rfl _ rfl ⟨wr.heap.size, 0, none⟩ rfl r (blk_rec hblk) ?_)
          | (at_builtin; rw [fold_rec]; refine wpList_append_any (w1.alloc (.cells r.arr 32)) rfl (.tmp 17) (.tmp 19) 24 rfl w.heap.size 32 i0 (.agg Rc.none.arr) 15 176 Try.underlying24 hi hz0 hz1 hz2 rfl (by decide) u5 l.length (recCells l) rfl (hown1.alloc _) (w1.heap.size + 1) _ 1 1 r.cells rfl hrd (fun u hu => recCells_ones [r] u (by simpa [recCells] using hu)) (by unfold maxLen; omega) (by omega) (by have := hb2.size; simp; omega) ?_; intro v' w2 hown2 hg2 hat2))
        have hb3 : Below w.heap.size w w2 := (hb2.alloc hb2.size _).grown hg2 (by have := hb2.size; simp; omega) (fun g hg => by have := hown1.lt g hg; omega)
        have hown3 := rec_next (l' := l ++ [r]) hown2 rfl
        exact ⟨⟨k + 1, by omega, by go_num, by rw [htf.out]; simpa using hown3, hb3⟩, by simp [intOf]; omega⟩
    · obtain rfl : k = rs.length := by omega
      rw [List.take_length] at hown
      go_wp2_with fail
      go_ret
      exact ⟨_, rfl, hown, hbl⟩
end Go.Proofs.Ytbkembafdhjbkaa

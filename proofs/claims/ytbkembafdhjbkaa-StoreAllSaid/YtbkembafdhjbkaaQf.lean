import Derived.Test.YtbkembafdhjbkaaQe
import Derived.Laws.ResultCell
import Derived.Laws.CopyOwn
set_option linter.unusedVariables false
namespace Go.Proofs.Ytbkembafdhjbkaa
open Go.RowKit
theorem within19_walk (z n : Int) (w : World) (hn : 1 ≤ n) (hn2 : n ≤ 9223372036854775807) (hz : -9223372036854775808 ≤ z ∧ z ≤ 9223372036854775807) :
    Calls Try.prog 8 #[.int .i64 z, .int .i64 n] w fun e w' => e = .returned (.int .i64 (z % n)) ∧ w = w' := by
  have h0 := Int.emod_nonneg z (show n ≠ 0 by omega)
  have h1 := Int.emod_lt_of_pos z (show 0 < n by omega)
  obtain ⟨hz1, hz2⟩ := hz
  by_cases h : 0 ≤ z
  · go_enter Try.func8, Try.ntmps8
    go_wp2_with fail
    go_ret
    exact ⟨rfl, rfl⟩
  · obtain ⟨r, er⟩ : ∃ r, z.tmod n = r := ⟨_, rfl⟩
    have hr : r = z % n ∧ r = 0 ∨ r = z % n - n ∧ r < 0 := by
      rw [← er, Int.tmod_eq_emod]
      by_cases hd : n ∣ z
      · left
        have := Int.emod_eq_zero_of_dvd hd
        simp [hd]; omega
      · right
        simp only [hd, or_false, h, if_false]
        omega
    rcases hr with ⟨e1, e2⟩ | ⟨e1, e2⟩
    · have E := Lib.hid e1
      have hr0 : ¬ r < 0 := by omega
      have hz0 : z % n = 0 := by omega
      have hr0' : r = 0 := e2
      subst hr0'
      have HZ := Lib.hid hz0
      clear e1 hz0 h0 h1 e2
      go_enter Try.func8, Try.ntmps8
      go_wp2_with fail
      go_ret
      exact ⟨by rw [HZ.out]; rfl, rfl⟩
    · have E : Hid (r + n = z % n) := by show _ = _; omega
      have hr1 : -n ≤ r := by omega
      clear e1 h0 h1
      go_enter Try.func8, Try.ntmps8
      go_wp2_with fail
      go_ret
      exact ⟨by rw [← E.out]; rfl, rfl⟩

theorem results_rec_tmp {fn : Func} {p u : Tmp} (h : fn.results = #[.cell p 32, .tmp u]) (tmps : Array Value) (w : World) (g : Nat) (t : TypeId) (r : Rc)
    (hp : tmps.getD p undef = .pointer (some ⟨g, 0, none⟩)) (hb : Blk w g t r.arr) : (results fn tmps).run Try.prog w = .ok (.tuple #[.agg r.arr, tmps.getD u undef]) w := by
  rw [results_cell_tmp h, hp]
  simp [asAddr, run_loadVar_row w g t 32 r.arr (0, 0) _ hb Try.underlying32 rfl rec_size]
def findO (rs : List Rc) (now kind key : Int) : Option Rc := match (liveL now rs).findIdx? (isAt kind key) with
  | some i => (liveL now rs)[i]?
  | none => none
theorem Blk.setRow {w : World} {g : Nat} {t : TypeId} {cs cs' : Array Value} (h : Blk w g t cs) : Blk (w.setRow g cs') g t cs' := setRow_heap w g _ _ t _ h
set_option maxHeartbeats 1000000 in
theorem find_walk (rs : List Rc) (A : Option Addr) (c : Nat) (now kind key : Int) (w : World) (hr : RecsAt w A c rs) :
    Calls Try.prog 22 #[.slice A rs.length c, .int .i64 now, .int .i64 kind, .int .i64 key] w fun e w' => e = .returned (.tuple #[.agg ((findO rs now kind key).getD Rc.none).arr, .bool (findO rs now kind key).isSome]) ∧ Below w.heap.size w w' := by
  have hb := (Below.refl w.heap.size w).alloc (Nat.le_refl _) (.cells Rc.none.arr 32)
  have hblk := Blk.new w 32 Rc.none.arr
  have hl1 := liveL_le now rs
  have hm := hr.2.1
  have cl := Lib.hid (live_walk rs A c now _ (hr.below hb))
  clear hr
  go_enter Try.func22, Try.ntmps22
  go_wp2_with fail
  refine cl.out.mono ?_
  rintro _ w1 ⟨v, rfl, hown, hb1⟩
  obtain ⟨A1, c1, rfl, hr1⟩ := RecsAt.own hown (by omega)
  have hblk1 := hblk.below hb1 (by simp)
  replace hb := below_next hb hb1
  have ca := Lib.hid (at_walk _ A1 c1 kind key w1 hr1)
  clear hown hb1 hblk cl
  cases hi : (liveL now rs).findIdx? (isAt kind key) with
  | none =>
    rw [show idxI (isAt kind key) (liveL now rs) = -1 by rw [idxI, hi]] at ca
    have hv : Hid (findO rs now kind key = none) := by show _ = _; rw [findO, hi]
    clear hi
    go_wp2_with fail
    refine ca.out.mono ?_
    rintro _ w2 ⟨rfl, hbn⟩
    have hblk2 := hblk1.below hbn (by have := hblk1.lt; omega)
    replace hb := below_next hb hbn
    clear hbn hblk1 ca hr1
    go_wp2_with (refine wpList_store_blk rfl 32 _ _ rfl w.heap.size _ Rc.none.arr _ rfl rfl hblk2 rfl rec_size Rc.none.ones ?_)
    refine bodyPost_ret (results_rec_tmp Try.results22 _ _ w.heap.size _ Rc.none rfl hblk2.setRow) rfl ⟨?_, below_setRow hb (Nat.le_refl _) _⟩
    rw [hv.out]
    rfl
  | some i =>
    have hil : i < (liveL now rs).length := by
      rw [List.findIdx?_eq_some_iff_getElem] at hi
      exact hi.1
    rw [show idxI (isAt kind key) (liveL now rs) = (i : Int) by rw [idxI, hi]] at ca
    obtain ⟨r, hrk⟩ : ∃ r, (liveL now rs)[i]? = some r := ⟨(liveL now rs)[i], List.getElem?_eq_getElem hil⟩
    have hv : Hid (findO rs now kind key = some r) := by show _ = _; rw [findO, hi]; exact hrk
    obtain ⟨ad, rfl⟩ : ∃ ad, A1 = some ad := by obtain ⟨ad, h, _⟩ := hr1.2.2.2 (by omega); exact ⟨ad, h⟩
    have hi0 : ¬ (i : Int) < 0 := by omega
    clear hi
    go_wp2_with fail
    refine ca.out.mono ?_
    rintro _ w2 ⟨rfl, hbn⟩
    have hblk2 := hblk1.below hbn (by have := hblk1.lt; omega)
    have hra := Lib.hid (rec_at (hr1.below hbn).2.2 hrk)
    replace hb := below_next hb hbn
    clear hbn hblk1 ca hr1
    go_wp2_with (first
      | (refine wpList_load_rec rfl _ rfl (ad.add (i * 15)) rfl r hra.out ?_)
      | (refine wpList_store_blk rfl 32 _ _ rfl w.heap.size _ r.arr _ rfl rfl hblk2 rfl rec_size r.ones ?_))
    refine bodyPost_ret (results_rec_tmp Try.results22 _ _ w.heap.size _ r rfl hblk2.setRow) rfl ⟨?_, below_setRow hb (Nat.le_refl _) _⟩
    rw [hv.out]
    rfl
end Go.Proofs.Ytbkembafdhjbkaa

/- UriAll: of any text which address it is, which path and query, or why not. Condition: the table of digits is laid. -/
import Derived.Test.YtolfcpbcccbmmaaGreatDoorUt
import Derived.Test.YtolfcpbcccbmmaaGreatDoorUr
set_option linter.unusedVariables false
set_option linter.unusedSimpArgs false
set_option maxRecDepth 20000
namespace Go.Proofs.YtolfcpbcccbmmaaGreatDoor
open Go.RowKit Pc
set_option maxHeartbeats 16000000 in
set_option maxRecDepth 100000 in
theorem uriAll_law (zs : List Int) (A : Option Addr) (c : Nat) (x : ByteArray) (w : World) (hr : IntsIn w A c zs) (hd : DigOk w) :
    Calls Tryz.prog 3 #[.slice A zs.length c, .string x] w fun e w' => e = .returned (.bool true) ∧ Below w.heap.size w w' := by
  have HD := Lib.hid hd
  have H := Lib.hid hr
  clear hd hr
  go_enter Tryz.func3, Tryz.ntmps3
  go_wp2_with fail
  refine (known_walk w HD.out).mono ?_
  rintro _ w1 ⟨rfl, hb1⟩
  have HB1 := Lib.hid hb1
  clear hb1
  by_cases hx : x.size ≤ 300
  case neg =>
    have hxd : decide ((300 : Int) < (x.size : Int)) = true := by simp; omega
    go_wp2_with fail
    go_ret
    exact ⟨rfl, HB1.out⟩
  have hxd : decide ((300 : Int) < (x.size : Int)) = false := by simp; omega
  go_wp2_with fail
  refine (texts_walk zs A c x hx _ (H.out.below HB1.out)).mono ?_
  rintro _ wb ⟨g, L, rfl, hL, hrow, hsz, hbn⟩
  have HBb := Lib.hid (below_next HB1.out hbn)
  have HR := Lib.hid hrow
  clear hbn hrow HB1
  go_wp2_with fail
  go_loopw [6] (fun iv wr => ∃ i : Nat, i ≤ 13 ∧ iv = .int .i64 i ∧ Hid (RowT wr g L) ∧ Hid (Below w.heap.size w wr)) (fun iv _ => 13 - (intOf iv).toNat)
  case atStart => exact ⟨0, by omega, rfl, HR, HBb⟩
  case round =>
    clear HR HBb
    obtain ⟨i, hi, rfl, HR, HB⟩ := hrel
    by_cases hlt : i < 13
    case neg =>
      obtain rfl : i = 13 := by omega
      go_wp2_with fail
      go_ret
      exact ⟨rfl, HB.out⟩
    obtain ⟨y, hy⟩ : ∃ y, L[i]? = some y := ⟨L[i], List.getElem?_eq_getElem (by omega)⟩
    have hys := hsz y (List.mem_of_getElem? hy)
    have hcy := HR.out.2 i y hy
    have hgl := HR.out.1
    have HY := Lib.hid hy
    obtain ⟨l, hl⟩ : ∃ l, y.data.toList = l := ⟨_, rfl⟩
    clear hy
    have cp1 := fun W h => uparse_walk y l hl W h (by omega)
    have cp2 := fun W => ruparse_walk y l hl W (by omega)
    have cs1 := fun W h => usplit_walk y l hl W h (by omega)
    have cs2 := fun W => rsplit_walk y l hl W (by omega)
    have hql := splitE_len l
    unfold UriR at cp1 cp2
    unfold SplitU at cs1 cs2
    replace cp1 := Lib.hid cp1
    replace cp2 := Lib.hid cp2
    replace cs1 := Lib.hid cs1
    replace cs2 := Lib.hid cs2
    generalize uriE l = z at cp1 cp2
    generalize splitE l = z2 at cs1 cs2 hql
    obtain ⟨m, u⟩ := z
    obtain ⟨m2, pp, qq⟩ := z2
    simp only at cp1 cp2 cs1 cs2 hql
    have HQ := Lib.hid hql
    clear hql hl
    go_wp2_with fail
    refine (cp1.out wr (HD.out.below HB.out)).mono ?_
    rintro _ w1 ⟨A1, c1, rfl, hf1, hbn⟩
    have hbA := (Below.refl w1.heap.size w1).alloc (Nat.le_refl _) (.cells (u.arr A1 c1) 28)
    have HB2 := Lib.hid ((below_next HB.out hbn).alloc (below_next HB.out hbn).size (.cells (u.arr A1 c1) 28))
    have HK2 := Lib.hid (Blk.new w1 28 (u.arr A1 c1))
    have HR1 := Lib.hid (HR.out.below hbn hgl)
    have HR2 := Lib.hid (HR1.out.below hbA HR1.out.1)
    have HF2 := Lib.hid (hf1.below hbA)
    have hcy := HR2.out.2 i y HY.out
    have hgl := HR2.out.1
    clear hbn hf1 HR HB HR1 cp1 hbA
    go_wp2_with (refine wpList_store_ur w1 rfl _ _ rfl rfl rfl ?_)
    refine (cp2.out _).mono ?_
    rintro _ w3 ⟨A3, c3, rfl, hf3, hbn⟩
    have hbA := (Below.refl w3.heap.size w3).alloc (Nat.le_refl _) (.cells (u.arr A3 c3) 28)
    have HB4 := Lib.hid ((below_next HB2.out hbn).alloc (below_next HB2.out hbn).size (.cells (u.arr A3 c3) 28))
    have HN4 := Lib.hid (Blk.new w3 28 (u.arr A3 c3))
    have HK4 := Lib.hid ((HK2.out.below hbn HK2.out.lt).alloc (.cells (u.arr A3 c3) 28))
    have HF4 := Lib.hid ((HF2.out.below hbn).below hbA)
    have HG4 := Lib.hid (hf3.below hbA)
    have HR3 := Lib.hid (HR2.out.below hbn hgl)
    have HR4 := Lib.hid (HR3.out.below hbA HR3.out.1)
    have hcy := HR4.out.2 i y HY.out
    have hgl := HR4.out.1
    clear hbn hf3 HR2 HB2 HR3 HK2 HF2 cp2 hbA
    go_wp2_with (refine wpList_store_ur w3 rfl _ _ rfl rfl rfl ?_)
    refine (cs1.out _ (HD.out.below HB4.out)).mono ?_
    rintro _ w5 ⟨v5, rfl, hown, hbn⟩
    obtain ⟨A5, c5, rfl, hf5⟩ := FsAt.own hown HQ.out
    have HB5 := Lib.hid (below_next HB4.out hbn)
    have HN5 := Lib.hid (HN4.out.below hbn HN4.out.lt)
    have HK5 := Lib.hid (HK4.out.below hbn HK4.out.lt)
    have HF5 := Lib.hid (HF4.out.below hbn)
    have HG5 := Lib.hid (HG4.out.below hbn)
    have HP5 := Lib.hid hf5
    have HR5 := Lib.hid (HR4.out.below hbn hgl)
    have hcy := HR5.out.2 i y HY.out
    have hgl := HR5.out.1
    clear hbn hown hf5 HR4 HB4 HN4 HK4 HF4 HG4 cs1
    go_wp2_with fail
    refine (cs2.out _).mono ?_
    rintro _ w6 ⟨v6, rfl, hown, hbn⟩
    obtain ⟨A6, c6, rfl, hf6⟩ := FsAt.own hown HQ.out
    have HB6 := Lib.hid (below_next HB5.out hbn)
    have HN6 := Lib.hid (HN5.out.below hbn HN5.out.lt)
    have HK6 := Lib.hid (HK5.out.below hbn HK5.out.lt)
    have HF6 := Lib.hid (HF5.out.below hbn)
    have HG6 := Lib.hid (HG5.out.below hbn)
    have HP6 := Lib.hid (HP5.out.below hbn)
    have HV6 := Lib.hid hf6
    have HR6 := Lib.hid (HR5.out.below hbn hgl)
    have hgl := HR6.out.1
    have cs := Lib.hid (usame_walk u A1 A3 c1 c3 w6 HF6.out HG6.out)
    rw [Ur.arr, Ur.arr] at cs
    have hc0 := (boxU HK6.out).2.1
    have hc1 := (boxU HK6.out).2.2.1
    have hc2 := (boxU HK6.out).2.2.2
    have hd0 := (boxU HN6.out).2.1
    have hd1 := (boxU HN6.out).2.2.1
    have hd2 := (boxU HN6.out).2.2.2
    clear hbn hown hf6 HR5 HB5 HN5 HK5 HF5 HG5 HP5 cs2 hcy
    dsimp only at *
    go_wp2_with fail
    refine cs.out.mono ?_
    rintro _ w9 ⟨rfl, hbn⟩
    have HB9 := Lib.hid (below_next HB6.out hbn)
    have HR9 := Lib.hid (HR6.out.below hbn hgl)
    have cq := Lib.hid (lsame_walk qq A5 A6 c5 c6 w9 (HP6.out.below hbn) (HV6.out.below hbn))
    clear hbn HB6 HN6 HK6 HF6 HG6 HP6 HV6 HR6 cs hc0 hc1 hc2 hd0 hd1 hd2
    go_wp2_with fail
    refine cq.out.mono ?_
    rintro _ wa ⟨rfl, n, rfl⟩
    go_wp2_with fail
    exact ⟨⟨i + 1, by omega, by go_num, HR9, Lib.hid (below_drewN HB9.out n)⟩, by simp [intOf]; omega⟩
end Go.Proofs.YtolfcpbcccbmmaaGreatDoor

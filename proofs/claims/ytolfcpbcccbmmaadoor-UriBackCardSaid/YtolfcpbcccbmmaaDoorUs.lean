/- UriBack: what is printed is parsed, as a whole, and its target by itself; what is parsed is printed just so. Condition: the table of digits is laid. -/
import Derived.Test.YtolfcpbcccbmmaaDoorUr
set_option linter.unusedVariables false
set_option linter.unusedSimpArgs false
set_option maxRecDepth 20000
namespace Go.Proofs.YtolfcpbcccbmmaaDoor
open Go.RowKit Pc
theorem encB_ge (form : Bool) (b : UInt8) : 1 ≤ (encB form b).length := by
  unfold encB
  split
  · simp
  · split <;> simp
theorem encL_ge (form : Bool) : ∀ l : List UInt8, l.length ≤ (encL form l).length
  | [] => Nat.le_refl _
  | b :: l => by
    have h1 := encB_ge form b
    have h2 := encL_ge form l
    rw [encL_cons, List.length_append, List.length_cons]
    omega
theorem encF_ge (f : Fl) : f.n.length + f.v.length + 1 ≤ (encF f).length := by
  have h1 := encL_ge true f.n
  have h2 := encL_ge true f.v
  rw [encF, List.length_append, List.length_cons]
  omega
theorem tailL_ge : ∀ fs : List Fl, sumF fs + fs.length ≤ (tailL fs).length
  | [] => Nat.le_refl _
  | f :: fs => by
    have h1 := encF_ge f
    have h2 := tailL_ge fs
    have h3 : (tailL (f :: fs)).length = (encF f).length + (tailL fs).length + 1 := by rw [tailL_cons, List.length_cons, List.length_append]
    rw [h3, sumF_cons, List.length_cons]
    omega
theorem printL_ge : ∀ fs : List Fl, sumF fs + fs.length ≤ (printL fs).length
  | [] => Nat.le_refl _
  | f :: fs => by
    have h1 := encF_ge f
    have h2 := tailL_ge fs
    rw [printL_cons, List.length_append, sumF_cons, List.length_cons]
    omega
theorem target_ge (u : Ur) : u.p.length + sumF u.q ≤ (targetL u).length := by
  unfold targetL
  split
  · rename_i h; rw [h]; simp [sumF]
  · have := printL_ge u.q
    rw [List.length_append, List.length_cons]
    omega
set_option maxHeartbeats 16000000 in
set_option maxRecDepth 100000 in
theorem uriBack_law (zs : List Int) (A : Option Addr) (c : Nat) (x : ByteArray) (w : World) (hr : IntsIn w A c zs) (hd : DigOk w) :
    Calls Tryd.prog 4 #[.slice A zs.length c, .string x] w fun e w' => e = .returned (.bool true) ∧ Below w.heap.size w w' := by
  have HD := Lib.hid hd
  have H := Lib.hid hr
  clear hd hr
  go_enter Tryd.func4, Tryd.ntmps4
  go_wp2_with fail
  refine (known_walk w HD.out).mono ?_
  rintro _ w1 ⟨rfl, hb1⟩
  have HB1 := Lib.hid hb1
  clear hb1
  by_cases hx : x.size ≤ 300
  case neg =>
    have hxd : decide ((300 : Int) < (x.size : Int)) = true := by simp; omega
    go_wp2_with fail
    go_ret
    exact ⟨rfl, HB1.out⟩
  have hxd : decide ((300 : Int) < (x.size : Int)) = false := by simp; omega
  go_wp2_with fail
  refine (uri_walk zs A c w1 (H.out.below HB1.out)).mono ?_
  rintro _ w2 ⟨u, A2, c2, rfl, hm, hu, hbn⟩
  obtain ⟨p1, p2, p3, p4, p5⟩ := mayB_parts hm
  have hb2 := below_next HB1.out hbn
  have HB3 := Lib.hid (hb2.alloc hb2.size (.cells (u.arr A2 c2) 24))
  have HK3 := Lib.hid (Blk.new w2 24 (u.arr A2 c2))
  have HU3 := Lib.hid (hu.below ((Below.refl w2.heap.size w2).alloc (Nat.le_refl _) (.cells (u.arr A2 c2) 24)))
  have hpe : printE u = uriL u := if_pos hm
  have hte : targetE u = targetL u := if_pos hm
  have hup := uri_print hm
  have hst := split_target hm
  have hul : (uriL u).length = 8 + u.h.length + (targetL u).length := by rw [uriL, List.length_append, List.length_append]; rfl
  have cpr := Lib.hid (fun W h hd => printu_walk u A2 c2 W h (by omega) hd)
  have ctt := Lib.hid (fun W h hd => ttarget_walk u A2 c2 W h (by omega) hd)
  rw [hpe] at cpr
  rw [hte] at ctt
  have cpa := Lib.hid (fun W h => uparse_walk ⟨(uriL u).toArray⟩ (uriL u) (by simp) W h (by rw [size_mks]; omega))
  have csp := Lib.hid (fun W h => usplit_walk ⟨(targetL u).toArray⟩ (targetL u) (by simp) W h (by rw [size_mks]; omega))
  have HUP := Lib.hid hup
  have HST := Lib.hid hst
  have hql : u.q.length ≤ 24 := p3
  have hwl : w.heap.size ≤ w2.heap.size := hb2.size
  clear hpe hte hup hst hul hbn hb2 hu p1 p2 p3 p4 p5 HB1
  go_wp2_with (first | (refine wpList_store_ur w2 rfl _ _ rfl rfl rfl ?_) | (refine wpList_load_ur rfl _ rfl w2.heap.size rfl u A2 c2 HK3.out ?_))
  refine (cpr.out _ HU3.out (HD.out.below HB3.out)).mono ?_
  rintro _ w4 ⟨rfl, hbn⟩
  have HB4 := Lib.hid (below_next HB3.out hbn)
  have HK4 := Lib.hid (HK3.out.below hbn HK3.out.lt)
  have HU4 := Lib.hid (HU3.out.below hbn)
  clear hbn HB3 HK3 HU3 cpr
  go_wp2_with fail
  refine (cpa.out w4 (HD.out.below HB4.out)).mono ?_
  rintro _ w5 ⟨A5, c5, rfl, hf5, hbn⟩
  rw [HUP.out] at hf5 ⊢
  have HB5 := Lib.hid (below_next HB4.out hbn)
  have HK5 := Lib.hid (HK4.out.below hbn HK4.out.lt)
  have HU5 := Lib.hid (HU4.out.below hbn)
  have HF5 := Lib.hid hf5
  have HK6 := Lib.hid (HK5.out.alloc (.cells (u.arr A5 c5) 24))
  have HN6 := Lib.hid (Blk.new w5 24 (u.arr A5 c5))
  have HB6 := Lib.hid (HB5.out.alloc HB5.out.size (.cells (u.arr A5 c5) 24))
  have HU6 := Lib.hid (HU5.out.below ((Below.refl w5.heap.size w5).alloc (Nat.le_refl _) (.cells (u.arr A5 c5) 24)))
  have HF6 := Lib.hid (HF5.out.below ((Below.refl w5.heap.size w5).alloc (Nat.le_refl _) (.cells (u.arr A5 c5) 24)))
  clear hbn hf5 HB4 HK4 HU4 HB5 HK5 HU5 HF5 cpa HUP
  go_wp2_with (first | (refine wpList_store_ur w5 rfl _ _ rfl rfl rfl ?_) | (refine wpList_load_ur rfl _ rfl w2.heap.size rfl u A2 c2 HK6.out ?_))
  refine (ctt.out _ HU6.out (HD.out.below HB6.out)).mono ?_
  rintro _ w7 ⟨rfl, hbn⟩
  have HB7 := Lib.hid (below_next HB6.out hbn)
  have HK7 := Lib.hid (HK6.out.below hbn HK6.out.lt)
  have HN7 := Lib.hid (HN6.out.below hbn HN6.out.lt)
  have HU7 := Lib.hid (HU6.out.below hbn)
  have HF7 := Lib.hid (HF6.out.below hbn)
  clear hbn HB6 HK6 HN6 HU6 HF6 ctt
  go_wp2_with fail
  refine (csp.out w7 (HD.out.below HB7.out)).mono ?_
  rintro _ w8 ⟨v, rfl, hown, hbn⟩
  rw [HST.out] at hown ⊢
  obtain ⟨A8, c8, rfl, hx8⟩ := FsAt.own hown (show u.q.length ≤ 1000000 by omega)
  have HB8 := Lib.hid (below_next HB7.out hbn)
  have HK8 := Lib.hid (HK7.out.below hbn HK7.out.lt)
  have HN8 := Lib.hid (HN7.out.below hbn HN7.out.lt)
  have HU8 := Lib.hid (HU7.out.below hbn)
  have HF8 := Lib.hid (HF7.out.below hbn)
  have HX8 := Lib.hid hx8
  have cs := Lib.hid (usame_walk u A2 A5 c2 c5 w8 HU8.out.fs HF8.out)
  rw [Ur.arr, Ur.arr] at cs
  have hc0 := (boxU HK8.out).2.1
  have hc1 := (boxU HK8.out).2.2.1
  have hc2 := (boxU HK8.out).2.2.2
  have hd0 := (boxU HN8.out).2.1
  have hd1 := (boxU HN8.out).2.2.1
  have hd2 := (boxU HN8.out).2.2.2
  clear hbn hown hx8 HB7 HK7 HN7 HU7 HF7 csp HST
  dsimp only at *
  go_wp2_with fail
  refine cs.out.mono ?_
  rintro _ w9 ⟨rfl, hbn⟩
  have HB9 := Lib.hid (below_next HB8.out hbn)
  have HK9 := Lib.hid (HK8.out.below hbn HK8.out.lt)
  have HU9 := Lib.hid (HU8.out.below hbn)
  have HX9 := Lib.hid (HX8.out.below hbn)
  have hc0 := (boxU HK9.out).2.1
  have hc1 := (boxU HK9.out).2.2.1
  have hc2 := (boxU HK9.out).2.2.2
  have cs := Lib.hid (lsame_walk u.q A8 A2 c8 c2 w9 HX9.out HU9.out.fs)
  clear hbn HB8 HK8 HN8 HU8 HF8 HX8
  go_wp2_with fail
  refine cs.out.mono ?_
  rintro _ wa ⟨rfl, n, rfl⟩
  have HBa := Lib.hid (below_drewN HB9.out n)
  clear cs HB9 HK9 HU9 HX9 hc0 hc1 hc2
  go_wp2_with fail
  refine (texts_walk zs A c x hx _ (H.out.below HBa.out)).mono ?_
  rintro _ wb ⟨g, L, rfl, hL, hrow, hsz, hbn⟩
  have HBb := Lib.hid (below_next HBa.out hbn)
  have HR := Lib.hid hrow
  clear hbn hrow HBa
  go_wp2_with fail
  go_loopw [12] (fun iv wr => ∃ i : Nat, i ≤ 13 ∧ iv = .int .i64 i ∧ Hid (RowT wr g L) ∧ Hid (Below w.heap.size w wr)) (fun iv _ => 13 - (intOf iv).toNat)
  case atStart => exact ⟨0, by omega, rfl, HR, HBb⟩
  case round =>
    clear HR HBb
    obtain ⟨i, hi, rfl, HR, HB⟩ := hrel
    by_cases hlt : i < 13
    case neg =>
      obtain rfl : i = 13 := by omega
      go_wp2_with fail
      go_ret
      exact ⟨rfl, HB.out⟩
    obtain ⟨y, hy⟩ : ∃ y, L[i]? = some y := ⟨L[i], List.getElem?_eq_getElem (by omega)⟩
    have hys := hsz y (List.mem_of_getElem? hy)
    have hcy := HR.out.2 i y hy
    have hgl := HR.out.1
    have HY := Lib.hid hy
    obtain ⟨l, hl⟩ : ∃ l, y.data.toList = l := ⟨_, rfl⟩
    have hyl : y = ⟨l.toArray⟩ := by rw [← hl]
    have HYL := Lib.hid hyl
    clear hyl hy
    have hE : (uriE l).1 = 0 → mayB (uriE l).2 = true ∧ uriL (uriE l).2 = l := uriE_ok
    have cpa := uparse_walk y l hl wr (HD.out.below HB.out) (by omega)
    unfold UriR at cpa
    replace cpa := Lib.hid cpa
    generalize (uriE l).2 = v at cpa hE
    generalize (uriE l).1 = m at cpa hE
    have HE := Lib.hid hE
    clear hE
    go_wp2_with fail
    refine cpa.out.mono ?_
    rintro _ w1 ⟨A1, c1, rfl, hf1, hbn⟩
    have hb1 := below_next HB.out hbn
    have hbA := (Below.refl w1.heap.size w1).alloc (Nat.le_refl _) (.cells (v.arr A1 c1) 24)
    have HB1 := Lib.hid (hb1.alloc hb1.size (.cells (v.arr A1 c1) 24))
    have HK1 := Lib.hid (Blk.new w1 24 (v.arr A1 c1))
    have HR0 := Lib.hid (HR.out.below hbn hgl)
    have HR1 := Lib.hid (HR0.out.below hbA HR0.out.1)
    have hf2 := hf1.below hbA
    clear hb1 hbn hf1 HR HB HR0 cpa hcy
    by_cases h0 : m = 0
    case neg =>
      have hm0 : ((m : Int) == 0) = false := by rw [beq_eq_false_iff_ne]; omega
      clear h0 hbA
      go_wp2_with (refine wpList_store_ur w1 rfl _ _ rfl rfl rfl ?_)
      refine wp_region_held_drew (S := fun W => True) (by kernel_rfl) trivial (fun hHeld => ?_)
      first | (refine wpAnyH_take (i := 0) (v := _) rfl (by kernel_rfl) (by kernel_rfl) (by kernel_rfl) (fun _ _ _ h => h) (Or.inr ⟨?_, rfl⟩) (by assumption) ?_; rfl) | (refine wpAnyH_take (i := 0) (v := ?_) rfl (by kernel_rfl) (by kernel_rfl) (by kernel_rfl) (fun _ _ _ h => h) (Or.inl ⟨?_, ?_⟩) (by assumption) ?_; rotate_left; rfl; focus (intro w hSw; (try dsimp only at hSw); go_simp; all_goals (with_reducible rfl)))
      (try simp only [List.getElem_toArray, List.getElem_cons_zero, List.getElem_cons_succ, Act.put, List.setIfInBounds_toArray, List.set_cons_zero, List.set_cons_succ])
      first | (refine wpAnyH_take (i := 1) (v := _) rfl (by kernel_rfl) (by kernel_rfl) (by kernel_rfl) (fun _ _ _ h => h) (Or.inr ⟨?_, rfl⟩) (by assumption) ?_; rfl) | (refine wpAnyH_take (i := 1) (v := ?_) rfl (by kernel_rfl) (by kernel_rfl) (by kernel_rfl) (fun _ _ _ h => h) (Or.inl ⟨?_, ?_⟩) (by assumption) ?_; rotate_left; rfl; focus (intro w hSw; (try dsimp only at hSw); go_simp; all_goals (with_reducible rfl)))
      (try simp only [List.getElem_toArray, List.getElem_cons_zero, List.getElem_cons_succ, Act.put, List.setIfInBounds_toArray, List.set_cons_zero, List.set_cons_succ])
      first | (refine wpAnyH_take (i := 2) (v := _) rfl (by kernel_rfl) (by kernel_rfl) (by kernel_rfl) (fun _ _ _ h => h) (Or.inr ⟨?_, rfl⟩) (by assumption) ?_; rfl) | (refine wpAnyH_take (i := 2) (v := ?_) rfl (by kernel_rfl) (by kernel_rfl) (by kernel_rfl) (fun _ _ _ h => h) (Or.inl ⟨?_, ?_⟩) (by assumption) ?_; rotate_left; rfl; focus (intro w hSw; (try dsimp only at hSw); go_simp; all_goals (with_reducible rfl)))
      (try simp only [List.getElem_toArray, List.getElem_cons_zero, List.getElem_cons_succ, Act.put, List.setIfInBounds_toArray, List.set_cons_zero, List.set_cons_succ])
      first | (refine wpAnyH_take (i := 3) (v := _) rfl (by kernel_rfl) (by kernel_rfl) (by kernel_rfl) (fun _ _ _ h => h) (Or.inr ⟨?_, rfl⟩) (by assumption) ?_; rfl) | (refine wpAnyH_take (i := 3) (v := ?_) rfl (by kernel_rfl) (by kernel_rfl) (by kernel_rfl) (fun _ _ _ h => h) (Or.inl ⟨?_, ?_⟩) (by assumption) ?_; rotate_left; rfl; focus (intro w hSw; (try dsimp only at hSw); go_simp; all_goals (with_reducible rfl)))
      (try simp only [List.getElem_toArray, List.getElem_cons_zero, List.getElem_cons_succ, Act.put, List.setIfInBounds_toArray, List.set_cons_zero, List.set_cons_succ])
      first | (refine wpAnyH_take (i := 4) (v := _) rfl (by kernel_rfl) (by kernel_rfl) (by kernel_rfl) (fun _ _ _ h => h) (Or.inr ⟨?_, rfl⟩) (by assumption) ?_; rfl) | (refine wpAnyH_take (i := 4) (v := ?_) rfl (by kernel_rfl) (by kernel_rfl) (by kernel_rfl) (fun _ _ _ h => h) (Or.inl ⟨?_, ?_⟩) (by assumption) ?_; rotate_left; rfl; focus (intro w hSw; (try dsimp only at hSw); go_simp; all_goals (with_reducible rfl)))
      (try simp only [List.getElem_toArray, List.getElem_cons_zero, List.getElem_cons_succ, Act.put, List.setIfInBounds_toArray, List.set_cons_zero, List.set_cons_succ])
      first | (refine wpAnyH_take (i := 5) (v := _) rfl (by kernel_rfl) (by kernel_rfl) (by kernel_rfl) (fun _ _ _ h => h) (Or.inr ⟨?_, rfl⟩) (by assumption) ?_; rfl) | (refine wpAnyH_take (i := 5) (v := ?_) rfl (by kernel_rfl) (by kernel_rfl) (by kernel_rfl) (fun _ _ _ h => h) (Or.inl ⟨?_, ?_⟩) (by assumption) ?_; rotate_left; rfl; focus (intro w hSw; (try dsimp only at hSw); go_simp; all_goals (with_reducible rfl)))
      (try simp only [List.getElem_toArray, List.getElem_cons_zero, List.getElem_cons_succ, Act.put, List.setIfInBounds_toArray, List.set_cons_zero, List.set_cons_succ])
      first | (refine wpAnyH_take (i := 6) (v := _) rfl (by kernel_rfl) (by kernel_rfl) (by kernel_rfl) (fun _ _ _ h => h) (Or.inr ⟨?_, rfl⟩) (by assumption) ?_; rfl) | (refine wpAnyH_take (i := 6) (v := ?_) rfl (by kernel_rfl) (by kernel_rfl) (by kernel_rfl) (fun _ _ _ h => h) (Or.inl ⟨?_, ?_⟩) (by assumption) ?_; rotate_left; rfl; focus (intro w hSw; (try dsimp only at hSw); go_simp; all_goals (with_reducible rfl)))
      (try simp only [List.getElem_toArray, List.getElem_cons_zero, List.getElem_cons_succ, Act.put, List.setIfInBounds_toArray, List.set_cons_zero, List.set_cons_succ])
      first | (refine wpAnyH_take (i := 7) (v := _) rfl (by kernel_rfl) (by kernel_rfl) (by kernel_rfl) (fun _ _ _ h => h) (Or.inr ⟨?_, rfl⟩) (by assumption) ?_; rfl) | (refine wpAnyH_take (i := 7) (v := ?_) rfl (by kernel_rfl) (by kernel_rfl) (by kernel_rfl) (fun _ _ _ h => h) (Or.inl ⟨?_, ?_⟩) (by assumption) ?_; rotate_left; rfl; focus (intro w hSw; (try dsimp only at hSw); go_simp; all_goals (with_reducible rfl)))
      (try simp only [List.getElem_toArray, List.getElem_cons_zero, List.getElem_cons_succ, Act.put, List.setIfInBounds_toArray, List.set_cons_zero, List.set_cons_succ])
      first | (refine wpAnyH_take (i := 8) (v := _) rfl (by kernel_rfl) (by kernel_rfl) (by kernel_rfl) (fun _ _ _ h => h) (Or.inr ⟨?_, rfl⟩) (by assumption) ?_; rfl) | (refine wpAnyH_take (i := 8) (v := ?_) rfl (by kernel_rfl) (by kernel_rfl) (by kernel_rfl) (fun _ _ _ h => h) (Or.inl ⟨?_, ?_⟩) (by assumption) ?_; rotate_left; rfl; focus (intro w hSw; (try dsimp only at hSw); go_simp; all_goals (with_reducible rfl)))
      (try simp only [List.getElem_toArray, List.getElem_cons_zero, List.getElem_cons_succ, Act.put, List.setIfInBounds_toArray, List.set_cons_zero, List.set_cons_succ])
      first | (refine wpAnyH_take (i := 9) (v := _) rfl (by kernel_rfl) (by kernel_rfl) (by kernel_rfl) (fun _ _ _ h => h) (Or.inr ⟨?_, rfl⟩) (by assumption) ?_; rfl) | (refine wpAnyH_take (i := 9) (v := ?_) rfl (by kernel_rfl) (by kernel_rfl) (by kernel_rfl) (fun _ _ _ h => h) (Or.inl ⟨?_, ?_⟩) (by assumption) ?_; rotate_left; rfl; focus (intro w hSw; (try dsimp only at hSw); go_simp; all_goals (with_reducible rfl)))
      (try simp only [List.getElem_toArray, List.getElem_cons_zero, List.getElem_cons_succ, Act.put, List.setIfInBounds_toArray, List.set_cons_zero, List.set_cons_succ])
      first | (refine wpAnyH_take (i := 10) (v := _) rfl (by kernel_rfl) (by kernel_rfl) (by kernel_rfl) (fun _ _ _ h => h) (Or.inr ⟨?_, rfl⟩) (by assumption) ?_; rfl) | (refine wpAnyH_take (i := 10) (v := ?_) rfl (by kernel_rfl) (by kernel_rfl) (by kernel_rfl) (fun _ _ _ h => h) (Or.inl ⟨?_, ?_⟩) (by assumption) ?_; rotate_left; rfl; focus (intro w hSw; (try dsimp only at hSw); go_simp; all_goals (with_reducible rfl)))
      (try simp only [List.getElem_toArray, List.getElem_cons_zero, List.getElem_cons_succ, Act.put, List.setIfInBounds_toArray, List.set_cons_zero, List.set_cons_succ])
      first | (refine wpAnyH_take (i := 11) (v := _) rfl (by kernel_rfl) (by kernel_rfl) (by kernel_rfl) (fun _ _ _ h => h) (Or.inr ⟨?_, rfl⟩) (by assumption) ?_; rfl) | (refine wpAnyH_take (i := 11) (v := ?_) rfl (by kernel_rfl) (by kernel_rfl) (by kernel_rfl) (fun _ _ _ h => h) (Or.inl ⟨?_, ?_⟩) (by assumption) ?_; rotate_left; rfl; focus (intro w hSw; (try dsimp only at hSw); go_simp; all_goals (with_reducible rfl)))
      (try simp only [List.getElem_toArray, List.getElem_cons_zero, List.getElem_cons_succ, Act.put, List.setIfInBounds_toArray, List.set_cons_zero, List.set_cons_succ])
      first | (refine wpAnyH_take (i := 12) (v := _) rfl (by kernel_rfl) (by kernel_rfl) (by kernel_rfl) (fun _ _ _ h => h) (Or.inr ⟨?_, rfl⟩) (by assumption) ?_; rfl) | (refine wpAnyH_take (i := 12) (v := ?_) rfl (by kernel_rfl) (by kernel_rfl) (by kernel_rfl) (fun _ _ _ h => h) (Or.inl ⟨?_, ?_⟩) (by assumption) ?_; rotate_left; rfl; focus (intro w hSw; (try dsimp only at hSw); go_simp; all_goals (with_reducible rfl)))
      (try simp only [List.getElem_toArray, List.getElem_cons_zero, List.getElem_cons_succ, Act.put, List.setIfInBounds_toArray, List.set_cons_zero, List.set_cons_succ])
      first | (refine wpAnyH_take (i := 13) (v := _) rfl (by kernel_rfl) (by kernel_rfl) (by kernel_rfl) (fun _ _ _ h => h) (Or.inr ⟨?_, rfl⟩) (by assumption) ?_; rfl) | (refine wpAnyH_take (i := 13) (v := ?_) rfl (by kernel_rfl) (by kernel_rfl) (by kernel_rfl) (fun _ _ _ h => h) (Or.inl ⟨?_, ?_⟩) (by assumption) ?_; rotate_left; rfl; focus (intro w hSw; (try dsimp only at hSw); go_simp; all_goals (with_reducible rfl)))
      (try simp only [List.getElem_toArray, List.getElem_cons_zero, List.getElem_cons_succ, Act.put, List.setIfInBounds_toArray, List.set_cons_zero, List.set_cons_succ])
      first | (refine wpAnyH_take (i := 14) (v := _) rfl (by kernel_rfl) (by kernel_rfl) (by kernel_rfl) (fun _ _ _ h => h) (Or.inr ⟨?_, rfl⟩) (by assumption) ?_; rfl) | (refine wpAnyH_take (i := 14) (v := ?_) rfl (by kernel_rfl) (by kernel_rfl) (by kernel_rfl) (fun _ _ _ h => h) (Or.inl ⟨?_, ?_⟩) (by assumption) ?_; rotate_left; rfl; focus (intro w hSw; (try dsimp only at hSw); go_simp; all_goals (with_reducible rfl)))
      (try simp only [List.getElem_toArray, List.getElem_cons_zero, List.getElem_cons_succ, Act.put, List.setIfInBounds_toArray, List.set_cons_zero, List.set_cons_succ])
      first | (refine wpAnyH_take (i := 15) (v := _) rfl (by kernel_rfl) (by kernel_rfl) (by kernel_rfl) (fun _ _ _ h => h) (Or.inr ⟨?_, rfl⟩) (by assumption) ?_; rfl) | (refine wpAnyH_take (i := 15) (v := ?_) rfl (by kernel_rfl) (by kernel_rfl) (by kernel_rfl) (fun _ _ _ h => h) (Or.inl ⟨?_, ?_⟩) (by assumption) ?_; rotate_left; rfl; focus (intro w hSw; (try dsimp only at hSw); go_simp; all_goals (with_reducible rfl)))
      (try simp only [List.getElem_toArray, List.getElem_cons_zero, List.getElem_cons_succ, Act.put, List.setIfInBounds_toArray, List.set_cons_zero, List.set_cons_succ])
      refine wpAnyH_done (by kernel_rfl) ?_ _
      clear hHeld
      go_wp2_with fail
      exact ⟨⟨i + 1, by omega, by go_num, HR1, below_drewN HB1.out 1⟩, by simp [intOf]; omega⟩
    obtain ⟨hm, hul⟩ := HE.out h0
    obtain ⟨p1, p2, p3, p4, p5⟩ := mayB_parts hm
    have htg := target_ge v
    have hU1 : UrAt (w1.alloc (.cells (v.arr A1 c1) 24)) A1 c1 v := ⟨hf2, by omega, by omega, by omega⟩
    have HU1 := Lib.hid hU1
    have hpe : printE v = l := (if_pos hm : printE v = uriL v).trans hul
    have cpr := Lib.hid (fun W h hd => printu_walk v A1 c1 W h (by omega) hd)
    have cm := Lib.hid (fun W h hd => may_walk v A1 c1 W h hd (by omega))
    rw [hpe, ← HYL.out] at cpr
    rw [hm] at cm
    have hy2 := HR1.out.2 i y HY.out
    clear hpe p1 p2 p3 p4 p5 htg hU1 hf2 hbA hul hm HE
    subst h0
    go_wp2_with (refine wpList_store_ur w1 rfl _ _ rfl rfl rfl ?_)
    have hS0 : Blk (w1.alloc (.cells (v.arr A1 c1) 24)).drew w1.heap.size 24 (v.arr A1 c1) ∧ (w1.alloc (.cells (v.arr A1 c1) 24)).drew.cell? ⟨g, i, none⟩ = some (.string y) := ⟨HK1.out.drew, hy2⟩
    refine wp_region_held_drew (S := fun W => Blk W w1.heap.size 24 (v.arr A1 c1) ∧ W.cell? ⟨g, i, none⟩ = some (.string y)) (by kernel_rfl) hS0 (fun hHeld => ?_)
    first | (refine wpAnyH_take (i := 0) (v := _) rfl (by kernel_rfl) (by kernel_rfl) (by kernel_rfl) (fun _ _ _ h => h) (Or.inr ⟨?_, rfl⟩) (by assumption) ?_; rfl) | (refine wpAnyH_take (i := 0) (v := ?_) rfl (by kernel_rfl) (by kernel_rfl) (by kernel_rfl) (fun _ _ _ h => h) (Or.inl ⟨?_, ?_⟩) (by assumption) ?_; rotate_left; rfl; focus (intro w hSw; (try dsimp only at hSw); go_simp; all_goals (with_reducible rfl)))
    (try simp only [List.getElem_toArray, List.getElem_cons_zero, List.getElem_cons_succ, Act.put, List.setIfInBounds_toArray, List.set_cons_zero, List.set_cons_succ])
    first | (refine wpAnyH_take (i := 1) (v := _) rfl (by kernel_rfl) (by kernel_rfl) (by kernel_rfl) (fun _ _ _ h => h) (Or.inr ⟨?_, rfl⟩) (by assumption) ?_; rfl) | (refine wpAnyH_take (i := 1) (v := ?_) rfl (by kernel_rfl) (by kernel_rfl) (by kernel_rfl) (fun _ _ _ h => h) (Or.inl ⟨?_, ?_⟩) (by assumption) ?_; rotate_left; rfl; focus (intro w hSw; (try dsimp only at hSw); go_simp; all_goals (with_reducible rfl)))
    (try simp only [List.getElem_toArray, List.getElem_cons_zero, List.getElem_cons_succ, Act.put, List.setIfInBounds_toArray, List.set_cons_zero, List.set_cons_succ])
    first | (refine wpAnyH_take (i := 2) (v := _) rfl (by kernel_rfl) (by kernel_rfl) (by kernel_rfl) (fun _ _ _ h => h) (Or.inr ⟨?_, rfl⟩) (by assumption) ?_; rfl) | (refine wpAnyH_take (i := 2) (v := ?_) rfl (by kernel_rfl) (by kernel_rfl) (by kernel_rfl) (fun _ _ _ h => h) (Or.inl ⟨?_, ?_⟩) (by assumption) ?_; rotate_left; rfl; focus (intro w hSw; (try dsimp only at hSw); go_simp; all_goals (with_reducible rfl)))
    (try simp only [List.getElem_toArray, List.getElem_cons_zero, List.getElem_cons_succ, Act.put, List.setIfInBounds_toArray, List.set_cons_zero, List.set_cons_succ])
    refine wpAnyH_take (i := 3) (v := _) rfl (by kernel_rfl) (by kernel_rfl) (by kernel_rfl) (fun _ _ _ h => h) (yieldsIf_load_ur (by rfl) _ rfl w1.heap.size rfl v A1 c1 (fun w h => h.1)) (by assumption) ?_
    (try simp only [List.getElem_toArray, List.getElem_cons_zero, List.getElem_cons_succ, Act.put, List.setIfInBounds_toArray, List.set_cons_zero, List.set_cons_succ])
    first | (refine wpAnyH_take (i := 5) (v := _) rfl (by kernel_rfl) (by kernel_rfl) (by kernel_rfl) (fun _ _ _ h => h) (Or.inr ⟨?_, rfl⟩) (by assumption) ?_; rfl) | (refine wpAnyH_take (i := 5) (v := ?_) rfl (by kernel_rfl) (by kernel_rfl) (by kernel_rfl) (fun _ _ _ h => h) (Or.inl ⟨?_, ?_⟩) (by assumption) ?_; rotate_left; rfl; focus (intro w hSw; (try dsimp only at hSw); go_simp; all_goals (with_reducible rfl)))
    (try simp only [List.getElem_toArray, List.getElem_cons_zero, List.getElem_cons_succ, Act.put, List.setIfInBounds_toArray, List.set_cons_zero, List.set_cons_succ])
    first | (refine wpAnyH_take (i := 6) (v := _) rfl (by kernel_rfl) (by kernel_rfl) (by kernel_rfl) (fun _ _ _ h => h) (Or.inr ⟨?_, rfl⟩) (by assumption) ?_; rfl) | (refine wpAnyH_take (i := 6) (v := ?_) rfl (by kernel_rfl) (by kernel_rfl) (by kernel_rfl) (fun _ _ _ h => h) (Or.inl ⟨?_, ?_⟩) (by assumption) ?_; rotate_left; rfl; focus (intro w hSw; (try dsimp only at hSw); go_simp; all_goals (with_reducible rfl)))
    (try simp only [List.getElem_toArray, List.getElem_cons_zero, List.getElem_cons_succ, Act.put, List.setIfInBounds_toArray, List.set_cons_zero, List.set_cons_succ])
    first | (refine wpAnyH_take (i := 7) (v := _) rfl (by kernel_rfl) (by kernel_rfl) (by kernel_rfl) (fun _ _ _ h => h) (Or.inr ⟨?_, rfl⟩) (by assumption) ?_; rfl) | (refine wpAnyH_take (i := 7) (v := ?_) rfl (by kernel_rfl) (by kernel_rfl) (by kernel_rfl) (fun _ _ _ h => h) (Or.inl ⟨?_, ?_⟩) (by assumption) ?_; rotate_left; rfl; focus (intro w hSw; (try dsimp only at hSw); go_simp; all_goals (with_reducible rfl)))
    (try simp only [List.getElem_toArray, List.getElem_cons_zero, List.getElem_cons_succ, Act.put, List.setIfInBounds_toArray, List.set_cons_zero, List.set_cons_succ])
    first | (refine wpAnyH_take (i := 8) (v := _) rfl (by kernel_rfl) (by kernel_rfl) (by kernel_rfl) (fun _ _ _ h => h) (Or.inr ⟨?_, rfl⟩) (by assumption) ?_; rfl) | (refine wpAnyH_take (i := 8) (v := ?_) rfl (by kernel_rfl) (by kernel_rfl) (by kernel_rfl) (fun _ _ _ h => h) (Or.inl ⟨?_, ?_⟩) (by assumption) ?_; rotate_left; rfl; focus (intro w hSw; (try dsimp only at hSw); go_simp; all_goals (with_reducible rfl)))
    (try simp only [List.getElem_toArray, List.getElem_cons_zero, List.getElem_cons_succ, Act.put, List.setIfInBounds_toArray, List.set_cons_zero, List.set_cons_succ])
    refine wpAnyH_ready (rs := [4]) (by kernel_rfl) (by simp) ?_
    refine AllReadyH.cons rfl (fun K hK => ?_) AllReadyH.nil
    go_simp
    go_at_call 10
    have cq := cpr.out (w1.alloc (.cells (v.arr A1 c1) 24)).drew (HU1.out.drewN 1) (HD.out.below (below_drewN HB1.out 1))
    with_reducible refine cq.mono ?_
    rintro _ w2 ⟨rfl, hbn⟩
    have HB2 := Lib.hid (below_next (w1 := (w1.alloc (.cells (v.arr A1 c1) 24)).drew) (below_drewN HB1.out 1) hbn)
    have HU2 := Lib.hid (show UrAt w2 A1 c1 v from UrAt.below (w := (w1.alloc (.cells (v.arr A1 c1) 24)).drew) (HU1.out.drewN 1) hbn)
    have HK2 := Lib.hid (HK1.out.drew.below hbn HK1.out.drew.lt)
    have HR2 := Lib.hid (show RowT w2 g L from RowT.below (w := (w1.alloc (.cells (v.arr A1 c1) 24)).drew) HR1.out hbn HR1.out.1)
    refine hK.out _ _ ⟨HK2.out, HR2.out.2 i y HY.out⟩ (fun hHeld => ?_)
    clear hK K hbn
    (try simp only [List.getElem_toArray, List.getElem_cons_zero, List.getElem_cons_succ, Act.put, List.setIfInBounds_toArray, List.set_cons_zero, List.set_cons_succ])
    first | (refine wpAnyH_take (i := 9) (v := _) rfl (by kernel_rfl) (by kernel_rfl) (by kernel_rfl) (fun _ _ _ h => h) (Or.inr ⟨?_, rfl⟩) (by assumption) ?_; rfl) | (refine wpAnyH_take (i := 9) (v := ?_) rfl (by kernel_rfl) (by kernel_rfl) (by kernel_rfl) (fun _ _ _ h => h) (Or.inl ⟨?_, ?_⟩) (by assumption) ?_; rotate_left; rfl; focus (intro w hSw; (try dsimp only at hSw); go_simp; all_goals (with_reducible rfl)))
    (try simp only [List.getElem_toArray, List.getElem_cons_zero, List.getElem_cons_succ, Act.put, List.setIfInBounds_toArray, List.set_cons_zero, List.set_cons_succ])
    first | (refine wpAnyH_take (i := 10) (v := _) rfl (by kernel_rfl) (by kernel_rfl) (by kernel_rfl) (fun _ _ _ h => h) (Or.inr ⟨?_, rfl⟩) (by assumption) ?_; rfl) | (refine wpAnyH_take (i := 10) (v := ?_) rfl (by kernel_rfl) (by kernel_rfl) (by kernel_rfl) (fun _ _ _ h => h) (Or.inl ⟨?_, ?_⟩) (by assumption) ?_; rotate_left; rfl; focus (intro w hSw; (try dsimp only at hSw); go_simp; all_goals (with_reducible rfl)))
    (try simp only [List.getElem_toArray, List.getElem_cons_zero, List.getElem_cons_succ, Act.put, List.setIfInBounds_toArray, List.set_cons_zero, List.set_cons_succ])
    refine wpAnyH_take (i := 11) (v := _) rfl (by kernel_rfl) (by kernel_rfl) (by kernel_rfl) (fun _ _ _ h => h) (yieldsIf_load_ur (by rfl) _ rfl w1.heap.size rfl v A1 c1 (fun w h => h.1)) (by assumption) ?_
    (try simp only [List.getElem_toArray, List.getElem_cons_zero, List.getElem_cons_succ, Act.put, List.setIfInBounds_toArray, List.set_cons_zero, List.set_cons_succ])
    refine wpAnyH_ready (rs := [12]) (by kernel_rfl) (by simp) ?_
    refine AllReadyH.cons rfl (fun K hK => ?_) AllReadyH.nil
    go_simp
    go_at_call 8
    with_reducible refine (cm.out _ HU2.out (HD.out.below HB2.out)).mono ?_
    rintro _ w3 ⟨rfl, hbn⟩
    have HB3 := Lib.hid (below_next HB2.out hbn)
    have HK3 := Lib.hid (HK2.out.below hbn HK2.out.lt)
    have HR3 := Lib.hid (show RowT w3 g L from RowT.below HR2.out hbn HR2.out.1)
    refine hK.out _ _ ⟨HK3.out, HR3.out.2 i y HY.out⟩ (fun hHeld => ?_)
    clear hK K hbn
    (try simp only [List.getElem_toArray, List.getElem_cons_zero, List.getElem_cons_succ, Act.put, List.setIfInBounds_toArray, List.set_cons_zero, List.set_cons_succ])
    first | (refine wpAnyH_take (i := 13) (v := _) rfl (by kernel_rfl) (by kernel_rfl) (by kernel_rfl) (fun _ _ _ h => h) (Or.inr ⟨?_, rfl⟩) (by assumption) ?_; rfl) | (refine wpAnyH_take (i := 13) (v := ?_) rfl (by kernel_rfl) (by kernel_rfl) (by kernel_rfl) (fun _ _ _ h => h) (Or.inl ⟨?_, ?_⟩) (by assumption) ?_; rotate_left; rfl; focus (intro w hSw; (try dsimp only at hSw); go_simp; all_goals (with_reducible rfl)))
    (try simp only [List.getElem_toArray, List.getElem_cons_zero, List.getElem_cons_succ, Act.put, List.setIfInBounds_toArray, List.set_cons_zero, List.set_cons_succ])
    first | (refine wpAnyH_take (i := 14) (v := _) rfl (by kernel_rfl) (by kernel_rfl) (by kernel_rfl) (fun _ _ _ h => h) (Or.inr ⟨?_, rfl⟩) (by assumption) ?_; rfl) | (refine wpAnyH_take (i := 14) (v := ?_) rfl (by kernel_rfl) (by kernel_rfl) (by kernel_rfl) (fun _ _ _ h => h) (Or.inl ⟨?_, ?_⟩) (by assumption) ?_; rotate_left; rfl; focus (intro w hSw; (try dsimp only at hSw); go_simp; all_goals (with_reducible rfl)))
    (try simp only [List.getElem_toArray, List.getElem_cons_zero, List.getElem_cons_succ, Act.put, List.setIfInBounds_toArray, List.set_cons_zero, List.set_cons_succ])
    first | (refine wpAnyH_take (i := 15) (v := _) rfl (by kernel_rfl) (by kernel_rfl) (by kernel_rfl) (fun _ _ _ h => h) (Or.inr ⟨?_, rfl⟩) (by assumption) ?_; rfl) | (refine wpAnyH_take (i := 15) (v := ?_) rfl (by kernel_rfl) (by kernel_rfl) (by kernel_rfl) (fun _ _ _ h => h) (Or.inl ⟨?_, ?_⟩) (by assumption) ?_; rotate_left; rfl; focus (intro w hSw; (try dsimp only at hSw); go_simp; all_goals (with_reducible rfl)))
    (try simp only [List.getElem_toArray, List.getElem_cons_zero, List.getElem_cons_succ, Act.put, List.setIfInBounds_toArray, List.set_cons_zero, List.set_cons_succ])
    refine wpAnyH_done (by kernel_rfl) ?_ _
    clear hHeld hS0
    go_wp2_with fail
    exact ⟨⟨i + 1, by omega, by go_num, HR3, HB3⟩, by simp [intOf]; omega⟩
end Go.Proofs.YtolfcpbcccbmmaaDoor
